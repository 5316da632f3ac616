/- PacketShort: the walk of the law. Conditions: none but what the row reads. -/
import Derived.Test.YtahpklciafpdaaaPktWorks
set_option linter.unusedSimpArgs false
set_option linter.unusedVariables false
namespace Go.FL
open Go.RowKit
theorem run_slice_hi {P : Program} (t e : TypeId) (ht : P.underlying t = some (.slice e)) (hz : (P.info? e).map (·.size) = some 1) (p : Option Addr) (n c j : Nat) (hj : j ≤ c) (k : IntKind) (w : World) :
    (Instr.slice t (.slice p n c) none (some (.int k (j : Int))) none).run P w = .ok (sliced p 0 j c 1) w := by
  cases hq : P.info? e with
  | none => simp [hq] at hz
  | some inf =>
    have hs : inf.size = 1 := by simpa [hq] using hz
    simp [Instr.slice, run_underlying ht, Instr.sliceBounds, run_sliceBound, sizeOf, typeInfo, hq, hs, hj, sliced]
theorem wpList_slice_hi {P : Program} {w : World} {ops : Array Oper} {rest : List Oper} {o : Oper} {a : Act} {Q : Exit → Act → World → Prop} (hgd : o.guard = none) (t : TypeId) (x hi : Operand)
    (ho : o.op = .slice t x none (some hi) none) (e : TypeId) (ht : P.underlying t = some (.slice e)) (u l v : Value) (hx : a.eval x = u) (hl : a.eval hi = l) (hrun : (Instr.slice t u none (some l) none).run P w = .ok v w)
    (h : wpList P ops Q rest (a.put o.dst v) w) : wpList P ops Q (o :: rest) a w := by
  refine wpList_plain hgd fun K hK => ?_
  unfold Oper.wp execOp
  have hrun' : (Instr.sliceAt t u none (some l) none).run P w = .ok v w := by simpa [Instr.sliceAt, run_underlying ht] using hrun
  simp only [ho, Option.map_some, Option.map_none, Sem.run_bind, hx, hl, hrun', Result.andThen_ok, Sem.run_pure]
  exact hK _ _ h
end Go.FL
namespace Go.Proofs.Ytahpklciafpdaaa
open Go.RowKit Go.FL Go.ChangeShapes

set_option maxRecDepth 100000 in
set_option maxHeartbeats 1000000 in
theorem packetShort_walk {w : World} {v : Value} (l : List UInt8) (hv : Rd w v l) :
    Calls Try.prog 8 #[v] w fun e w' => e = .returned (.bool true) ∧ Below w.heap.size w w' := by
  have HV := hid hv
  obtain ⟨p, c, rfl, hlc, hcm, -, -⟩ := hv
  unfold maxLen at hcm
  obtain ⟨m, hm⟩ : ∃ m, m = min l.length 11 := ⟨_, rfl⟩
  have hm1 : m ≤ l.length := by rw [hm]; exact Nat.min_le_left _ _
  have hm2 : m ≤ 11 := by rw [hm]; exact Nat.min_le_right _ _
  have hmi : (if (11 : Int) < (l.length : Int) then (11 : Int) else (l.length : Int)) = (m : Int) := by rw [hm]; split <;> omega
  have hcut := HV.out.cut 0 m (by omega) hm1
  rw [List.drop_zero, Nat.sub_zero] at hcut
  obtain ⟨p1, c1, hsf⟩ := sliced_form p 0 m c
  rw [Nat.sub_zero] at hsf
  rw [hsf] at hcut
  have HCUT := hid hcut
  have hl : (l.take m).length = m := by rw [List.length_take]; omega
  have HRD := hid (show readP (l.take m) = (.zero, 7) by rw [readP, if_pos (by omega)])
  have HLL := hid hl
  have HS := hid (show ∀ wx, (Instr.slice 29 (.slice p l.length c) none (some (.int .i64 (m : Int))) none).run Try.prog wx = .ok (.slice p1 m c1) wx from fun wx => hsf ▸ run_slice_hi (P := Try.prog) 29 5 Try.underlying29 (by kernel_rfl) p l.length c m (by omega) .i64 wx)
  clear hcut hm hl hsf
  go_enter Try.func8, Try.ntmps8
  go_wp2_with (refine wpList_slice_hi rfl 29 (.tmp 10) (.tmp 11) rfl 5 Try.underlying29 _ _ _ rfl rfl (HS.out _) ?_)
  refine (pread_any _ _ _ HCUT.out (by rw [HLL.out]; omega)).mono ?_
  rw [HRD.out]
  rintro e w1 ⟨v1, rfl, ⟨s1, rfl, hc1, -⟩, hb1⟩
  obtain ⟨up, uc, rfl⟩ : ∃ up uc, s1 = .slice up 0 uc := by
    obtain ⟨ss, q1, q2, q3⟩ := hc1
    exact q2.form
  have G1 := hid hb1
  clear hb1 hc1
  have ht : ((Pkt.zero.tag : Nat) : Int) = 0 := rfl
  rw [ht]
  have HT := hid (RowV.new w1 25 [.int .u32 0, .slice up 0 uc])
  have G2 := hid (G1.out.alloc G1.out.size (.cells #[.int .u32 0, .slice up 0 uc] 25 (0, 0)))
  clear ht
  go_wp2_with fail
  refine (works_any _).mono ?_
  rintro e w2 ⟨rfl, hb2⟩
  have G3 := hid (gr_trans G2.out hb2)
  clear hb2
  go_wp2_with fail
  go_ret
  exact ⟨rfl, G3.out⟩
end Go.Proofs.Ytahpklciafpdaaa

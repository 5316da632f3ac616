/- ShaBytes: the walk of the law. Conditions: the package's tables hold what its text says. -/
import Derived.Test.YtjihcjfenpemfaaDoorShaEq
import Derived.Test.YtjihcjfenpemfaaDoorRegOut
import Derived.Test.YtjihcjfenpemfaaDoorExt
namespace Go.Proofs.YtjihcjfenpemfaaDoor
open Go.RowKit Go.FL

def GrR (a b : World) : Prop := Below a.heap.size a b
theorem rdStab (l : List UInt8) : Stab GrR (fun v w => Rd w v l) := fun _ _ _ h k => h.mono k
/-- What the region makes, one fact an operation. -/
def byteFacts (g : Nat) (v : Value) (i : Nat) (m d : List UInt8) : List (Value → World → Prop) :=
  [Is (.pointer (some ⟨g, 0, none⟩)), Is (.agg (bytesV d).toArray), Is v, Is (.int .i64 (i : Int)), Is (.int .i64 ((i + 1 : Nat) : Int)), (fun u w => Rd w u m), Is (.agg (bytesV d).toArray), Is (.bool false)]

theorem run_slice_to {P : Program} (t e : TypeId) (ht : P.underlying t = some (.slice e)) (p : Option Addr) (n c i : Nat) (hi : i ≤ c) (hc : 0 < c) (k : IntKind) (hz : (P.info? e).map (·.size) = some 1) (w : World) :
    (Instr.slice t (.slice p n c) none (some (.int k (i : Int))) none).run P w = .ok (.slice p i c) w := by
  cases hq : P.info? e with
  | none => simp [hq] at hz
  | some inf =>
    have hs : inf.size = 1 := by simpa [hq] using hz
    have hc0 : ¬ c = 0 := by omega
    simp [Instr.slice, run_underlying ht, Instr.sliceBounds, run_sliceBound, sizeOf, typeInfo, hq, hs, hi, hc0]
    cases p <;> simp [Addr.add]

set_option maxRecDepth 20000 in
set_option maxHeartbeats 2000000 in
theorem shaBytes_walk {w : World} (hlaid : ShaLaid w) {v : Value} (l : List UInt8) (hv : Rd w v l) :
    Calls Tryd.prog 6 #[v] w fun e w' => e = .returned (.bool true) ∧ Below w.heap.size w w' := by
  have HL := hid hlaid
  have HV := hid hv
  obtain ⟨p, c, rfl, hlc, hcm, hpn, hcell⟩ := hv
  unfold maxLen at hcm
  clear hcell hlaid
  by_cases hbig : 300 < l.length
  · go_enter Tryd.func6, Tryd.ntmps6
    go_wp2_with fail
    refine (works_any _ HL.out).mono ?_
    rintro e w' ⟨rfl, hb⟩
    go_wp2_with fail
    go_ret
    exact ⟨rfl, hb⟩
  · go_enter Tryd.func6, Tryd.ntmps6
    go_wp2_with fail
    refine (new_any _).mono ?_
    rintro e w1 ⟨rfl, hs1, hb1⟩
    have HS1 := hid hs1
    have G1 := hid hb1
    clear hs1 hb1
    go_wp2_with fail
    go_loopw [4] (fun y wr => ∃ i : Nat, i ≤ l.length ∧ y = .int .i64 (i : Int) ∧ Hid (ShaSt wr w.heap.size 42 (l.take i)) ∧ Hid (Below w.heap.size w wr)) (fun y _ => l.length - (intOf y).toNat)
    case atStart => exact ⟨0, Nat.zero_le _, rfl, HS1.out, G1.out⟩
    case round =>
      clear HS1 G1
      obtain ⟨i, hi, rfl, hs, hb⟩ := hrel
      by_cases hlt : i < l.length
      · have HS := hid hs.out
        have HB := hid hb.out
        have htk : (l.drop i).take 1 = [l[i]] := by rw [List.drop_eq_getElem_cons hlt]; rfl
        have hnx : l.take (i + 1) = l.take i ++ [l[i]] := List.take_succ_eq_append_getElem hlt
        have hcut := (HV.out.mono HB.out).cut i (i + 1) (by omega) (by omega)
        rw [Nat.add_sub_cancel_left, htk] at hcut
        have hcutO := HV.out.cut i (i + 1) (by omega) (by omega)
        rw [Nat.add_sub_cancel_left, htk] at hcutO
        have hown := rd_old hcutO w.heap.size (Nat.le_refl _)
        have hcap : ¬ c = i := by omega
        rw [sliced, if_neg hcap, Nat.add_sub_cancel_left, Nat.mul_one] at hcut hown
        have HC := hid hcut
        have HO := hid hown
        have HNX := hid hnx
        have hli : (l.take i).length ≤ 300 := by simp; omega
        clear hs hb htk hnx hcut hcutO hown
        go_wp2_with fail
        refine (write_all w.heap.size (l.take i) [l[i]] _ _ HS.out HC.out HO.out (HL.out.mono HB.out) (by simp; omega)).mono ?_
        rintro e w2 ⟨rfl, hs2, hg2⟩
        rw [← HNX.out] at hs2
        have HS2 := hid hs2
        have HB2 := hid (HB.out.trans (gb_below hg2 (Nat.le_refl _) HB.out.size))
        clear hs2 hg2 HC HO HS HB HNX
        have heq := eqSame (l.take (i + 1))
        obtain ⟨d, hd⟩ : ∃ d, d = shaSum (l.take (i + 1)) := ⟨_, rfl⟩
        rw [← hd] at heq
        have HD := hid hd
        have hlen : (l.take (i + 1)).length < 576460752303423488 := by simp; omega
        have hw1 : IntKind.i64.wrap ((i : Int) + 1) = ((i + 1 : Nat) : Int) := by rw [IntKind.wrap_i64]; omega
        have hsl := fun wx => run_slice_to (P := Tryd.prog) 22 5 Tryd.underlying22 p l.length c (i + 1) (by omega) (by omega) .i64 (by kernel_rfl) wx
        have HW1 := hid hw1
        have HSL := hid hsl
        have HEQ := hid heq
        clear hd hw1 hsl heq
        go_wp2_with fail
        refine wp_region_grow (S := factAt (byteFacts w.heap.size (.slice p l.length c) i (l.take (i + 1)) d)) (R := GrR) (by kernel_rfl) (by kernel_rfl) (by kernel_rfl) (fun _ => Below.refl _ _) (fun _ _ _ => gr_trans) (fun a => (Below.refl _ _).drew) ?_ ?_ ?_
        · refine factAt_stab ?_
          simp only [byteFacts, StabAll, Is.stab, rdStab, and_self]
        · rename_i Kk hKk; clear hKk Kk
          simp only [AllOps, List.map_cons, List.map_nil, depsOf, List.filterMap_cons, List.filterMap_nil, Region.binds, depFacts, guardF, reduceIte, List.getD_eq_getElem?_getD, List.getElem?_cons_succ, List.getElem?_cons_zero, Option.getD_some, factAt, byteFacts, Is, and_true]
          refine ⟨?_, ?_, ?_, ?_, ?_, ?_, ?_, ?_⟩
          all_goals intro ρ wv hρ hR hd
          · exact opOk_move (.inl rfl) ⟨hρ.2 3 rfl, Below.refl _ _⟩
          · exact opOk_call hρ.1 rfl rfl Tryd.func18 (by kernel_rfl) rfl (by simp [hd]) ((shaSum_any w.heap.size (l.take (i + 1)) _ (HS2.out.mono hR) (HL.out.mono (gr_trans HB2.out hR)) hlen).mono fun e w' ⟨h1, h2⟩ => ⟨_, h1, by rw [HD.out], h2⟩)
          · exact opOk_move (.inl rfl) ⟨hρ.2 0 rfl, Below.refl _ _⟩
          · exact opOk_move (.inl rfl) ⟨hρ.2 4 rfl, Below.refl _ _⟩
          · exact opOk_val (v := .int .i64 ((i + 1 : Nat) : Int)) (w' := wv) (by simp [execOp, go_sem, hρ.1.const, hd, HW1.out]) ⟨rfl, Below.refl _ _⟩
          · exact opOk_val (v := .slice p (i + 1) c) (w' := wv) (by simp only [execOp, hd.1, hd.2, Option.map_some, Option.map_none, Sem.run_bind, run_sliceAt_slice _ _ _ _ _ _ Tryd.underlying22, HSL.out]; rfl) ⟨Rd.take (HV.out.mono (gr_trans HB2.out hR)) (i + 1) (by omega), Below.refl _ _⟩
          · exact opOk_call hρ.1 rfl rfl Tryd.func12 (by kernel_rfl) rfl (by simp) ((shaOf_any _ (l.take (i + 1)) _ hd.1 (HL.out.mono (gr_trans HB2.out hR)) hlen).mono fun e w' ⟨h1, h2⟩ => ⟨_, h1, by rw [HD.out], h2⟩)
          · exact opOk_val (v := .bool false) (w' := wv) (by simp [execOp, go_sem, hd, HEQ.out]) ⟨rfl, Below.refl _ _⟩
        · intro vals wv hR hall
          have h7 := hall 7 (by simp)
          simp only [factAt, byteFacts, Is, List.getD_eq_getElem?_getD, List.getElem?_cons_succ, List.getElem?_cons_zero, Option.getD_some] at h7
          rename_i Kk hKk
          refine hKk _ _ ?_
          clear hKk Kk hall
          simp only [fillFrom, Act.put, h7, List.setIfInBounds_toArray, List.set_cons_zero, List.set_cons_succ]
          have HB3 := hid (gr_trans HB2.out hR)
          have HS3 := hid (HS2.out.mono hR)
          clear hR h7
          go_wp2
          go_roundw
          case rel => exact ⟨i + 1, by omega, by go_num, HS3.out, HB3.out⟩
          case measure => simp [intOf]; omega
      · obtain rfl : i = l.length := by omega
        have HS := hid hs.out
        have HB := hid hb.out
        rw [List.take_length] at HS
        have heq := eqSame l
        obtain ⟨d, hd⟩ : ∃ d, d = shaSum l := ⟨_, rfl⟩
        rw [← hd] at heq
        have HD := hid hd
        have hlen : l.length < 576460752303423488 := by omega
        clear hs hb hd
        go_wp2_with fail
        refine (shaSum_any w.heap.size l _ HS.out (HL.out.mono HB.out) hlen).mono ?_
        rw [← HD.out]
        rintro e w2 ⟨rfl, hb2⟩
        have HB2 := hid (gr_trans HB.out hb2)
        clear hb2
        go_wp2_with fail
        refine (shaOf_any _ l _ (HV.out.mono HB2.out) (HL.out.mono HB2.out) hlen).mono ?_
        rw [← HD.out]
        rintro e w3 ⟨rfl, hb3⟩
        have HB3 := hid (gr_trans HB2.out hb3)
        clear hb3
        go_wp2_with fail
        refine (works_any _ (HL.out.mono HB3.out)).mono ?_
        rintro e w4 ⟨rfl, hb4⟩
        go_wp2_with fail
        go_ret
        exact ⟨rfl, gr_trans HB3.out hb4⟩
end Go.Proofs.YtjihcjfenpemfaaDoor

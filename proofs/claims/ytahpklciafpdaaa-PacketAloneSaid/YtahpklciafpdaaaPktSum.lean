/- packet.sum: the bytes of a packet's sum. Conditions: what comes in reads as it should. -/
import Derived.Test.YtahpklciafpdaaaPktMay
import Derived.Test.YtahpklciafpdaaaBaseG
import Derived.Test.YtahpklciafpdaaaBaseD
set_option linter.unusedSimpArgs false
set_option linter.unusedVariables false
namespace Go.FL
open Go.RowKit
theorem run_slice_from32 {P : Program} (t e : TypeId) (ht : P.underlying t = some (.slice e)) (hz : (P.info? e).map (·.size) = some 1) (p : Option Addr) (n c i : Nat) (hi : i ≤ n) (k : IntKind) (w : World) :
    (Instr.slice t (.slice p n c) (some (.int k (i : Int))) none none).run P w = .ok (sliced p i n c 1) w := by
  cases hq : P.info? e with
  | none => simp [hq] at hz
  | some inf =>
    have hs : inf.size = 1 := by simpa [hq] using hz
    simp [Instr.slice, run_underlying ht, Instr.sliceBounds, run_sliceBound, sizeOf, typeInfo, hq, hs, hi, sliced]
theorem sliced_form (p : Option Addr) (i n c : Nat) : ∃ q d, sliced p i n c 1 = .slice q (n - i) d := by
  unfold sliced
  split
  · exact ⟨_, _, rfl⟩
  · exact ⟨_, _, rfl⟩
theorem sum_parts (b : List UInt8) : crcExt (crcExt (crcExt 0#32 (b.take 8)) [0, 0, 0, 0]) (b.drop 12) = crcExt 0#32 (bareB b) := by
  rw [bareB, crcExt_append, crcExt_append]
end Go.FL
namespace Go.Proofs.Ytahpklciafpdaaa
open Go.RowKit Go.FL Go.ChangeShapes
theorem infoU8p : (Try.prog.info? 5).map (fun i => (i.zero, i.size, i.bytes)) = some (some (.int .u8 0), 1, 1) := by kernel_rfl

set_option maxRecDepth 20000 in
set_option maxHeartbeats 1000000 in
theorem psum_any (v : Value) (b : List UInt8) (w : World) (h : Rd w v b) (hl : 12 ≤ b.length) :
    Calls Try.prog 34 #[v] w (RetOwn w 5 (beBytes 4 (sumB b))) := by
  have HV := hid h
  obtain ⟨p, c, rfl, hlc, hcm, -, -⟩ := h
  unfold maxLen at hcm
  obtain ⟨s1, hs1⟩ : ∃ s, s = crcExt 0#32 (b.take 8) := ⟨_, rfl⟩
  obtain ⟨s2, hs2⟩ : ∃ s, s = crcExt s1 [0, 0, 0, 0] := ⟨_, rfl⟩
  obtain ⟨s3, hs3⟩ : ∃ s, s = crcExt s2 (b.drop 12) := ⟨_, rfl⟩
  have HS1 := hid hs1
  have HS2 := hid hs2
  have HS3 := hid hs3
  have HSB := hid (show sumB b = s3.toNat by rw [hs3, hs2, hs1, sum_parts]; rfl)
  rw [HSB.out]
  have h8 := HV.out.take 8 (by omega)
  have hcut := HV.out.cut 12 b.length hl (Nat.le_refl _)
  rw [List.take_of_length_le (by simp)] at hcut
  obtain ⟨n, hn⟩ : ∃ n, n = b.length := ⟨_, rfl⟩
  rw [← hn] at HV hl hlc hcut ⊢
  obtain ⟨p12, c12, hs12⟩ : ∃ p3 c3, sliced p 12 n c 1 = .slice p3 (n - 12) c3 := sliced_form _ _ _ _
  rw [hs12] at hcut
  obtain ⟨n12, hn12⟩ : ∃ m, m = n - 12 := ⟨_, rfl⟩
  have HT8 := hid h8
  have HCUT := hid hcut
  rw [← hn12] at HCUT
  have HS8 := hid (show ∀ wx, (Instr.slice 29 (.slice p n c) none (some (.int .i64 8)) none).run Try.prog wx = .ok (.slice p 8 c) wx from fun wx => run_slice_to (P := Try.prog) 29 5 Try.underlying29 p n c 8 (by omega) (by omega) .i64 (by kernel_rfl) wx)
  have hsl12 : ∀ wx, (Instr.slice 29 (.slice p n c) (some (.int .i64 12)) none none).run Try.prog wx = .ok (.slice p12 n12 c12) wx := fun wx => by
    have hh := run_slice_from32 (P := Try.prog) 29 5 Try.underlying29 (by kernel_rfl) p n c 12 (by omega) .i64 wx
    rw [hs12, ← hn12] at hh
    exact hh
  have HMK := hid (show ∀ wx : World, (Instr.makeSlice 29 (.int .i64 4) (.int .i64 4)).run Try.prog wx = .ok (.slice (some ⟨wx.heap.size, 0, none⟩) 4 4) (wx.alloc (.cells (bytesV (List.replicate 4 0)).toArray 5 (0, 0))) from fun wx => run_make_u8 29 5 Try.underlying29 infoU8p .i64 .i64 4 (by omega) wx)
  have hw64 : IntKind.u64.wrap (s3.toNat : Int) = (s3.toNat : Int) := by rw [IntKind.wrap_u64]; have := s3.isLt; omega
  have HLT := hid s3.isLt
  clear hs1 hs2 hs3 h8 hcut hs12 hn12 hn
  go_enter Try.func34, Try.ntmps34
  go_wp2_with fail
  refine wp_region_gr [Is (.slice p n c), Is (.slice p 8 c), Is (.int .u32 (s1.toNat : Int)), RdF [0, 0, 0, 0], Is (.int .u32 (s2.toNat : Int)), Is (.int .u32 (s2.toNat : Int))] (by kernel_rfl) (by kernel_rfl) (by kernel_rfl) ?_ ?_ ?_
  · simp only [StabAll, Is.gr, RdF.gr, OwnF.gr, AnyF.gr, and_self]
  · rename_i Kk hKk; clear hKk Kk
    simp only [AllOps, List.map_cons, List.map_nil, depsOf, List.filterMap_cons, List.filterMap_nil, Region.binds, depFacts, guardF, reduceIte, List.getD_eq_getElem?_getD, List.getElem?_cons_succ, List.getElem?_cons_zero, Option.getD_some, factAt, and_true]
    refine ⟨?_, ?_, ?_, ?_, ?_, ?_⟩
    all_goals intro ρ wv hρ hR hd
    all_goals try simp only [Is] at hd
    · exact opOk_move (.inl rfl) ⟨by simp only [Is]; (first | exact hρ.2 0 rfl | exact hd | exact hd.1 | exact hd.2 | simp [hd]), GrR.refl _⟩
    · (exact opOk_val (v := .slice p 8 c) (w' := wv) (by simp [execOp, go_sem, hd, hρ.1.const, HS8.out]) ⟨rfl, GrR.refl _⟩)
    · exact opOk_call hρ.1 rfl rfl Try.func55 (by kernel_rfl) rfl (by simp [hd, hρ.1.const, hρ.1.func]) ((crcSum_any _ (b.take 8) _ (HT8.out.mono hR)).mono fun e w' ⟨h1, h2⟩ => ⟨_, h1, (by rw [HS1.out]; rfl), h2 ▸ GrR.refl _⟩)
    · (exact opOk_val (v := .slice (some ⟨wv.heap.size, 0, none⟩) 4 4) (w' := wv.alloc (.cells (bytesV (List.replicate 4 0)).toArray 5 (0, 0))) (by simp only [execOp, hρ.1.const, Sem.run_bind, HMK.out]; rfl) ⟨rd_new wv _ _ 4 _ rfl rfl (by unfold maxLen; omega), (Below.refl _ _).alloc (Nat.le_refl _) _⟩)
    · exact opOk_call hρ.1 rfl rfl Try.func54 (by kernel_rfl) rfl (by simp [hd, hρ.1.const, hρ.1.func]) ((crcExtend_any s1 _ [0, 0, 0, 0] _ hd.2.1).mono fun e w' ⟨h1, h2⟩ => ⟨_, h1, (by rw [HS2.out]; rfl), h2 ▸ GrR.refl _⟩)
    · exact opOk_move (.inr rfl) ⟨by simp only [Is]; (first | exact hρ.2 8 rfl | exact hd | exact hd.1 | exact hd.2 | simp [hd]), GrR.refl _⟩
  · intro vals wv hR hall
    have hend := hall 5 (by simp)
    simp only [factAt, Is, List.getD_eq_getElem?_getD, List.getElem?_cons_succ, List.getElem?_cons_zero, Option.getD_some] at hend
    clear hall
    simp only [fillFrom, Act.put, hend, List.setIfInBounds_toArray, List.set_cons_zero, List.set_cons_succ]
    have G1 := hid hR
    clear hR hend
    go_wp2_with fail
    refine (crcExtend_any s2 _ (b.drop 12) _ (HCUT.out.mono G1.out)).mono ?_
    rintro e w' ⟨rfl, rfl⟩
    rw [← HS3.out]
    go_wp2_with fail
    refine (put_at _ [] s3.toNat 4 _ _ rfl rfl (by omega) _ (Rd.nil _) (by simp) (by have := HLT.out; omega)).mono ?_
    rintro e w2 ⟨v2, rfl, ho2, hb2⟩
    have G2 := hid (gr_trans G1.out hb2)
    have HO := hid (ho2.base G1.out.size)
    clear hb2 ho2
    go_wp2_with fail
    go_ret
    exact ⟨v2, rfl, by simpa using HO.out, G2.out⟩
end Go.Proofs.Ytahpklciafpdaaa

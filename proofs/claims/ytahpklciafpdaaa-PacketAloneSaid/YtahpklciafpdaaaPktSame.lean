/- The document's Same of packets, where both are the same. Conditions: what comes in reads as it should. -/
import Derived.Test.YtahpklciafpdaaaPktMay
import Derived.Test.YtahpklciafpdaaaPktSize
set_option linter.unusedSimpArgs false
set_option linter.unusedVariables false
namespace Go.Proofs.Ytahpklciafpdaaa
open Go.RowKit Go.FL Go.ChangeShapes

set_option maxRecDepth 100000 in
set_option maxHeartbeats 2000000 in
theorem rsame_yes (p : Pkt) (v u : Value) (w : World) (h : PktAt w v p) (k : PktAt w u p) :
    Calls Try.prog 19 #[v, u] w fun e w' => e = .returned (.bool true) ∧ Below w.heap.size w w' := by
  obtain ⟨s, rfl, hcs, ht⟩ := h
  obtain ⟨t, rfl, kcs, -⟩ := k
  obtain ⟨tag, cs⟩ := p
  simp only at *
  obtain ⟨q, cp, rfl, hlc, hcm, hel⟩ := hcs
  obtain ⟨q2, cp2, rfl, hlc2, hcm2, hel2⟩ := kcs
  have HEL := hid hel
  have HEL2 := hid hel2
  unfold maxLen at hcm hcm2
  clear hel hel2
  obtain ⟨n, hn⟩ : ∃ n, n = cs.length := ⟨_, rfl⟩
  have HN := hid hn
  rw [← hn] at hlc hlc2 ⊢
  clear hn
  obtain ⟨W0, hW0⟩ : ∃ W0, W0 = w.alloc (.cells #[.int .u32 (tag : Int), .slice q n cp] 25 (0, 0)) := ⟨_, rfl⟩
  have hs0 : W0.heap.size = w.heap.size + 1 := by rw [hW0]; simp
  obtain ⟨W, hW⟩ : ∃ W, W = W0.alloc (.cells #[.int .u32 (tag : Int), .slice q2 n cp2] 25 (0, 0)) := ⟨_, rfl⟩
  have HRA := hid (show RowV W w.heap.size 25 [.int .u32 (tag : Int), .slice q n cp] by rw [hW, hW0]; exact (RowV.new w 25 _).alloc _)
  have HRB := hid (show RowV W (w.heap.size + 1) 25 [.int .u32 (tag : Int), .slice q2 n cp2] by rw [hW, ← hs0]; exact RowV.new W0 25 _)
  have G0 := hid (show Below w.heap.size w W by rw [hW, hW0]; exact ((Below.refl _ _).alloc (Nat.le_refl _) _).alloc (by simp) _)
  rw [hW0] at hW
  have HE := hid hW
  have a0 := HRA.out.at 0 (by simp)
  have a1 := HRA.out.at 1 (by simp)
  have b0 := HRB.out.at 0 (by simp)
  have b1 := HRB.out.at 1 (by simp)
  simp only [List.getElem_cons_succ, List.getElem_cons_zero] at a0 a1 b0 b1
  rw [hW] at a0 a1 b0 b1
  clear hW hW0 hs0
  have e1 : ((tag : Int) != (tag : Int)) = false := by simp
  have e3 : ((n : Int) != (n : Int)) = false := by simp
  go_enter Try.func19, Try.ntmps19
  go_wp2_with fail
  rw [← HE.out]
  clear a0 a1 b0 b1 e1 e3
  go_loopw [5] (fun y wr => ∃ (i : Nat), i ≤ n ∧ y = .int .i64 (i : Int) ∧ Hid (Below W.heap.size W wr)) (fun y _ => n - (intOf y).toNat)
  case atStart => exact ⟨0, Nat.zero_le _, rfl, hid (Below.refl _ _)⟩
  case round =>
    obtain ⟨i, hi, rfl, HB⟩ := hrel
    have HA := hid (HRA.out.mono HB.out)
    have HC := hid (HRB.out.mono HB.out)
    have f1 := HA.out.at 1 (by simp)
    have g1 := HC.out.at 1 (by simp)
    simp only [List.getElem_cons_succ, List.getElem_cons_zero] at f1 g1
    by_cases hlt : i < n
    · have hlt2 : i < cs.length := by rw [← HN.out]; exact hlt
      obtain ⟨gb, go, sl, rfl, k0, k1, k2, hrd⟩ := HEL.out i hlt2
      obtain ⟨gb2, go2, sl2, rfl, m0, m1, m2, hrd2⟩ := HEL2.out i hlt2
      have GB := hid (gr_trans G0.out HB.out)
      have K0 := hid (cell?_of_below GB.out k0)
      have K1 := hid (cell?_of_below GB.out k1)
      have K2 := hid (cell?_of_below GB.out k2)
      have M0 := hid (cell?_of_below GB.out m0)
      have M1 := hid (cell?_of_below GB.out m1)
      have M2 := hid (cell?_of_below GB.out m2)
      have HSL := hid (hrd.mono GB.out)
      have HSL2 := hid (hrd2.mono GB.out)
      have i0 : (0 : Int) ≤ (i : Int) := by omega
      have i1 : (i : Int) < (n : Int) := by omega
      have i2 : ((i : Int)).toNat = i := by omega
      generalize cs[i] = cx at *
      obtain ⟨kk, ff, b⟩ := cx
      simp only at K0 K1 K2 M0 M1 M2 hrd hrd2 HSL HSL2
      obtain ⟨ps, cps, rfl, -, -, -, -⟩ := hrd
      obtain ⟨ps2, cps2, rfl, -, -, -, -⟩ := hrd2
      have hce : chkEq ⟨kk, ff, b⟩ ⟨kk, ff, b⟩ = true := (chkEq_iff _ _).2 rfl
      have HCE := hid hce
      have F1 := hid f1
      have G1 := hid g1
      clear k0 k1 k2 m0 m1 m2 hlt2 hce
      go_wp2_with fail
      refine wp_region_gr [Is (.pointer (some ⟨w.heap.size, 1, none⟩)), Is (.slice (some ⟨gb, go, none⟩) n cp), Is (.int .i64 (i : Int)), Is (.pointer (some ⟨gb, go + i * 3, none⟩)), Is (.agg #[.int .u8 (kk.toNat : Int), .int .u8 (ff.toNat : Int), .slice ps b.length cps]), Is (.pointer (some ⟨w.heap.size + 1, 1, none⟩)), Is (.slice (some ⟨gb2, go2, none⟩) n cp2), Is (.int .i64 (i : Int)), Is (.pointer (some ⟨gb2, go2 + i * 3, none⟩)), Is (.agg #[.int .u8 (kk.toNat : Int), .int .u8 (ff.toNat : Int), .slice ps2 b.length cps2]), Is (.bool true), Is (.bool false)] (by kernel_rfl) (by kernel_rfl) (by kernel_rfl) ?_ ?_ ?_
      · simp only [StabAll, Is.gr, RdF.gr, OwnF.gr, AnyF.gr, and_self]
      · rename_i Kk hKk; clear hKk Kk
        simp only [AllOps, List.map_cons, List.map_nil, depsOf, List.filterMap_cons, List.filterMap_nil, Region.binds, depFacts, guardF, reduceIte, List.getD_eq_getElem?_getD, List.getElem?_cons_succ, List.getElem?_cons_zero, Option.getD_some, factAt, and_true]
        refine ⟨?_, ?_, ?_, ?_, ?_, ?_, ?_, ?_, ?_, ?_, ?_, ?_⟩
        all_goals intro ρ wv hρ hR hd
        all_goals try simp only [Is] at hd
        · exact opOk_val (v := .pointer (some ⟨w.heap.size, 1, none⟩)) (w' := wv) (by simp [execOp, go_sem, hρ.1.const, hρ.1.func, hd, (hρ.2 2 rfl)]) ⟨rfl, GrR.refl _⟩
        · (have h0 := cell?_of_below hR F1.out; exact opOk_val (v := .slice (some ⟨gb, go, none⟩) n cp) (w' := wv) (by simp [execOp, go_sem, hd, h0]) ⟨rfl, GrR.refl _⟩)
        · exact opOk_move (.inl rfl) ⟨by simp only [Is]; (first | exact hρ.2 5 rfl | exact hd | exact hd.1 | exact hd.2 | simp [hd]), GrR.refl _⟩
        · exact opOk_val (v := .pointer (some ⟨gb, go + i * 3, none⟩)) (w' := wv) (by simp [execOp, go_sem, hρ.1.const, hρ.1.func, hd, i0, i1, i2]) ⟨rfl, GrR.refl _⟩
        · (have h0 := cell?_of_below hR K0.out; have h1 := cell?_of_below hR K1.out; have h2 := cell?_of_below hR K2.out; exact opOk_val (v := .agg #[.int .u8 (kk.toNat : Int), .int .u8 (ff.toNat : Int), .slice ps b.length cps]) (w' := wv) (by simp [execOp, go_sem, hd, h0, h1, h2]) ⟨rfl, GrR.refl _⟩)
        · exact opOk_val (v := .pointer (some ⟨w.heap.size + 1, 1, none⟩)) (w' := wv) (by simp [execOp, go_sem, hρ.1.const, hρ.1.func, hd, (hρ.2 3 rfl)]) ⟨rfl, GrR.refl _⟩
        · (have h0 := cell?_of_below hR G1.out; exact opOk_val (v := .slice (some ⟨gb2, go2, none⟩) n cp2) (w' := wv) (by simp [execOp, go_sem, hd, h0]) ⟨rfl, GrR.refl _⟩)
        · exact opOk_move (.inl rfl) ⟨by simp only [Is]; (first | exact hρ.2 5 rfl | exact hd | exact hd.1 | exact hd.2 | simp [hd]), GrR.refl _⟩
        · exact opOk_val (v := .pointer (some ⟨gb2, go2 + i * 3, none⟩)) (w' := wv) (by simp [execOp, go_sem, hρ.1.const, hρ.1.func, hd, i0, i1, i2]) ⟨rfl, GrR.refl _⟩
        · (have h0 := cell?_of_below hR M0.out; have h1 := cell?_of_below hR M1.out; have h2 := cell?_of_below hR M2.out; exact opOk_val (v := .agg #[.int .u8 (kk.toNat : Int), .int .u8 (ff.toNat : Int), .slice ps2 b.length cps2]) (w' := wv) (by simp [execOp, go_sem, hd, h0, h1, h2]) ⟨rfl, GrR.refl _⟩)
        · exact opOk_call hρ.1 rfl rfl Try.func40 (by kernel_rfl) rfl (by simp [hd, hρ.1.const, hρ.1.func]) ((chkSame_any _ _ ⟨kk, ff, b⟩ ⟨kk, ff, b⟩ _ ⟨_, rfl, HSL.out.mono hR⟩ ⟨_, rfl, HSL2.out.mono hR⟩).mono fun e w' ⟨h1, h2⟩ => ⟨_, h1, (by rw [HCE.out]; rfl), h2⟩)
        · exact opOk_val (v := .bool false) (w' := wv) (by simp [execOp, go_sem, hρ.1.const, hρ.1.func, hd]) ⟨rfl, GrR.refl _⟩
      · intro vals wv hR hall
        have hend := hall 11 (by simp)
        simp only [factAt, Is, List.getD_eq_getElem?_getD, List.getElem?_cons_succ, List.getElem?_cons_zero, Option.getD_some] at hend
        clear hall
        simp only [fillFrom, Act.put, hend, List.setIfInBounds_toArray, List.set_cons_zero, List.set_cons_succ]
        have HB2 := hid (gr_trans HB.out hR)
        clear hR hend f1 g1
        go_wp2_with fail
        go_roundw
        case rel => exact ⟨i + 1, by omega, by go_num, HB2⟩
        case measure => simp [intOf]; omega
    · obtain rfl : i = n := by omega
      go_wp2_with fail
      go_ret
      exact ⟨rfl, gr_trans G0.out HB.out⟩
end Go.Proofs.Ytahpklciafpdaaa

/- CookieFresh: the walk of the law. Conditions: the tables of sha hold what its text says. -/
import Derived.Test.YtjpemfciiakphaaDoorCookWorks
import Derived.Test.YtjpemfciiakphaaDoorRegGr
import Derived.OpenShut
namespace Go.Proofs.YtjpemfciiakphaaDoor
open Go.RowKit Go.FL Go.ChangeShapes

theorem freshZ (b : Int) (hb : -9223372036854775808 ≤ b ∧ b < 9223372036854775808) (now life : Int) (h1 : -9223372036854775808 ≤ now ∧ now < 9223372036854775808) (h2 : -9223372036854775808 ≤ life ∧ life < 9223372036854775808) (w : World) :
    Calls Tryd.prog 16 #[.agg #[.int .i64 b, .int .u32 0, .int .u32 0, .int .u32 0, .int .u32 0, .int .u32 0, .int .u16 0, .int .u16 0], .int .i64 now, .int .i64 life] w fun e w' => e = .returned (.bool (freshB b now life)) ∧ Below w.heap.size w w' :=
  fresh_walk ⟨b, 0, 0, 0, 0, 0, 0, 0⟩ ⟨hb, by simp⟩ now life h1 h2 w
theorem refFreshZ (b : Int) (hb : -9223372036854775808 ≤ b ∧ b < 9223372036854775808) (now life : Int) (h1 : -9223372036854775808 ≤ now ∧ now < 9223372036854775808) (h2 : -9223372036854775808 ≤ life ∧ life < 9223372036854775808) (w : World) :
    Calls Tryd.prog 17 #[.agg #[.int .i64 b, .int .u32 0, .int .u32 0, .int .u32 0, .int .u32 0, .int .u32 0, .int .u16 0, .int .u16 0], .int .i64 now, .int .i64 life] w fun e w' => e = .returned (.bool (freshB b now life)) ∧ Below w.heap.size w w' :=
  refFresh_walk ⟨b, 0, 0, 0, 0, 0, 0, 0⟩ ⟨hb, by simp⟩ now life h1 h2 w

set_option maxRecDepth 100000 in
set_option maxHeartbeats 4000000 in
theorem cookieFresh_walk {w : World} (hlaid : ShaLaid w) (b : Int) (hb0 : (Lit.int .i64 b).wf = true) (n : Int) (hn0 : (Lit.int .i64 n).wf = true) (l : Int) (hl0 : (Lit.int .i64 l).wf = true) :
    Calls Tryd.prog 7 #[.int .i64 b, .int .i64 n, .int .i64 l] w fun e w' => e = .returned (.bool true) ∧ Below w.heap.size w w' := by
  have hb1 := bounds_i64 hb0
  have hn1 := bounds_i64 hn0
  have hl1 := bounds_i64 hl0
  clear hb0 hn0 hl0
  have HL := hid hlaid
  clear hlaid
  have hb2 : -9223372036854775808 ≤ b ∧ b < 9223372036854775808 := ⟨hb1.1, by omega⟩
  obtain ⟨W, hW⟩ : ∃ W, W = w.alloc (.cells #[.int .i64 b, .int .u32 0, .int .u32 0, .int .u32 0, .int .u32 0, .int .u32 0, .int .u16 0, .int .u16 0] 26 (0, 0)) := ⟨_, rfl⟩
  have HR0 := hid (show RowV W w.heap.size 26 [.int .i64 b, .int .u32 0, .int .u32 0, .int .u32 0, .int .u32 0, .int .u32 0, .int .u16 0, .int .u16 0] by rw [hW]; exact RowV.new w 26 _)
  have G0 := hid (show Below w.heap.size w W by rw [hW]; exact (Below.refl _ _).alloc (Nat.le_refl _) _)
  have HE := hid hW
  clear hW
  obtain ⟨fb, hfb⟩ : ∃ fb, freshB b n l = fb := ⟨_, rfl⟩
  have HF := hid hfb
  go_enter Tryd.func7, Tryd.ntmps7
  go_wp2_with fail
  rw [← HE.out]
  refine wp_region_gr [Is (.agg ([.int .i64 b, .int .u32 0, .int .u32 0, .int .u32 0, .int .u32 0, .int .u32 0, .int .u16 0, .int .u16 0]).toArray), Is (.int .i64 n), Is (.int .i64 l), Is (.bool fb), Is (.agg ([.int .i64 b, .int .u32 0, .int .u32 0, .int .u32 0, .int .u32 0, .int .u32 0, .int .u16 0, .int .u16 0]).toArray), Is (.int .i64 n), Is (.int .i64 l), Is (.bool fb), Is (.bool false)] (by kernel_rfl) (by kernel_rfl) (by kernel_rfl) ?_ ?_ ?_
  · simp only [StabAll, Is.gr, RdF.gr, OwnF.gr, AnyF.gr, and_self]
  · rename_i Kk hKk; clear hKk Kk
    simp only [AllOps, List.map_cons, List.map_nil, depsOf, List.filterMap_cons, List.filterMap_nil, Region.binds, depFacts, guardF, reduceIte, List.getD_eq_getElem?_getD, List.getElem?_cons_succ, List.getElem?_cons_zero, Option.getD_some, factAt, and_true]
    refine ⟨?_, ?_, ?_, ?_, ?_, ?_, ?_, ?_, ?_⟩
    all_goals intro ρ wv hρ hR hd
    all_goals try simp only [Is] at hd
    · exact opOk_loadRow rfl (w.heap.size) (by first | exact hρ.2 _ rfl | simp [hd]) _ ([.int .i64 b, .int .u32 0, .int .u32 0, .int .u32 0, .int .u32 0, .int .u32 0, .int .u16 0, .int .u16 0]) _ (HR0.out.mono hR) Tryd.underlying26 rfl (by kernel_rfl) ⟨rfl, GrR.refl _⟩
    · exact opOk_move (.inl rfl) ⟨by simp only [Is]; (first | exact hρ.2 1 rfl | exact hd | exact hd.1 | exact hd.2 | simp [hd]), GrR.refl _⟩
    · exact opOk_move (.inl rfl) ⟨by simp only [Is]; (first | exact hρ.2 2 rfl | exact hd | exact hd.1 | exact hd.2 | simp [hd]), GrR.refl _⟩
    · exact opOk_call hρ.1 rfl rfl Tryd.func16 (by kernel_rfl) rfl (by simp [hd, hρ.1.const]) ((freshZ b hb2 n l (by omega) (by omega) _).mono fun e w' ⟨h1, h2⟩ => ⟨_, h1, by rw [HF.out]; rfl, h2⟩)
    · exact opOk_loadRow rfl (w.heap.size) (by first | exact hρ.2 _ rfl | simp [hd]) _ ([.int .i64 b, .int .u32 0, .int .u32 0, .int .u32 0, .int .u32 0, .int .u32 0, .int .u16 0, .int .u16 0]) _ (HR0.out.mono hR) Tryd.underlying26 rfl (by kernel_rfl) ⟨rfl, GrR.refl _⟩
    · exact opOk_move (.inl rfl) ⟨by simp only [Is]; (first | exact hρ.2 1 rfl | exact hd | exact hd.1 | exact hd.2 | simp [hd]), GrR.refl _⟩
    · exact opOk_move (.inl rfl) ⟨by simp only [Is]; (first | exact hρ.2 2 rfl | exact hd | exact hd.1 | exact hd.2 | simp [hd]), GrR.refl _⟩
    · exact opOk_call hρ.1 rfl rfl Tryd.func17 (by kernel_rfl) rfl (by simp [hd, hρ.1.const]) ((refFreshZ b hb2 n l (by omega) (by omega) _).mono fun e w' ⟨h1, h2⟩ => ⟨_, h1, by rw [HF.out]; rfl, h2⟩)
    · exact opOk_val (v := .bool false) (w' := wv) (by simp [execOp, go_sem, hρ.1.const, hρ.1.func, hd]) ⟨rfl, GrR.refl _⟩
  · intro vals wv hR hall
    have hend := hall 8 (by simp)
    simp only [factAt, Is, List.getD_eq_getElem?_getD, List.getElem?_cons_succ, List.getElem?_cons_zero, Option.getD_some] at hend
    clear hall
    simp only [fillFrom, Act.put, hend, List.setIfInBounds_toArray, List.set_cons_zero, List.set_cons_succ]
    rename_i Kk hKk
    refine hKk _ _ ?_
    clear hKk Kk
    have HR1 := hid (HR0.out.mono hR)
    have G1 := hid (gr_trans G0.out hR)
    clear hR
    obtain ⟨k0, k1, k2, k3, k4, k5, k6, k7⟩ := HR1.out.eight
    have hsub : b ≠ -9223372036854775808 → IntKind.i64.wrap (b - 1) = b - 1 := fun h => by rw [IntKind.wrap_i64]; omega
    by_cases hneg : l < 0
    · go_wp2_with fail
      refine (freshZ b hb2 (n) (l) (by omega) (by omega) _).mono ?_
      rintro e w2 ⟨rfl, hb⟩
      rw [show freshB b (n) (l) = false by simp [freshB]; omega]
      have HR2 := hid (HR1.out.mono hb)
      have G2 := hid (gr_trans G1.out hb)
      clear hb k0 k1 k2 k3 k4 k5 k6 k7
      obtain ⟨k0, k1, k2, k3, k4, k5, k6, k7⟩ := HR2.out.eight
      go_wp2_with fail
      refine (works_any _ (HL.out.mono G2.out)).mono ?_
      rintro e w' ⟨rfl, hb⟩
      go_wp2_with fail
      go_ret
      exact ⟨rfl, gr_trans G2.out hb⟩
    · have hneg' : 0 ≤ l := by omega
      by_cases hlt : n < b
      · go_wp2_with fail
        refine (freshZ b hb2 (n) (l) (by omega) (by omega) _).mono ?_
        rintro e w2 ⟨rfl, hb⟩
        rw [show freshB b (n) (l) = false by simp [freshB]; omega]
        have HR2 := hid (HR1.out.mono hb)
        have G2 := hid (gr_trans G1.out hb)
        clear hb k0 k1 k2 k3 k4 k5 k6 k7
        obtain ⟨k0, k1, k2, k3, k4, k5, k6, k7⟩ := HR2.out.eight
        go_wp2_with fail
        refine (works_any _ (HL.out.mono G2.out)).mono ?_
        rintro e w' ⟨rfl, hb⟩
        go_wp2_with fail
        go_ret
        exact ⟨rfl, gr_trans G2.out hb⟩
      · by_cases hmin : b = -9223372036854775808
        · subst hmin
          go_wp2_with fail
          refine (freshZ (-9223372036854775808) (by omega) (-9223372036854775808) (l) (by omega) (by omega) _).mono ?_
          rintro e w2 ⟨rfl, hb⟩
          rw [show freshB (-9223372036854775808) (-9223372036854775808) (l) = true by simp [freshB]; omega]
          have HR2 := hid (HR1.out.mono hb)
          have G2 := hid (gr_trans G1.out hb)
          clear hb k0 k1 k2 k3 k4 k5 k6 k7
          obtain ⟨k0, k1, k2, k3, k4, k5, k6, k7⟩ := HR2.out.eight
          go_wp2_with fail
          refine (works_any _ (HL.out.mono G2.out)).mono ?_
          rintro e w' ⟨rfl, hb⟩
          go_wp2_with fail
          go_ret
          exact ⟨rfl, gr_trans G2.out hb⟩
        · have hs1 := hsub hmin
          have hgt : -9223372036854775808 < b := by omega
          clear hsub
          go_wp2_with fail
          refine (freshZ b hb2 (b) (l) (by omega) (by omega) _).mono ?_
          rintro e w2 ⟨rfl, hb⟩
          rw [show freshB b (b) (l) = true by simp [freshB]; omega]
          have HR2 := hid (HR1.out.mono hb)
          have G2 := hid (gr_trans G1.out hb)
          clear hb k0 k1 k2 k3 k4 k5 k6 k7
          obtain ⟨k0, k1, k2, k3, k4, k5, k6, k7⟩ := HR2.out.eight
          go_wp2_with fail
          refine (freshZ b hb2 (b - 1) (l) (by omega) (by omega) _).mono ?_
          rintro e w3 ⟨rfl, hb⟩
          rw [show freshB b (b - 1) (l) = false by simp [freshB]; omega]
          have HR3 := hid (HR2.out.mono hb)
          have G3 := hid (gr_trans G2.out hb)
          clear hb k0 k1 k2 k3 k4 k5 k6 k7
          obtain ⟨k0, k1, k2, k3, k4, k5, k6, k7⟩ := HR3.out.eight
          by_cases c1 : 0 ≤ b
          · by_cases c2 : b ≤ 4611686018427387904
            · by_cases c3 : l < 4611686018427387904
              · have hs2 : IntKind.i64.wrap (b + l) = b + l := by rw [IntKind.wrap_i64]; omega
                obtain ⟨m, hs3⟩ : ∃ m, IntKind.i64.wrap (b + l + 1) = m := ⟨_, rfl⟩
                have hm : (-9223372036854775808 ≤ m ∧ m < 9223372036854775808) ∧ (m < b ∨ m = b + l + 1) := by rw [← hs3, IntKind.wrap_i64]; omega
                go_wp2_with fail
                refine (freshZ b hb2 (b + l) (l) (by omega) (by omega) _).mono ?_
                rintro e w4 ⟨rfl, hb⟩
                rw [show freshB b (b + l) (l) = true by simp [freshB]; omega]
                have HR4 := hid (HR3.out.mono hb)
                have G4 := hid (gr_trans G3.out hb)
                clear hb k0 k1 k2 k3 k4 k5 k6 k7
                obtain ⟨k0, k1, k2, k3, k4, k5, k6, k7⟩ := HR4.out.eight
                go_wp2_with fail
                refine (freshZ b hb2 (m) (l) (by omega) (by omega) _).mono ?_
                rintro e w5 ⟨rfl, hb⟩
                rw [show freshB b (m) (l) = false by simp [freshB]; omega]
                have HR5 := hid (HR4.out.mono hb)
                have G5 := hid (gr_trans G4.out hb)
                clear hb k0 k1 k2 k3 k4 k5 k6 k7
                obtain ⟨k0, k1, k2, k3, k4, k5, k6, k7⟩ := HR5.out.eight
                go_wp2_with fail
                refine (works_any _ (HL.out.mono G5.out)).mono ?_
                rintro e w' ⟨rfl, hb⟩
                go_wp2_with fail
                go_ret
                exact ⟨rfl, gr_trans G5.out hb⟩
              · go_wp2_with fail
                refine (works_any _ (HL.out.mono G3.out)).mono ?_
                rintro e w' ⟨rfl, hb⟩
                go_wp2_with fail
                go_ret
                exact ⟨rfl, gr_trans G3.out hb⟩
            · go_wp2_with fail
              refine (works_any _ (HL.out.mono G3.out)).mono ?_
              rintro e w' ⟨rfl, hb⟩
              go_wp2_with fail
              go_ret
              exact ⟨rfl, gr_trans G3.out hb⟩
          · go_wp2_with fail
            refine (works_any _ (HL.out.mono G3.out)).mono ?_
            rintro e w' ⟨rfl, hb⟩
            go_wp2_with fail
            go_ret
            exact ⟨rfl, gr_trans G3.out hb⟩
end Go.Proofs.YtjpemfciiakphaaDoor

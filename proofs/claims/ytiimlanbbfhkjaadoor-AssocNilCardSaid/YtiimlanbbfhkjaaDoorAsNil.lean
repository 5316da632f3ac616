/- What no association answers; whether one thing is more than a statement plays. Conditions: none. -/
import Derived.Test.YtiimlanbbfhkjaaDoorAsWorks
set_option linter.unusedSimpArgs false
set_option linter.unusedVariables false


namespace Go.Proofs.YtiimlanbbfhkjaaDoor

open Go.RowKit Go.FL Go.ChangeShapes

set_option maxRecDepth 100000 in
theorem nil_state (w : World) : Calls Tryd.prog 21 #[.pointer none] w fun e w' => e = .returned (.int .u8 0) ∧ w = w' := by
  go_enter Tryd.func21, Tryd.ntmps21
  go_wp2_with fail
  go_ret
  exact ⟨rfl, rfl⟩
set_option maxRecDepth 100000 in
theorem nil_tags (w : World) : Calls Tryd.prog 16 #[.pointer none] w fun e w' => e = .returned (.tuple #[.int .u32 0, .int .u32 0]) ∧ w = w' := by
  go_enter Tryd.func16, Tryd.ntmps16
  go_wp2_with fail
  go_ret2
  exact ⟨rfl, rfl⟩
set_option maxRecDepth 100000 in
theorem nil_when (w : World) : Calls Tryd.prog 26 #[.pointer none] w fun e w' => e = .returned (.tuple #[.int .i64 0, .bool false]) ∧ w = w' := by
  go_enter Tryd.func26, Tryd.ntmps26
  go_wp2_with fail
  go_ret2
  exact ⟨rfl, rfl⟩
set_option maxRecDepth 100000 in
theorem nil_out (w : World) : Calls Tryd.prog 19 #[.pointer none] w fun e w' => e = .returned (.slice none 0 0) ∧ w = w' := by
  go_enter Tryd.func19, Tryd.ntmps19
  go_wp2_with fail
  go_ret
  exact ⟨rfl, rfl⟩
set_option maxRecDepth 100000 in
theorem nil_open (w : World) (b : Bool) (x y : Int) : Calls Tryd.prog 8 #[.pointer none, .int .i64 0, .bool b, .int .u32 x, .int .u32 y] w fun e w' => e = .returned (.int .i64 2) ∧ w = w' := by
  go_enter Tryd.func8, Tryd.ntmps8
  go_wp2_with fail
  go_ret
  exact ⟨rfl, rfl⟩
set_option maxRecDepth 100000 in
theorem nil_shutdown (w : World) : Calls Tryd.prog 11 #[.pointer none] w fun e w' => e = .returned (.int .i64 2) ∧ w = w' := by
  go_enter Tryd.func11, Tryd.ntmps11
  go_wp2_with fail
  go_ret
  exact ⟨rfl, rfl⟩
set_option maxRecDepth 100000 in
theorem nil_drained (w : World) : Calls Tryd.prog 24 #[.pointer none, .int .i64 1, .int .u32 2] w fun e w' => e = .returned (.tuple #[]) ∧ w = w' := by
  go_enter Tryd.func24, Tryd.ntmps24
  go_wp2_with fail
  refine (nil_state _).mono ?_
  rintro e w1 ⟨rfl, rfl⟩
  go_wp2_with fail
  go_end0
  exact ⟨rfl, rfl⟩
set_option maxRecDepth 100000 in
theorem nil_heard (w : World) : Calls Tryd.prog 25 #[.pointer none] w fun e w' => e = .returned (.tuple #[]) ∧ w = w' := by
  go_enter Tryd.func25, Tryd.ntmps25
  go_wp2_with fail
  refine (nil_state _).mono ?_
  rintro e w1 ⟨rfl, rfl⟩
  go_wp2_with fail
  go_end0
  exact ⟨rfl, rfl⟩
theorem abort_ret {a : Act} {W : World} {g : Nat} {R : Ending → World → Prop} (v0 v1 v2 v3 v4 v5 v6 v7 v8 v9 x : Value) (h2 : a.tmps.getD 4 undef = .pointer (some ⟨g, 0, none⟩)) (h5 : a.tmps.getD 5 undef = x) (hd : a.defers = [])
    (hc : RowV W g 33 [v0, v1, v2, v3, v4, v5, v6, v7, v8, v9]) (hR : R (.returned (.tuple #[.agg #[v0, v1, v2, v3, v4, v5, v6, v7, v8, v9], x])) W) : bodyPost Tryd.prog Tryd.f23 R .ret a W := by
  refine bodyPost_ret (v := .tuple #[.agg #[v0, v1, v2, v3, v4, v5, v6, v7, v8, v9], x]) ?_ hd hR
  have c0 := hc.at 0 (by simp)
  have c1 := hc.at 1 (by simp)
  have c2 := hc.at 2 (by simp)
  have c3 := hc.at 3 (by simp)
  have c4 := hc.at 4 (by simp)
  have c5 := hc.at 5 (by simp)
  have c6 := hc.at 6 (by simp)
  have c7 := hc.at 7 (by simp)
  have c8 := hc.at 8 (by simp)
  have c9 := hc.at 9 (by simp)
  simp only [List.getElem_cons_succ, List.getElem_cons_zero] at c0 c1 c2 c3 c4 c5 c6 c7 c8 c9
  simp only [Array.getD_eq_getD_getElem?] at h2 h5
  simp [results, Tryd.results23, go_sem, h2, h5, asAddr, c0, c1, c2, c3, c4, c5, c6, c7, c8, c9]
set_option maxRecDepth 100000 in
theorem nil_abort (w : World) : Calls Tryd.prog 23 #[.pointer none, .int .i64 1] w fun e w' => e = .returned (.tuple #[EvD.val .none, .int .i64 2]) ∧ Below w.heap.size w w' := by
  obtain ⟨W, hW⟩ : ∃ W, W = w.alloc (.cells #[.bool false, .bool false, .bool false, .int .u32 0, .int .u32 0, .int .u16 0, .int .u16 0, .int .u32 0, .slice none 0 0, .int .u32 0] 33 (0, 0)) := ⟨_, rfl⟩
  have HEV := hid (show RowV W w.heap.size 33 [.bool false, .bool false, .bool false, .int .u32 0, .int .u32 0, .int .u16 0, .int .u16 0, .int .u32 0, .slice none 0 0, .int .u32 0] by rw [hW]; exact RowV.new w _ _)
  have G0 := hid (show Below w.heap.size w W by rw [hW]; exact (Below.refl _ _).alloc (Nat.le_refl _) _)
  have HE := hid hW
  clear hW
  go_enter Tryd.func23, Tryd.ntmps23
  go_wp2_with fail
  rw [← HE.out]
  exact abort_ret (.bool false) (.bool false) (.bool false) (.int .u32 0) (.int .u32 0) (.int .u16 0) (.int .u16 0) (.int .u32 0) (.slice none 0 0) (.int .u32 0) (.int .i64 2) rfl rfl rfl HEV.out ⟨rfl, G0.out⟩
set_option maxRecDepth 100000 in
theorem nil_chunk (w : World) (ck cf : Int) (pb : Option Addr) (nb cb : Nat) : Calls Tryd.prog 27 #[.pointer none, .int .i64 0, .int .i64 0, .agg #[.int .u8 ck, .int .u8 cf, .slice pb nb cb]] w fun e w' => e = .returned (EvD.val .none) ∧ Below w.heap.size w w' := by
  obtain ⟨W0, hW0⟩ : ∃ W, W = w.alloc (.cells #[.int .u8 ck, .int .u8 cf, .slice pb nb cb] 47 (0, 0)) := ⟨_, rfl⟩
  have hs0 : W0.heap.size = w.heap.size + 1 := by rw [hW0]; simp
  obtain ⟨W, hW⟩ : ∃ W, W = W0.alloc (.cells #[.bool false, .bool false, .bool false, .int .u32 0, .int .u32 0, .int .u16 0, .int .u16 0, .int .u32 0, .slice none 0 0, .int .u32 0] 33 (0, 0)) := ⟨_, rfl⟩
  have HEV := hid (show RowV W (w.heap.size + 1) 33 [.bool false, .bool false, .bool false, .int .u32 0, .int .u32 0, .int .u16 0, .int .u16 0, .int .u32 0, .slice none 0 0, .int .u32 0] by rw [hW, ← hs0]; exact RowV.new W0 _ _)
  have G0 := hid (show Below w.heap.size w W by rw [hW, hW0]; exact ((Below.refl _ _).alloc (Nat.le_refl _) _).alloc (by simp) _)
  rw [hW0] at hW
  have HE := hid hW
  clear hW hs0 hW0 W0
  go_enter Tryd.func27, Tryd.ntmps27
  go_wp2_with fail
  rw [← HE.out]
  exact chunk_ret (.bool false) (.bool false) (.bool false) (.int .u32 0) (.int .u32 0) (.int .u16 0) (.int .u16 0) (.int .u32 0) (.slice none 0 0) (.int .u32 0) rfl rfl HEV.out ⟨rfl, G0.out⟩
set_option maxRecDepth 100000 in
theorem nil_takes (w : World) (tag : Int) (pb : Option Addr) (nb cb : Nat) : Calls Tryd.prog 15 #[.pointer none, .agg #[.int .u32 tag, .slice pb nb cb]] w fun e w' => e = .returned (.bool false) ∧ Below w.heap.size w w' := by
  have G := hid (show Below w.heap.size w (w.alloc (.cells #[.int .u32 tag, .slice pb nb cb] 45 (0, 0))) from (Below.refl _ _).alloc (Nat.le_refl _) _)
  go_enter Tryd.func15, Tryd.ntmps15
  go_wp2_with fail
  go_ret
  exact ⟨rfl, G.out⟩
set_option maxRecDepth 100000 in
set_option maxHeartbeats 4000000 in
theorem nil_tick (w : World) : Calls Tryd.prog 20 #[.pointer none, .int .i64 9] w fun e w' => e = .returned (EvD.val .none) ∧ Below w.heap.size w w' := by
  obtain ⟨W, hW⟩ : ∃ W, W = w.alloc (.cells #[.bool false, .bool false, .bool false, .int .u32 0, .int .u32 0, .int .u16 0, .int .u16 0, .int .u32 0, .slice none 0 0, .int .u32 0] 33 (0, 0)) := ⟨_, rfl⟩
  have HEV := hid (show RowV W w.heap.size 33 [.bool false, .bool false, .bool false, .int .u32 0, .int .u32 0, .int .u16 0, .int .u16 0, .int .u32 0, .slice none 0 0, .int .u32 0] by rw [hW]; exact RowV.new w _ _)
  have G0 := hid (show Below w.heap.size w W by rw [hW]; exact (Below.refl _ _).alloc (Nat.le_refl _) _)
  have HE := hid hW
  clear hW
  go_enter Tryd.func20, Tryd.ntmps20
  go_wp2_with fail
  rw [← HE.out]
  refine wp_region_gr [Is (.pointer none), Is (.bool true), Is (.bool true), AnyF, AnyF, AnyF, AnyF, AnyF, Is (.bool true), Is (.bool true), AnyF, AnyF, AnyF, AnyF, AnyF, AnyF, AnyF, Is (.bool true)] (by kernel_rfl) (by kernel_rfl) (by kernel_rfl) ?_ ?_ ?_
  · simp only [StabAll, Is.gr, RdF.gr, OwnF.gr, AnyF.gr, and_self]
  · try (rename_i Kk hKk; clear hKk Kk)
    simp only [AllOps, List.map_cons, List.map_nil, depsOf, List.filterMap_cons, List.filterMap_nil, Region.binds, depFacts, guardF, reduceIte, List.getD_eq_getElem?_getD, List.getElem?_cons_succ, List.getElem?_cons_zero, Option.getD_some, factAt, and_true]
    refine ⟨?_, ?_, ?_, ?_, ?_, ?_, ?_, ?_, ?_, ?_, ?_, ?_, ?_, ?_, ?_, ?_, ?_, ?_⟩
    all_goals intro ρ wv hρ hR hd
    all_goals try simp only [Is] at hd
    · exact opOk_move (.inl rfl) ⟨by simp only [Is]; (first | exact hρ.2 0 rfl | exact hd | exact hd.1 | exact hd.2 | simp [hd]), GrR.refl _⟩
    · exact opOk_val (v := .bool true) (w' := wv) (by simp [execOp, go_sem, hρ.1.const, hρ.1.func, hd]) ⟨rfl, GrR.refl _⟩
    · exact opOk_move (.inl rfl) ⟨by simp only [Is]; (first | exact hρ.2 6 rfl | exact hd | exact hd.1 | exact hd.2 | simp [hd]), GrR.refl _⟩
    · exact ⟨fun hg => absurd hg (by simp [hd]), fun _ => trivial⟩
    · exact ⟨fun hg => absurd hg (by simp [hd]), fun _ => trivial⟩
    · exact ⟨fun hg => absurd hg (by simp [hd]), fun _ => trivial⟩
    · exact ⟨fun hg => absurd hg (by simp [hd]), fun _ => trivial⟩
    · exact ⟨fun hg => absurd hg (by simp [hd]), fun _ => trivial⟩
    · exact opOk_val (v := .bool true) (w' := wv) (by simp [execOp, go_sem, hρ.1.const, hρ.1.func, hd]) ⟨rfl, GrR.refl _⟩
    · exact opOk_move (.inl rfl) ⟨by simp only [Is]; (first | exact hρ.2 13 rfl | exact hd | exact hd.1 | exact hd.2 | simp [hd]), GrR.refl _⟩
    · exact ⟨fun hg => absurd hg (by simp [hd]), fun _ => trivial⟩
    · exact ⟨fun hg => absurd hg (by simp [hd]), fun _ => trivial⟩
    · exact ⟨fun hg => absurd hg (by simp [hd]), fun _ => trivial⟩
    · exact ⟨fun hg => absurd hg (by simp [hd]), fun _ => trivial⟩
    · exact ⟨fun hg => absurd hg (by simp [hd]), fun _ => trivial⟩
    · exact ⟨fun hg => absurd hg (by simp [hd]), fun _ => trivial⟩
    · exact ⟨fun hg => absurd hg (by simp [hd]), fun _ => trivial⟩
    · exact opOk_val (v := .bool true) (w' := wv) (by simp [execOp, go_sem, hρ.1.const, hρ.1.func, hd]) ⟨rfl, GrR.refl _⟩
  · intro vals wv hR hall
    have i17 := hall 17 (by simp)
    simp only [factAt, Is, List.getD_eq_getElem?_getD, List.getElem?_cons_succ, List.getElem?_cons_zero, Option.getD_some] at i17
    clear hall
    simp only [fillFrom, Act.put, i17, List.setIfInBounds_toArray, List.set_cons_zero, List.set_cons_succ]
    rename_i Kk hKk
    refine hKk _ _ ?_
    clear hKk Kk
    have HEV3 := hid (HEV.out.mono hR)
    have HG3 := hid (gr_trans G0.out hR)
    clear hR i17
    have y0 := HEV3.out.at 0 (by simp)
    have y1 := HEV3.out.at 1 (by simp)
    have y2 := HEV3.out.at 2 (by simp)
    have y3 := HEV3.out.at 3 (by simp)
    have y4 := HEV3.out.at 4 (by simp)
    have y5 := HEV3.out.at 5 (by simp)
    have y6 := HEV3.out.at 6 (by simp)
    have y7 := HEV3.out.at 7 (by simp)
    have y8 := HEV3.out.at 8 (by simp)
    have y9 := HEV3.out.at 9 (by simp)
    simp only [List.getElem_cons_succ, List.getElem_cons_zero] at y0 y1 y2 y3 y4 y5 y6 y7 y8 y9
    have f0 := HEV3.out.frozen 0
    have f1 := HEV3.out.frozen 1
    have f2 := HEV3.out.frozen 2
    have f3 := HEV3.out.frozen 3
    have f4 := HEV3.out.frozen 4
    have f5 := HEV3.out.frozen 5
    have f6 := HEV3.out.frozen 6
    have f7 := HEV3.out.frozen 7
    have f8 := HEV3.out.frozen 8
    have f9 := HEV3.out.frozen 9
    go_wp2_with fail
    clear y0 f0 y1 f1 y2 f2 y3 f3 y4 f4 y5 f5 y6 f6 y7 f7 y8 f8 y9 f9
    have HEC := hid (show Chg (fun k => k = w.heap.size) wv _ from (((((((((((Chg.refl (fun k => k = w.heap.size) wv).set ⟨w.heap.size, 0, none⟩ (.bool false) (.inl rfl)).set ⟨w.heap.size, 1, none⟩ (.bool false) (.inl rfl)).set ⟨w.heap.size, 2, none⟩ (.bool false) (.inl rfl)).set ⟨w.heap.size, 3, none⟩ (.int .u32 0) (.inl rfl)).set ⟨w.heap.size, 4, none⟩ (.int .u32 0) (.inl rfl)).set ⟨w.heap.size, 5, none⟩ (.int .u16 0) (.inl rfl)).set ⟨w.heap.size, 6, none⟩ (.int .u16 0) (.inl rfl)).set ⟨w.heap.size, 7, none⟩ (.int .u32 0) (.inl rfl)).set ⟨w.heap.size, 8, none⟩ (.slice none 0 0) (.inl rfl)).set ⟨w.heap.size, 9, none⟩ (.int .u32 0) (.inl rfl)))
    exact tick_ret (.bool false) (.bool false) (.bool false) (.int .u32 0) (.int .u32 0) (.int .u16 0) (.int .u16 0) (.int .u32 0) (.slice none 0 0) (.int .u32 0) rfl rfl ((((((((((HEV3.out.store 0 (.bool false)).store 1 (.bool false)).store 2 (.bool false)).store 3 (.int .u32 0)).store 4 (.int .u32 0)).store 5 (.int .u16 0)).store 6 (.int .u16 0)).store 7 (.int .u32 0)).store 8 (.slice none 0 0)).store 9 (.int .u32 0)) ⟨rfl, HG3.out.trans (HEC.out.below HG3.out.size (fun k e => Nat.le_of_eq e.symm))⟩
set_option maxRecDepth 100000 in
set_option maxHeartbeats 4000000 in
theorem vast_one (w : World) (b : Nat) (pb pc : Option Addr) (nb cb nc cc : Nat) (h9 : w.cell? ⟨b, 9, none⟩ = some (.slice pb nb cb)) (h11 : w.cell? ⟨b, 11, none⟩ = some (.slice pc nc cc)) :
    Calls Tryd.prog 22 #[.slice (some ⟨b, 0, none⟩) 1 1] w fun e w' => (∃ r : Bool, e = .returned (.bool r)) ∧ Below w.heap.size w w' := by
  obtain ⟨m1, hm1⟩ : ∃ y, y = min nb 131072 := ⟨_, rfl⟩
  obtain ⟨m2, hm2⟩ : ∃ y, y = min nc 131072 := ⟨_, rfl⟩
  obtain ⟨n2, hn2⟩ : ∃ y, y = m1 + m2 := ⟨_, rfl⟩
  have HM1 := hid (show (if (131072 : Int) < (nb : Int) then (131072 : Int) else (nb : Int)) = (m1 : Int) by split <;> omega)
  have HM2 := hid (show (if (131072 : Int) < (nc : Int) then (131072 : Int) else (nc : Int)) = (m2 : Int) by split <;> omega)
  have HN1 := hid (show IntKind.i64.wrap (m1 : Int) = (m1 : Int) by rw [IntKind.wrap_i64]; omega)
  have HN2 := hid (show IntKind.i64.wrap ((m1 : Int) + (m2 : Int)) = (n2 : Int) by rw [IntKind.wrap_i64]; omega)
  have H9 := hid h9
  have H11 := hid h11
  clear h9 h11 hm1 hm2 hn2
  go_enter Tryd.func22, Tryd.ntmps22
  go_wp2_with fail
  go_loopw [3, 4] (fun y3 y4 wr => ∃ i : Nat, i ≤ 1 ∧ y4 = .int .i64 (i : Int) ∧ (i = 0 → y3 = .int .i64 0) ∧ Hid (Below w.heap.size w wr)) (fun _ y4 _ => 1 - (intOf y4).toNat)
  case atStart => exact ⟨0, by omega, rfl, fun _ => rfl, hid (Below.refl _ _)⟩
  case round =>
    obtain ⟨i, hi, rfl, hy, HG⟩ := hrel
    by_cases q : i = 0
    · subst q
      obtain rfl := hy rfl
      have H9 := hid (cell?_of_below HG.out H9.out)
      have H11 := hid (cell?_of_below HG.out H11.out)
      clear hy hi
      go_wp2_with fail
      refine wp_region_grL [Is (.int .i64 0), Is (.slice (some ⟨b, 0, none⟩) 1 1), Is (.int .i64 0), Is (.pointer (some ⟨b, 0, none⟩)), Is (.pointer (some ⟨b, 7, none⟩)), Is (.pointer (some ⟨b, 9, none⟩)), Is (.slice pb nb cb), Is (.int .i64 (nb : Int)), Is (.int .i64 (m1 : Int)), Is (.int .i64 (m1 : Int)), Is (.slice (some ⟨b, 0, none⟩) 1 1), Is (.int .i64 0), Is (.pointer (some ⟨b, 0, none⟩)), Is (.pointer (some ⟨b, 10, none⟩)), Is (.pointer (some ⟨b, 11, none⟩)), Is (.slice pc nc cc), Is (.int .i64 (nc : Int)), Is (.int .i64 (m2 : Int)), Is (.int .i64 (n2 : Int)), Is (.int .i64 (n2 : Int))] (by kernel_rfl) (by kernel_rfl) (by kernel_rfl) (by kernel_rfl) ?_ ?_ ?_
      · simp only [StabAll, Is.gr, RdF.gr, OwnF.gr, AnyF.gr, and_self]
      · try (rename_i Kk hKk; clear hKk Kk)
        simp only [AllOps, List.map_cons, List.map_nil, depsOf, List.filterMap_cons, List.filterMap_nil, Region.binds, depFacts, guardF, reduceIte, List.getD_eq_getElem?_getD, List.getElem?_cons_succ, List.getElem?_cons_zero, Option.getD_some, factAt, and_true]
        refine ⟨?_, ?_, ?_, ?_, ?_, ?_, ?_, ?_, ?_, ?_, ?_, ?_, ?_, ?_, ?_, ?_, ?_, ?_, ?_, ?_⟩
        all_goals intro ρ wv hρ hR hd
        all_goals try simp only [Is] at hd
        · exact opOk_move (.inl rfl) ⟨by simp only [Is]; (first | exact hρ.2 3 rfl | exact hd | exact hd.1 | exact hd.2 | simp [hd]), GrR.refl _⟩
        · exact opOk_move (.inl rfl) ⟨by simp only [Is]; (first | exact hρ.2 0 rfl | exact hd | exact hd.1 | exact hd.2 | simp [hd]), GrR.refl _⟩
        · exact opOk_move (.inl rfl) ⟨by simp only [Is]; (first | exact hρ.2 4 rfl | exact hd | exact hd.1 | exact hd.2 | simp [hd]), GrR.refl _⟩
        · exact opOk_val (v := .pointer (some ⟨b, 0, none⟩)) (w' := wv) (by simp [execOp, go_sem, hρ.1.const, hρ.1.func, hd]) ⟨rfl, GrR.refl _⟩
        · exact opOk_val (v := .pointer (some ⟨b, 7, none⟩)) (w' := wv) (by simp [execOp, go_sem, hρ.1.const, hρ.1.func, hd]) ⟨rfl, GrR.refl _⟩
        · exact opOk_val (v := .pointer (some ⟨b, 9, none⟩)) (w' := wv) (by simp [execOp, go_sem, hρ.1.const, hρ.1.func, hd]) ⟨rfl, GrR.refl _⟩
        · (have h0 := cell?_of_below hR H9.out; exact opOk_val (v := .slice pb nb cb) (w' := wv) (by simp [execOp, go_sem, hd, h0]) ⟨rfl, GrR.refl _⟩)
        · exact opOk_val (v := .int .i64 (nb : Int)) (w' := wv) (by simp [execOp, go_sem, hρ.1.const, hρ.1.func, hd]) ⟨rfl, GrR.refl _⟩
        · exact opOk_val (v := .int .i64 (m1 : Int)) (w' := wv) (by simp [execOp, go_sem, hρ.1.const, hρ.1.func, hd, HM1.out]) ⟨rfl, GrR.refl _⟩
        · exact opOk_val (v := .int .i64 (m1 : Int)) (w' := wv) (by simp [execOp, go_sem, hρ.1.const, hρ.1.func, hd, HN1.out]) ⟨rfl, GrR.refl _⟩
        · exact opOk_move (.inl rfl) ⟨by simp only [Is]; (first | exact hρ.2 0 rfl | exact hd | exact hd.1 | exact hd.2 | simp [hd]), GrR.refl _⟩
        · exact opOk_move (.inl rfl) ⟨by simp only [Is]; (first | exact hρ.2 4 rfl | exact hd | exact hd.1 | exact hd.2 | simp [hd]), GrR.refl _⟩
        · exact opOk_val (v := .pointer (some ⟨b, 0, none⟩)) (w' := wv) (by simp [execOp, go_sem, hρ.1.const, hρ.1.func, hd]) ⟨rfl, GrR.refl _⟩
        · exact opOk_val (v := .pointer (some ⟨b, 10, none⟩)) (w' := wv) (by simp [execOp, go_sem, hρ.1.const, hρ.1.func, hd]) ⟨rfl, GrR.refl _⟩
        · exact opOk_val (v := .pointer (some ⟨b, 11, none⟩)) (w' := wv) (by simp [execOp, go_sem, hρ.1.const, hρ.1.func, hd]) ⟨rfl, GrR.refl _⟩
        · (have h0 := cell?_of_below hR H11.out; exact opOk_val (v := .slice pc nc cc) (w' := wv) (by simp [execOp, go_sem, hd, h0]) ⟨rfl, GrR.refl _⟩)
        · exact opOk_val (v := .int .i64 (nc : Int)) (w' := wv) (by simp [execOp, go_sem, hρ.1.const, hρ.1.func, hd]) ⟨rfl, GrR.refl _⟩
        · exact opOk_val (v := .int .i64 (m2 : Int)) (w' := wv) (by simp [execOp, go_sem, hρ.1.const, hρ.1.func, hd, HM2.out]) ⟨rfl, GrR.refl _⟩
        · exact opOk_val (v := .int .i64 (n2 : Int)) (w' := wv) (by simp [execOp, go_sem, hρ.1.const, hρ.1.func, hd, HN2.out]) ⟨rfl, GrR.refl _⟩
        · exact opOk_move (.inr rfl) ⟨by simp only [Is]; (first | exact hρ.2 32 rfl | exact hd | exact hd.1 | exact hd.2 | simp [hd]), GrR.refl _⟩
      · intro vals wv hR hall
        have i19 := hall 19 (by simp)
        simp only [factAt, Is, List.getD_eq_getElem?_getD, List.getElem?_cons_succ, List.getElem?_cons_zero, Option.getD_some] at i19
        clear hall
        simp only [fillFrom, Act.put, i19, List.setIfInBounds_toArray, List.set_cons_zero, List.set_cons_succ]
        have HG := hid (HG.out.trans (hR.mono HG.out.size))
        clear hR i19
        by_cases q : 32768 < n2
        · have z : (32768 : Int) < (n2 : Int) := by omega
          clear q
          go_wp2_with fail
          go_ret
          exact ⟨⟨_, rfl⟩, HG.out⟩
        · have z : ¬ (32768 : Int) < (n2 : Int) := by omega
          clear q
          go_wp2_with fail
          go_roundw
          case rel => exact ⟨1, by omega, by go_num, fun h => absurd h (by omega), HG⟩
          case measure => simp [intOf]
    · have hi1 : i = 1 := by omega
      subst hi1
      clear hy hi q
      go_wp2_with fail
      go_ret
      exact ⟨⟨_, rfl⟩, HG.out⟩
end Go.Proofs.YtiimlanbbfhkjaaDoor

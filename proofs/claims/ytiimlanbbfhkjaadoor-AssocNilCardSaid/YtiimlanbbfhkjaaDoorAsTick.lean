/- Tick where the timer does not run out. Conditions: the association lies as it should. -/
import Derived.Test.YtiimlanbbfhkjaaDoorAsOpen
set_option linter.unusedSimpArgs false
set_option linter.unusedVariables false


namespace Go.Proofs.YtiimlanbbfhkjaaDoor

open Go.RowKit Go.FL Go.ChangeShapes

theorem tick_ret {a : Act} {W : World} {g : Nat} {R : Ending → World → Prop} (v0 v1 v2 v3 v4 v5 v6 v7 v8 v9 : Value) (h2 : a.tmps.getD 4 undef = .pointer (some ⟨g, 0, none⟩)) (hd : a.defers = [])
    (hc : RowV W g 33 [v0, v1, v2, v3, v4, v5, v6, v7, v8, v9]) (hR : R (.returned (.agg #[v0, v1, v2, v3, v4, v5, v6, v7, v8, v9])) W) : bodyPost Tryd.prog Tryd.f20 R .ret a W := by
  refine bodyPost_ret (v := .agg #[v0, v1, v2, v3, v4, v5, v6, v7, v8, v9]) ?_ hd hR
  have c0 := hc.at 0 (by simp)
  have c1 := hc.at 1 (by simp)
  have c2 := hc.at 2 (by simp)
  have c3 := hc.at 3 (by simp)
  have c4 := hc.at 4 (by simp)
  have c5 := hc.at 5 (by simp)
  have c6 := hc.at 6 (by simp)
  have c7 := hc.at 7 (by simp)
  have c8 := hc.at 8 (by simp)
  have c9 := hc.at 9 (by simp)
  simp only [List.getElem_cons_succ, List.getElem_cons_zero] at c0 c1 c2 c3 c4 c5 c6 c7 c8 c9
  simp only [Array.getD_eq_getD_getElem?] at h2
  simp [results, Tryd.results20, go_sem, h2, asAddr, c0, c1, c2, c3, c4, c5, c6, c7, c8, c9]
set_option maxRecDepth 100000 in
set_option maxHeartbeats 4000000 in
theorem tick_idle (B : Nat) (w : World) (g : Nat) (vr : Value) (a : AsD) (h : As B w g vr a) (now : Int) (hnow : 0 ≤ now ∧ now ≤ 2305843009213693952) (hi : a.timer = -1 ∨ now < a.timer) :
    Calls Tryd.prog 20 #[.pointer (some ⟨g, 0, none⟩), .int .i64 now] w fun e w' => e = .returned (EvD.val .none) ∧ DidA B w g vr a w' := by
  have HH := hid h
  have HNOW := hid hnow
  obtain ⟨vk, vp, vs, hr, -⟩ := id h
  obtain ⟨W, hW⟩ : ∃ W, W = w.alloc (.cells #[.bool false, .bool false, .bool false, .int .u32 0, .int .u32 0, .int .u16 0, .int .u16 0, .int .u32 0, .slice none 0 0, .int .u32 0] 33 (0, 0)) := ⟨_, rfl⟩
  have HEV := hid (show RowV W w.heap.size 33 [.bool false, .bool false, .bool false, .int .u32 0, .int .u32 0, .int .u16 0, .int .u16 0, .int .u32 0, .slice none 0 0, .int .u32 0] by rw [hW]; exact RowV.new w _ _)
  have G0 := hid (show Below w.heap.size w W by rw [hW]; exact (Below.refl _ _).alloc (Nat.le_refl _) _)
  have HA := hid (hr.mono G0.out)
  have HE := hid hW
  have HC27 := hid (HA.out.at 27 (by simp [AsD.cells]))
  simp only [AsD.cells, List.getElem_cons_succ, List.getElem_cons_zero] at HC27
  clear h hr hW hnow
  go_enter Tryd.func20, Tryd.ntmps20
  go_wp2_with fail
  rw [← HE.out]
  by_cases q : a.timer = -1
  · have HB1 := hid (show (a.timer == -1) = true by simp [q])
    clear q hi
    refine wp_region_gr [Is (.pointer (some ⟨g, 0, none⟩)), Is (.bool false), Is (.bool false), Is (.pointer (some ⟨g, 0, none⟩)), Is (.pointer (some ⟨g, 0, none⟩)), Is (.pointer (some ⟨g, 27, none⟩)), Is (.int .i64 a.timer), Is (.bool true), Is (.bool true), Is (.bool true), AnyF, AnyF, AnyF, AnyF, AnyF, AnyF, AnyF, Is (.bool true)] (by kernel_rfl) (by kernel_rfl) (by kernel_rfl) ?_ ?_ ?_
    · simp only [StabAll, Is.gr, RdF.gr, OwnF.gr, AnyF.gr, and_self]
    · try (rename_i Kk hKk; clear hKk Kk)
      simp only [AllOps, List.map_cons, List.map_nil, depsOf, List.filterMap_cons, List.filterMap_nil, Region.binds, depFacts, guardF, reduceIte, List.getD_eq_getElem?_getD, List.getElem?_cons_succ, List.getElem?_cons_zero, Option.getD_some, factAt, and_true]
      refine ⟨?_, ?_, ?_, ?_, ?_, ?_, ?_, ?_, ?_, ?_, ?_, ?_, ?_, ?_, ?_, ?_, ?_, ?_⟩
      all_goals intro ρ wv hρ hR hd
      all_goals try simp only [Is] at hd
      · exact opOk_move (.inl rfl) ⟨by simp only [Is]; (first | exact hρ.2 0 rfl | exact hd | exact hd.1 | exact hd.2 | simp [hd]), GrR.refl _⟩
      · exact opOk_val (v := .bool false) (w' := wv) (by simp [execOp, go_sem, hρ.1.const, hρ.1.func, hd]) ⟨rfl, GrR.refl _⟩
      · exact opOk_move (.inl rfl) ⟨by simp only [Is]; (first | exact hρ.2 6 rfl | exact hd | exact hd.1 | exact hd.2 | simp [hd]), GrR.refl _⟩
      · refine ⟨fun _ => ?_, fun hg => absurd (by simp [hd]) hg⟩; exact opOk_move (.inl rfl) ⟨by simp only [Is]; (first | exact hρ.2 0 rfl | exact hd | exact hd.1 | exact hd.2 | simp [hd]), GrR.refl _⟩
      · refine ⟨fun _ => ?_, fun hg => absurd (by simp [hd]) hg⟩; exact opOk_val (v := .pointer (some ⟨g, 0, none⟩)) (w' := wv) (by simp [execOp, go_sem, hρ.1.const, hρ.1.func, hd]) ⟨rfl, GrR.refl _⟩
      · refine ⟨fun _ => ?_, fun hg => absurd (by simp [hd]) hg⟩; exact opOk_val (v := .pointer (some ⟨g, 27, none⟩)) (w' := wv) (by simp [execOp, go_sem, hρ.1.const, hρ.1.func, hd]) ⟨rfl, GrR.refl _⟩
      · refine ⟨fun _ => ?_, fun hg => absurd (by simp [hd]) hg⟩; (have h0 := cell?_of_below hR HC27.out; exact opOk_val (v := .int .i64 a.timer) (w' := wv) (by simp [execOp, go_sem, hd, h0]) ⟨rfl, GrR.refl _⟩)
      · refine ⟨fun _ => ?_, fun hg => absurd (by simp [hd]) hg⟩; exact opOk_val (v := .bool true) (w' := wv) (by simp [execOp, go_sem, hρ.1.const, hρ.1.func, hd, HB1.out]) ⟨rfl, GrR.refl _⟩
      · exact opOk_val (v := .bool true) (w' := wv) (by simp [execOp, go_sem, hρ.1.const, hρ.1.func, hd]) ⟨rfl, GrR.refl _⟩
      · exact opOk_move (.inl rfl) ⟨by simp only [Is]; (first | exact hρ.2 13 rfl | exact hd | exact hd.1 | exact hd.2 | simp [hd]), GrR.refl _⟩
      · exact ⟨fun hg => absurd hg (by simp [hd]), fun _ => trivial⟩
      · exact ⟨fun hg => absurd hg (by simp [hd]), fun _ => trivial⟩
      · exact ⟨fun hg => absurd hg (by simp [hd]), fun _ => trivial⟩
      · exact ⟨fun hg => absurd hg (by simp [hd]), fun _ => trivial⟩
      · exact ⟨fun hg => absurd hg (by simp [hd]), fun _ => trivial⟩
      · exact ⟨fun hg => absurd hg (by simp [hd]), fun _ => trivial⟩
      · exact ⟨fun hg => absurd hg (by simp [hd]), fun _ => trivial⟩
      · exact opOk_val (v := .bool true) (w' := wv) (by simp [execOp, go_sem, hρ.1.const, hρ.1.func, hd]) ⟨rfl, GrR.refl _⟩
    · intro vals wv hR hall
      have h17 := hall 17 (by simp)
      simp only [factAt, Is, List.getD_eq_getElem?_getD, List.getElem?_cons_succ, List.getElem?_cons_zero, Option.getD_some] at h17
      clear hall
      simp only [fillFrom, Act.put, h17, List.setIfInBounds_toArray, List.set_cons_zero, List.set_cons_succ]
      rename_i Kk hKk
      refine hKk _ _ ?_
      clear hKk Kk h17
      have HEV3 := hid (HEV.out.mono hR)
      have HG3 := hid (gr_trans G0.out hR)
      clear hR
      have y0 := HEV3.out.at 0 (by simp)
      have y1 := HEV3.out.at 1 (by simp)
      have y2 := HEV3.out.at 2 (by simp)
      have y3 := HEV3.out.at 3 (by simp)
      have y4 := HEV3.out.at 4 (by simp)
      have y5 := HEV3.out.at 5 (by simp)
      have y6 := HEV3.out.at 6 (by simp)
      have y7 := HEV3.out.at 7 (by simp)
      have y8 := HEV3.out.at 8 (by simp)
      have y9 := HEV3.out.at 9 (by simp)
      simp only [List.getElem_cons_succ, List.getElem_cons_zero] at y0 y1 y2 y3 y4 y5 y6 y7 y8 y9
      have f0 := HEV3.out.frozen 0
      have f1 := HEV3.out.frozen 1
      have f2 := HEV3.out.frozen 2
      have f3 := HEV3.out.frozen 3
      have f4 := HEV3.out.frozen 4
      have f5 := HEV3.out.frozen 5
      have f6 := HEV3.out.frozen 6
      have f7 := HEV3.out.frozen 7
      have f8 := HEV3.out.frozen 8
      have f9 := HEV3.out.frozen 9
      go_wp2_with fail
      have HEC := hid (show Chg (fun k => k = w.heap.size) wv _ from (((((((((((Chg.refl (fun k => k = w.heap.size) wv).set ⟨w.heap.size, 0, none⟩ (.bool false) (.inl rfl)).set ⟨w.heap.size, 1, none⟩ (.bool false) (.inl rfl)).set ⟨w.heap.size, 2, none⟩ (.bool false) (.inl rfl)).set ⟨w.heap.size, 3, none⟩ (.int .u32 0) (.inl rfl)).set ⟨w.heap.size, 4, none⟩ (.int .u32 0) (.inl rfl)).set ⟨w.heap.size, 5, none⟩ (.int .u16 0) (.inl rfl)).set ⟨w.heap.size, 6, none⟩ (.int .u16 0) (.inl rfl)).set ⟨w.heap.size, 7, none⟩ (.int .u32 0) (.inl rfl)).set ⟨w.heap.size, 8, none⟩ (.slice none 0 0) (.inl rfl)).set ⟨w.heap.size, 9, none⟩ (.int .u32 0) (.inl rfl)))
      exact tick_ret (.bool false) (.bool false) (.bool false) (.int .u32 0) (.int .u32 0) (.int .u16 0) (.int .u16 0) (.int .u32 0) (.slice none 0 0) (.int .u32 0) rfl rfl ((((((((((HEV3.out.store 0 (.bool false)).store 1 (.bool false)).store 2 (.bool false)).store 3 (.int .u32 0)).store 4 (.int .u32 0)).store 5 (.int .u16 0)).store 6 (.int .u16 0)).store 7 (.int .u32 0)).store 8 (.slice none 0 0)).store 9 (.int .u32 0)) ⟨rfl, (Did.gr HH.out HG3.out).ev (Nat.le_refl _) HEV3.out (by decide) (by decide) (by decide) HEC.out⟩
  · have HB1 := hid (show (a.timer == -1) = false by simpa using q)
    have HB2 := hid (show now < a.timer from hi.resolve_left q)
    clear q hi
    refine wp_region_gr [Is (.pointer (some ⟨g, 0, none⟩)), Is (.bool false), Is (.bool false), Is (.pointer (some ⟨g, 0, none⟩)), Is (.pointer (some ⟨g, 0, none⟩)), Is (.pointer (some ⟨g, 27, none⟩)), Is (.int .i64 a.timer), Is (.bool false), Is (.bool false), Is (.bool false), Is (.pointer (some ⟨g, 0, none⟩)), Is (.pointer (some ⟨g, 0, none⟩)), Is (.pointer (some ⟨g, 27, none⟩)), Is (.int .i64 a.timer), Is (.int .i64 now), Is (.int .i64 now), Is (.bool true), Is (.bool true)] (by kernel_rfl) (by kernel_rfl) (by kernel_rfl) ?_ ?_ ?_
    · simp only [StabAll, Is.gr, RdF.gr, OwnF.gr, AnyF.gr, and_self]
    · try (rename_i Kk hKk; clear hKk Kk)
      simp only [AllOps, List.map_cons, List.map_nil, depsOf, List.filterMap_cons, List.filterMap_nil, Region.binds, depFacts, guardF, reduceIte, List.getD_eq_getElem?_getD, List.getElem?_cons_succ, List.getElem?_cons_zero, Option.getD_some, factAt, and_true]
      refine ⟨?_, ?_, ?_, ?_, ?_, ?_, ?_, ?_, ?_, ?_, ?_, ?_, ?_, ?_, ?_, ?_, ?_, ?_⟩
      all_goals intro ρ wv hρ hR hd
      all_goals try simp only [Is] at hd
      · exact opOk_move (.inl rfl) ⟨by simp only [Is]; (first | exact hρ.2 0 rfl | exact hd | exact hd.1 | exact hd.2 | simp [hd]), GrR.refl _⟩
      · exact opOk_val (v := .bool false) (w' := wv) (by simp [execOp, go_sem, hρ.1.const, hρ.1.func, hd]) ⟨rfl, GrR.refl _⟩
      · exact opOk_move (.inl rfl) ⟨by simp only [Is]; (first | exact hρ.2 6 rfl | exact hd | exact hd.1 | exact hd.2 | simp [hd]), GrR.refl _⟩
      · refine ⟨fun _ => ?_, fun hg => absurd (by simp [hd]) hg⟩; exact opOk_move (.inl rfl) ⟨by simp only [Is]; (first | exact hρ.2 0 rfl | exact hd | exact hd.1 | exact hd.2 | simp [hd]), GrR.refl _⟩
      · refine ⟨fun _ => ?_, fun hg => absurd (by simp [hd]) hg⟩; exact opOk_val (v := .pointer (some ⟨g, 0, none⟩)) (w' := wv) (by simp [execOp, go_sem, hρ.1.const, hρ.1.func, hd]) ⟨rfl, GrR.refl _⟩
      · refine ⟨fun _ => ?_, fun hg => absurd (by simp [hd]) hg⟩; exact opOk_val (v := .pointer (some ⟨g, 27, none⟩)) (w' := wv) (by simp [execOp, go_sem, hρ.1.const, hρ.1.func, hd]) ⟨rfl, GrR.refl _⟩
      · refine ⟨fun _ => ?_, fun hg => absurd (by simp [hd]) hg⟩; (have h0 := cell?_of_below hR HC27.out; exact opOk_val (v := .int .i64 a.timer) (w' := wv) (by simp [execOp, go_sem, hd, h0]) ⟨rfl, GrR.refl _⟩)
      · refine ⟨fun _ => ?_, fun hg => absurd (by simp [hd]) hg⟩; exact opOk_val (v := .bool false) (w' := wv) (by simp [execOp, go_sem, hρ.1.const, hρ.1.func, hd, HB1.out]) ⟨rfl, GrR.refl _⟩
      · exact opOk_val (v := .bool false) (w' := wv) (by simp [execOp, go_sem, hρ.1.const, hρ.1.func, hd]) ⟨rfl, GrR.refl _⟩
      · exact opOk_move (.inl rfl) ⟨by simp only [Is]; (first | exact hρ.2 13 rfl | exact hd | exact hd.1 | exact hd.2 | simp [hd]), GrR.refl _⟩
      · refine ⟨fun _ => ?_, fun hg => absurd (by simp [hd]) hg⟩; exact opOk_move (.inl rfl) ⟨by simp only [Is]; (first | exact hρ.2 0 rfl | exact hd | exact hd.1 | exact hd.2 | simp [hd]), GrR.refl _⟩
      · refine ⟨fun _ => ?_, fun hg => absurd (by simp [hd]) hg⟩; exact opOk_val (v := .pointer (some ⟨g, 0, none⟩)) (w' := wv) (by simp [execOp, go_sem, hρ.1.const, hρ.1.func, hd]) ⟨rfl, GrR.refl _⟩
      · refine ⟨fun _ => ?_, fun hg => absurd (by simp [hd]) hg⟩; exact opOk_val (v := .pointer (some ⟨g, 27, none⟩)) (w' := wv) (by simp [execOp, go_sem, hρ.1.const, hρ.1.func, hd]) ⟨rfl, GrR.refl _⟩
      · refine ⟨fun _ => ?_, fun hg => absurd (by simp [hd]) hg⟩; (have h0 := cell?_of_below hR HC27.out; exact opOk_val (v := .int .i64 a.timer) (w' := wv) (by simp [execOp, go_sem, hd, h0]) ⟨rfl, GrR.refl _⟩)
      · refine ⟨fun _ => ?_, fun hg => absurd (by simp [hd]) hg⟩; exact opOk_move (.inl rfl) ⟨by simp only [Is]; (first | exact hρ.2 1 rfl | exact hd | exact hd.1 | exact hd.2 | simp [hd]), GrR.refl _⟩
      · refine ⟨fun _ => ?_, fun hg => absurd (by simp [hd]) hg⟩; exact opOk_call hρ.1 rfl rfl Tryd.func35 (by kernel_rfl) rfl (by simp [hd, hρ.1.const, hρ.1.func]) ((clock_any now HNOW.out wv).mono fun e w' ⟨h1, h2⟩ => ⟨_, h1, rfl, h2 ▸ GrR.refl _⟩)
      · refine ⟨fun _ => ?_, fun hg => absurd (by simp [hd]) hg⟩; exact opOk_val (v := .bool true) (w' := wv) (by simp [execOp, go_sem, hρ.1.const, hρ.1.func, hd, HB2.out]) ⟨rfl, GrR.refl _⟩
      · exact opOk_val (v := .bool true) (w' := wv) (by simp [execOp, go_sem, hρ.1.const, hρ.1.func, hd]) ⟨rfl, GrR.refl _⟩
    · intro vals wv hR hall
      have h17 := hall 17 (by simp)
      simp only [factAt, Is, List.getD_eq_getElem?_getD, List.getElem?_cons_succ, List.getElem?_cons_zero, Option.getD_some] at h17
      clear hall
      simp only [fillFrom, Act.put, h17, List.setIfInBounds_toArray, List.set_cons_zero, List.set_cons_succ]
      rename_i Kk hKk
      refine hKk _ _ ?_
      clear hKk Kk h17
      have HEV3 := hid (HEV.out.mono hR)
      have HG3 := hid (gr_trans G0.out hR)
      clear hR
      have y0 := HEV3.out.at 0 (by simp)
      have y1 := HEV3.out.at 1 (by simp)
      have y2 := HEV3.out.at 2 (by simp)
      have y3 := HEV3.out.at 3 (by simp)
      have y4 := HEV3.out.at 4 (by simp)
      have y5 := HEV3.out.at 5 (by simp)
      have y6 := HEV3.out.at 6 (by simp)
      have y7 := HEV3.out.at 7 (by simp)
      have y8 := HEV3.out.at 8 (by simp)
      have y9 := HEV3.out.at 9 (by simp)
      simp only [List.getElem_cons_succ, List.getElem_cons_zero] at y0 y1 y2 y3 y4 y5 y6 y7 y8 y9
      have f0 := HEV3.out.frozen 0
      have f1 := HEV3.out.frozen 1
      have f2 := HEV3.out.frozen 2
      have f3 := HEV3.out.frozen 3
      have f4 := HEV3.out.frozen 4
      have f5 := HEV3.out.frozen 5
      have f6 := HEV3.out.frozen 6
      have f7 := HEV3.out.frozen 7
      have f8 := HEV3.out.frozen 8
      have f9 := HEV3.out.frozen 9
      go_wp2_with fail
      have HEC := hid (show Chg (fun k => k = w.heap.size) wv _ from (((((((((((Chg.refl (fun k => k = w.heap.size) wv).set ⟨w.heap.size, 0, none⟩ (.bool false) (.inl rfl)).set ⟨w.heap.size, 1, none⟩ (.bool false) (.inl rfl)).set ⟨w.heap.size, 2, none⟩ (.bool false) (.inl rfl)).set ⟨w.heap.size, 3, none⟩ (.int .u32 0) (.inl rfl)).set ⟨w.heap.size, 4, none⟩ (.int .u32 0) (.inl rfl)).set ⟨w.heap.size, 5, none⟩ (.int .u16 0) (.inl rfl)).set ⟨w.heap.size, 6, none⟩ (.int .u16 0) (.inl rfl)).set ⟨w.heap.size, 7, none⟩ (.int .u32 0) (.inl rfl)).set ⟨w.heap.size, 8, none⟩ (.slice none 0 0) (.inl rfl)).set ⟨w.heap.size, 9, none⟩ (.int .u32 0) (.inl rfl)))
      exact tick_ret (.bool false) (.bool false) (.bool false) (.int .u32 0) (.int .u32 0) (.int .u16 0) (.int .u16 0) (.int .u32 0) (.slice none 0 0) (.int .u32 0) rfl rfl ((((((((((HEV3.out.store 0 (.bool false)).store 1 (.bool false)).store 2 (.bool false)).store 3 (.int .u32 0)).store 4 (.int .u32 0)).store 5 (.int .u16 0)).store 6 (.int .u16 0)).store 7 (.int .u32 0)).store 8 (.slice none 0 0)).store 9 (.int .u32 0)) ⟨rfl, (Did.gr HH.out HG3.out).ev (Nat.le_refl _) HEV3.out (by decide) (by decide) (by decide) HEC.out⟩
end Go.Proofs.YtiimlanbbfhkjaaDoor

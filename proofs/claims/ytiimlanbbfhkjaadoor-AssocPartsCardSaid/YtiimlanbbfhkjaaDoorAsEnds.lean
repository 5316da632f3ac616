/- ends, gives, dial, begins. Conditions: the association lies as it should. -/
import Derived.Test.YtiimlanbbfhkjaaDoorAsRun
import Derived.Deep.CutRange
set_option linter.unusedSimpArgs false
set_option linter.unusedVariables false



namespace Go.FL

open Go.RowKit

def ghostD (a : AsD) : AsD := { a with go := if a.peer.tag = 0 then a.go else a.tag, gp := if a.peer.tag = 0 then a.gp else a.peer.tag }
/-- Behind ends. -/
def endsD (a : AsD) : AsD := { ghostD a with st := 0, tag := 0, tsn := 0, peer := .zero, timer := -1 }
theorem endsKeep {B eB e e' g g' : Nat} {w w1 w2 : World} {v : Value} {l : List UInt8} {m m' : List Value} (h1 : Chg (fun k => k = g) w w1) (h2 : Chg (fun k => k = g') w1 w2) (hr' : RowV w g' e' m') (hne' : e' ≠ eB) (hr : RowV w g e m) (hne : e ≠ eB) (h : Own w B eB v l) : Own w2 B eB v l := by
  have a1 := h.chg h1 (own_ne_row h hr hne)
  exact a1.chg h2 (own_ne_row h hr' hne')
theorem endsKeepO {eO eB B e e' g g' : Nat} {w w1 w2 : World} {v : Value} {l : List OutD} {m m' : List Value} (h1 : Chg (fun k => k = g) w w1) (h2 : Chg (fun k => k = g') w1 w2) (hr' : RowV w g' e' m') (hO' : e' ≠ eO) (hB' : e' ≠ eB) (hr : RowV w g e m) (hO : e ≠ eO) (hB : e ≠ eB) (h : OutsAt eO eB B w v l) : OutsAt eO eB B w2 v l := by
  have hc : Chg (fun k => k = g ∨ k = g') w w2 := (h1.weak (fun _ _ e => .inl e)).trans (h2.weak (fun _ _ e => .inr e))
  refine h.chg hc (fun k l' hk hl' => ?_) (fun k hk e1 => ?_)
  · rcases hk with rfl | rfl
    · exact hB (rowV_fun hr hl').1
    · exact hB' (rowV_fun hr' hl').1
  · obtain ⟨ss, -, h3, -⟩ := h
    obtain ⟨l', hl'⟩ := h3.rowV k hk
    rcases e1 with rfl | rfl
    · exact hO (rowV_fun hr hl').1
    · exact hO' (rowV_fun hr' hl').1
end Go.FL

namespace Go.Proofs.YtiimlanbbfhkjaaDoor

open Go.RowKit Go.FL Go.ChangeShapes

theorem ends_ret {a : Act} {W : World} {g : Nat} {R : Ending → World → Prop} (v0 v1 v2 v3 v4 v5 v6 v7 v8 v9 : Value) (h2 : a.tmps.getD 4 undef = .pointer (some ⟨g, 0, none⟩)) (hd : a.defers = [])
    (hc : RowV W g 33 [v0, v1, v2, v3, v4, v5, v6, v7, v8, v9]) (hR : R (.returned (.agg #[v0, v1, v2, v3, v4, v5, v6, v7, v8, v9])) W) : bodyPost Tryd.prog Tryd.f48 R .ret a W := by
  refine bodyPost_ret (v := .agg #[v0, v1, v2, v3, v4, v5, v6, v7, v8, v9]) ?_ hd hR
  have c0 := hc.at 0 (by simp)
  have c1 := hc.at 1 (by simp)
  have c2 := hc.at 2 (by simp)
  have c3 := hc.at 3 (by simp)
  have c4 := hc.at 4 (by simp)
  have c5 := hc.at 5 (by simp)
  have c6 := hc.at 6 (by simp)
  have c7 := hc.at 7 (by simp)
  have c8 := hc.at 8 (by simp)
  have c9 := hc.at 9 (by simp)
  simp only [List.getElem_cons_succ, List.getElem_cons_zero] at c0 c1 c2 c3 c4 c5 c6 c7 c8 c9
  simp only [Array.getD_eq_getD_getElem?] at h2
  simp [results, Tryd.results48, go_sem, h2, asAddr, c0, c1, c2, c3, c4, c5, c6, c7, c8, c9]
set_option maxRecDepth 100000 in
set_option maxHeartbeats 4000000 in
theorem ends_any (B : Nat) (w : World) (g : Nat) (vr : Value) (a : AsD) (h : As B w g vr a) (hp : a.peer.tag < 4294967296) (cl : Bool) :
    Calls Tryd.prog 48 #[.pointer (some ⟨g, 0, none⟩), .bool cl] w fun e w' => e = .returned (EvD.val ⟨false, true, cl, .zero, 0⟩) ∧ DidA B w g vr (endsD a) w' := by
  obtain ⟨vk, vp, vs, hr, hB, hk, hpc, ho, hsd⟩ := h
  have HB := hid hB
  have HK := hid hk
  have HO := hid ho
  have HS := hid hsd
  obtain ⟨W, hW⟩ : ∃ W, W = w.alloc (.cells #[.bool false, .bool false, .bool false, .int .u32 0, .int .u32 0, .int .u16 0, .int .u16 0, .int .u32 0, .slice none 0 0, .int .u32 0] 33 (0, 0)) := ⟨_, rfl⟩
  have HEV := hid (show RowV W w.heap.size 33 [.bool false, .bool false, .bool false, .int .u32 0, .int .u32 0, .int .u16 0, .int .u16 0, .int .u32 0, .slice none 0 0, .int .u32 0] by rw [hW]; exact RowV.new w _ _)
  have G0 := hid (show Below w.heap.size w W by rw [hW]; exact (Below.refl _ _).alloc (Nat.le_refl _) _)
  have HA := hid (hr.mono G0.out)
  have HNE := hid (show w.heap.size ≠ g from rowV_ne HEV.out HA.out (by decide))
  have c16 := HA.out.at 16 (by simp [AsD.cells])
  have c18 := HA.out.at 18 (by simp [AsD.cells])
  have c24 := HA.out.at 24 (by simp [AsD.cells])
  have c25 := HA.out.at 25 (by simp [AsD.cells])
  simp only [AsD.cells, List.getElem_cons_succ, List.getElem_cons_zero] at c16 c18 c24 c25
  have HC16 := hid c16
  have HC18 := hid c18
  rw [hW] at c16 c18
  have HE := hid hW
  have HR0 := hid hr
  clear hB hk hpc ho hsd hr hW
  go_enter Tryd.func48, Tryd.ntmps48
  go_upto_if 10 with fail
  rw [← HE.out]
  clear c16 c18
  obtain ⟨a1, ha1⟩ : ∃ x, x = ghostD a := ⟨_, rfl⟩
  go_cut [11] from 12 to 23 (fun _ wx => Hid (RowV wx g 77 (a1.cells vk vp vr vs)) ∧ Hid (Chg (fun k => k = g) W wx) ∧ Hid (RowV wx w.heap.size 33 [.bool false, .bool false, .bool false, .int .u32 0, .int .u32 0, .int .u16 0, .int .u16 0, .int .u32 0, .slice none 0 0, .int .u32 0]))
  case first =>
    by_cases q : a.peer.tag = 0
    · have z : ((a.peer.tag : Int) != 0) = false := by simp [q]
      have HA1 := hid (show a1 = a by rw [ha1, ghostD, if_pos q, if_pos q])
      clear q
      go_wp2_with fail
      go_meet
      exact ⟨by rw [HA1.out]; exact HA, hid (Chg.refl _ _), HEV⟩
    · have z : ((a.peer.tag : Int) != 0) = true := by simp; omega
      have HA1 := hid (show a1 = { a with go := a.tag, gp := a.peer.tag } by rw [ha1, ghostD, if_neg q, if_neg q])
      clear q
      go_wp2_with fail
      clear c24 c25
      refine wp_region_tail 13 [Is (.pointer (some ⟨g, 0, none⟩)), Is (.pointer (some ⟨g, 0, none⟩)), Is (.pointer (some ⟨g, 0, none⟩)), Is (.pointer (some ⟨g, 16, none⟩)), Is (.int .u32 (a.tag : Int)), Is (.pointer (some ⟨g, 0, none⟩)), Is (.pointer (some ⟨g, 0, none⟩)), Is (.pointer (some ⟨g, 18, none⟩)), Is (.pointer (some ⟨g, 18, none⟩)), Is (.int .u32 (a.peer.tag : Int)), Is (.agg #[.int .u32 (a.tag : Int), .int .u32 (a.peer.tag : Int)]), Is (.pointer (some ⟨g, 0, none⟩)), Is (.pointer (some ⟨g, 24, none⟩))] (by kernel_rfl) (by kernel_rfl) (by kernel_rfl) (by kernel_rfl) (by kernel_rfl) (by kernel_rfl) ?_ ?_ ?_
      · simp only [StabAll, Is.gr, RdF.gr, OwnF.gr, AnyF.gr, and_self]
      · try (rename_i Kk hKk; clear hKk Kk)
        simp only [List.take_succ_cons, List.take_zero, AllOps, List.map_cons, List.map_nil, depsOf, List.filterMap_cons, List.filterMap_nil, Region.binds, depFacts, guardF, reduceIte, List.getD_eq_getElem?_getD, List.getElem?_cons_succ, List.getElem?_cons_zero, Option.getD_some, factAt, and_true]
        refine ⟨?_, ?_, ?_, ?_, ?_, ?_, ?_, ?_, ?_, ?_, ?_, ?_, ?_⟩
        all_goals intro ρ wv hρ hR hd
        all_goals try simp only [Is] at hd
        · exact opOk_move (.inl rfl) ⟨by simp only [Is]; (first | exact hρ.2 0 rfl | exact hd | exact hd.1 | exact hd.2 | simp [hd]), GrR.refl _⟩
        · exact opOk_move (.inl rfl) ⟨by simp only [Is]; (first | exact hρ.2 0 rfl | exact hd | exact hd.1 | exact hd.2 | simp [hd]), GrR.refl _⟩
        · exact opOk_val (v := .pointer (some ⟨g, 0, none⟩)) (w' := wv) (by simp [execOp, go_sem, hρ.1.const, hρ.1.func, hd]) ⟨rfl, GrR.refl _⟩
        · exact opOk_val (v := .pointer (some ⟨g, 16, none⟩)) (w' := wv) (by simp [execOp, go_sem, hρ.1.const, hρ.1.func, hd]) ⟨rfl, GrR.refl _⟩
        · (have h0 := cell?_of_below hR HC16.out; exact opOk_val (v := .int .u32 (a.tag : Int)) (w' := wv) (by simp [execOp, go_sem, hd, h0]) ⟨rfl, GrR.refl _⟩)
        · exact opOk_move (.inl rfl) ⟨by simp only [Is]; (first | exact hρ.2 0 rfl | exact hd | exact hd.1 | exact hd.2 | simp [hd]), GrR.refl _⟩
        · exact opOk_val (v := .pointer (some ⟨g, 0, none⟩)) (w' := wv) (by simp [execOp, go_sem, hρ.1.const, hρ.1.func, hd]) ⟨rfl, GrR.refl _⟩
        · exact opOk_val (v := .pointer (some ⟨g, 18, none⟩)) (w' := wv) (by simp [execOp, go_sem, hρ.1.const, hρ.1.func, hd]) ⟨rfl, GrR.refl _⟩
        · exact opOk_val (v := .pointer (some ⟨g, 18, none⟩)) (w' := wv) (by simp [execOp, go_sem, hρ.1.const, hρ.1.func, hd]) ⟨rfl, GrR.refl _⟩
        · (have h0 := cell?_of_below hR HC18.out; exact opOk_val (v := .int .u32 (a.peer.tag : Int)) (w' := wv) (by simp [execOp, go_sem, hd, h0]) ⟨rfl, GrR.refl _⟩)
        · exact opOk_val (v := .agg #[.int .u32 (a.tag : Int), .int .u32 (a.peer.tag : Int)]) (w' := wv) (by simp [execOp, go_sem, hρ.1.const, hρ.1.func, hd]) ⟨rfl, GrR.refl _⟩
        · exact opOk_val (v := .pointer (some ⟨g, 0, none⟩)) (w' := wv) (by simp [execOp, go_sem, hρ.1.const, hρ.1.func, hd]) ⟨rfl, GrR.refl _⟩
        · exact opOk_val (v := .pointer (some ⟨g, 24, none⟩)) (w' := wv) (by simp [execOp, go_sem, hρ.1.const, hρ.1.func, hd]) ⟨rfl, GrR.refl _⟩
      · intro vals wv hR hall
        have i10 := hall 10 (by omega)
        have i12 := hall 12 (by omega)
        simp only [factAt, Is, List.getD_eq_getElem?_getD, List.getElem?_cons_succ, List.getElem?_cons_zero, Option.getD_some] at i10 i12
        clear hall
        simp only [List.take_succ_cons, List.take_zero, List.drop_succ_cons, List.drop_zero, fillFrom, Act.put, i10, i12, List.setIfInBounds_toArray, List.set_cons_zero, List.set_cons_succ, Nat.zero_add, Nat.reduceAdd]
        obtain ⟨w3, hw3⟩ : ∃ x, x = wv := ⟨_, rfl⟩
        subst hw3
        have HR3 := hid (HA.out.mono hR)
        have HE3 := hid (HEV.out.mono hR)
        have HC3 := hid (show Chg (fun k => k = g) W w3 from Chg.of_gr hR)
        have y24 := HR3.out.at 24 (by simp [AsD.cells])
        have y25 := HR3.out.at 25 (by simp [AsD.cells])
        simp only [AsD.cells, List.getElem_cons_succ, List.getElem_cons_zero] at y24 y25
        have f24 := HR3.out.frozen 24
        have f25 := HR3.out.frozen 25
        clear hR i10 i12
        go_wp2_with fail
        go_meet
        refine ⟨hid ?_, hid ?_, hid ?_⟩
        · rw [HA1.out]
          exact (HR3.out.store 24 (.int .u32 (a.tag : Int))).store 25 (.int .u32 (a.peer.tag : Int))
        · exact (HC3.out.set ⟨g, 24, none⟩ _ (.inl rfl)).set ⟨g, 25, none⟩ _ (.inl rfl)
        · exact (HE3.out.other ⟨g, 24, none⟩ _ (fun e => HNE.out e.symm)).other ⟨g, 25, none⟩ _ (fun e => HNE.out e.symm)
  case rest =>
    obtain ⟨hr1, hc1, he1⟩ := hcut
    have HR1 := hid hr1.out
    clear c24 c25
    have y15 := HR1.out.at 15 (by simp [AsD.cells])
    have y16 := HR1.out.at 16 (by simp [AsD.cells])
    have y17 := HR1.out.at 17 (by simp [AsD.cells])
    have y18 := HR1.out.at 18 (by simp [AsD.cells])
    have y19 := HR1.out.at 19 (by simp [AsD.cells])
    have y20 := HR1.out.at 20 (by simp [AsD.cells])
    have y21 := HR1.out.at 21 (by simp [AsD.cells])
    have y22 := HR1.out.at 22 (by simp [AsD.cells])
    have y23 := HR1.out.at 23 (by simp [AsD.cells])
    have y27 := HR1.out.at 27 (by simp [AsD.cells])
    simp only [AsD.cells, List.getElem_cons_succ, List.getElem_cons_zero] at y15 y16 y17 y18 y19 y20 y21 y22 y23 y27
    have f15 := HR1.out.frozen 15
    have f16 := HR1.out.frozen 16
    have f17 := HR1.out.frozen 17
    have f18 := HR1.out.frozen 18
    have f19 := HR1.out.frozen 19
    have f20 := HR1.out.frozen 20
    have f21 := HR1.out.frozen 21
    have f22 := HR1.out.frozen 22
    have f23 := HR1.out.frozen 23
    have f27 := HR1.out.frozen 27
    have HE1 := hid he1.out
    have HC1 := hid hc1.out
    clear hr1 hc1 he1
    go_upto_region 4 with fail
    obtain ⟨w4, hw4⟩ : ∃ x, x = ((((((((((wc.setCell ⟨g, 15, none⟩ (.int .u8 0)).setCell ⟨g, 16, none⟩ (.int .u32 0)).setCell ⟨g, 17, none⟩ (.int .u32 0)).setCell ⟨g, 18, none⟩ (.int .u32 0)).setCell ⟨g, 19, none⟩ (.int .u32 0)).setCell ⟨g, 20, none⟩ (.int .u16 0)).setCell ⟨g, 21, none⟩ (.int .u16 0)).setCell ⟨g, 22, none⟩ (.int .u32 0)).setCell ⟨g, 23, none⟩ (.slice none 0 0)).setCell ⟨g, 27, none⟩ (.int .i64 (-1))) := ⟨_, rfl⟩
    rw [← hw4]
    have HR4 := hid (show RowV w4 g 77 ((endsD a).cells vk (.slice none 0 0) vr vs) by
      have e : (endsD a).cells vk (.slice none 0 0) vr vs = ({ a1 with st := 0, tag := 0, tsn := 0, peer := .zero, timer := -1 } : AsD).cells vk (.slice none 0 0) vr vs := by rw [endsD, ← ha1]
      rw [e, hw4]
      exact ((((((((((HR1.out.store 15 (.int .u8 0)).store 16 (.int .u32 0)).store 17 (.int .u32 0)).store 18 (.int .u32 0)).store 19 (.int .u32 0)).store 20 (.int .u16 0)).store 21 (.int .u16 0)).store 22 (.int .u32 0)).store 23 (.slice none 0 0)).store 27 (.int .i64 (-1))))
    have HC4 := hid (show Chg (fun k => k = g) W w4 by rw [hw4]; exact ((((((((((HC1.out.set ⟨g, 15, none⟩ (.int .u8 0) (.inl rfl)).set ⟨g, 16, none⟩ (.int .u32 0) (.inl rfl)).set ⟨g, 17, none⟩ (.int .u32 0) (.inl rfl)).set ⟨g, 18, none⟩ (.int .u32 0) (.inl rfl)).set ⟨g, 19, none⟩ (.int .u32 0) (.inl rfl)).set ⟨g, 20, none⟩ (.int .u16 0) (.inl rfl)).set ⟨g, 21, none⟩ (.int .u16 0) (.inl rfl)).set ⟨g, 22, none⟩ (.int .u32 0) (.inl rfl)).set ⟨g, 23, none⟩ (.slice none 0 0) (.inl rfl)).set ⟨g, 27, none⟩ (.int .i64 (-1)) (.inl rfl)))
    have HE4 := hid (show RowV w4 w.heap.size 33 [.bool false, .bool false, .bool false, .int .u32 0, .int .u32 0, .int .u16 0, .int .u16 0, .int .u32 0, .slice none 0 0, .int .u32 0] by rw [hw4]; exact ((((((((((HE1.out.other ⟨g, 15, none⟩ (.int .u8 0) (fun e => HNE.out e.symm)).other ⟨g, 16, none⟩ (.int .u32 0) (fun e => HNE.out e.symm)).other ⟨g, 17, none⟩ (.int .u32 0) (fun e => HNE.out e.symm)).other ⟨g, 18, none⟩ (.int .u32 0) (fun e => HNE.out e.symm)).other ⟨g, 19, none⟩ (.int .u32 0) (fun e => HNE.out e.symm)).other ⟨g, 20, none⟩ (.int .u16 0) (fun e => HNE.out e.symm)).other ⟨g, 21, none⟩ (.int .u16 0) (fun e => HNE.out e.symm)).other ⟨g, 22, none⟩ (.int .u32 0) (fun e => HNE.out e.symm)).other ⟨g, 23, none⟩ (.slice none 0 0) (fun e => HNE.out e.symm)).other ⟨g, 27, none⟩ (.int .i64 (-1)) (fun e => HNE.out e.symm)))
    clear hw4 y15 f15 y16 f16 y17 f17 y18 f18 y19 f19 y20 f20 y21 f21 y22 f22 y23 f23 y27 f27
    have y0 := HE4.out.at 0 (by simp)
    have y1 := HE4.out.at 1 (by simp)
    have y2 := HE4.out.at 2 (by simp)
    have y3 := HE4.out.at 3 (by simp)
    have y4 := HE4.out.at 4 (by simp)
    have y5 := HE4.out.at 5 (by simp)
    have y6 := HE4.out.at 6 (by simp)
    have y7 := HE4.out.at 7 (by simp)
    have y8 := HE4.out.at 8 (by simp)
    have y9 := HE4.out.at 9 (by simp)
    simp only [List.getElem_cons_succ, List.getElem_cons_zero] at y0 y1 y2 y3 y4 y5 y6 y7 y8 y9
    have f0 := HE4.out.frozen 0
    have f1 := HE4.out.frozen 1
    have f2 := HE4.out.frozen 2
    have f3 := HE4.out.frozen 3
    have f4 := HE4.out.frozen 4
    have f5 := HE4.out.frozen 5
    have f6 := HE4.out.frozen 6
    have f7 := HE4.out.frozen 7
    have f8 := HE4.out.frozen 8
    have f9 := HE4.out.frozen 9
    go_wp2_with fail
    have HC5 := hid (show Chg (fun k => k = w.heap.size) w4 _ from (((((((((((Chg.refl (fun k => k = w.heap.size) w4).set ⟨w.heap.size, 0, none⟩ (.bool false) (.inl rfl)).set ⟨w.heap.size, 1, none⟩ (.bool true) (.inl rfl)).set ⟨w.heap.size, 2, none⟩ (.bool cl) (.inl rfl)).set ⟨w.heap.size, 3, none⟩ (.int .u32 0) (.inl rfl)).set ⟨w.heap.size, 4, none⟩ (.int .u32 0) (.inl rfl)).set ⟨w.heap.size, 5, none⟩ (.int .u16 0) (.inl rfl)).set ⟨w.heap.size, 6, none⟩ (.int .u16 0) (.inl rfl)).set ⟨w.heap.size, 7, none⟩ (.int .u32 0) (.inl rfl)).set ⟨w.heap.size, 8, none⟩ (.slice none 0 0) (.inl rfl)).set ⟨w.heap.size, 9, none⟩ (.int .u32 0) (.inl rfl)))
    refine ends_ret (.bool false) (.bool true) (.bool cl) (.int .u32 0) (.int .u32 0) (.int .u16 0) (.int .u16 0) (.int .u32 0) (.slice none 0 0) (.int .u32 0) rfl rfl ((((((((((HE4.out.store 0 (.bool false)).store 1 (.bool true)).store 2 (.bool cl)).store 3 (.int .u32 0)).store 4 (.int .u32 0)).store 5 (.int .u16 0)).store 6 (.int .u16 0)).store 7 (.int .u32 0)).store 8 (.slice none 0 0)).store 9 (.int .u32 0)) ⟨rfl, vr, ⟨vk, .slice none 0 0, vs, HR4.out.chg HC5.out (fun e => HNE.out e.symm), HB.out, ?_, Own.nil _ _ _, ?_, ?_⟩, fun k hk => .inl hk, ?_⟩
    · exact endsKeep HC4.out HC5.out HEV.out (by decide) HA.out (by decide) (HK.out.mono G0.out)
    · exact endsKeepO HC4.out HC5.out HEV.out (by decide) (by decide) HA.out (by decide) (by decide) (OutsAt.mono HO.out G0.out)
    · exact endsKeep HC4.out HC5.out HEV.out (by decide) HA.out (by decide) (HS.out.mono G0.out)
    · exact ((Chg.of_gr G0.out).then HC4.out (fun i _ e => .inl e)).then HC5.out (fun i hi e => by omega)
end Go.Proofs.YtiimlanbbfhkjaaDoor

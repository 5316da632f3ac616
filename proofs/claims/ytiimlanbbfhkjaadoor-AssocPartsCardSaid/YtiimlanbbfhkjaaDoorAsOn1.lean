/- begins, onCookieAck, onComplete. Conditions: the association lies as it should. -/
import Derived.Test.YtiimlanbbfhkjaaDoorAsEnds
set_option linter.unusedSimpArgs false
set_option linter.unusedVariables false


namespace Go.FL

open Go.RowKit

theorem mine_not {eA eO eB B : Nat} {w : World} {g E e : Nat} {vr : Value} {a : AsD} {m : List Value} (h : AsAt eA eO eB B w g vr a) (hr : RowV w E e m) (h1 : e ≠ eA) (h2 : e ≠ eO) : ¬ Mine g vr E := by
  obtain ⟨vk, vp, vs, a1, -, -, -, ⟨ss, -, a5, -⟩, -⟩ := h
  rintro (rfl | hk)
  · exact h1 (rowV_fun hr a1).1
  · obtain ⟨l', hl'⟩ := a5.rowV _ hk
    exact h2 (rowV_fun hr hl').1
/-- What a block of another type, which is new, is laid with, changes nothing of it. -/
theorem Did.ev {eA eO eB B : Nat} {w wx w9 : World} {g E e : Nat} {vr : Value} {a' : AsD} {m : List Value} (h : Did eA eO eB B w g vr a' wx) (hE : w.heap.size ≤ E) (hr : RowV wx E e m) (h1 : e ≠ eA) (h2 : e ≠ eO) (h3 : e ≠ eB) (hc : Chg (fun k => k = E) wx w9) : Did eA eO eB B w g vr a' w9 := by
  obtain ⟨vr', k1, k2, k3⟩ := h
  have hn := mine_not k1 hr h1 h2
  refine ⟨vr', k1.chg hc (fun k l hk hl => ?_) (fun e1 => hn (.inl e1.symm)) (fun k hk e1 => hn (.inr (by rw [← e1]; exact hk))), k2, k3.then hc (fun i hi e1 => by omega)⟩
  subst hk
  exact h3 (rowV_fun hr hl).1
end Go.FL

namespace Go.Proofs.YtiimlanbbfhkjaaDoor

open Go.RowKit Go.FL Go.ChangeShapes

theorem begins_ret {a : Act} {W : World} {g : Nat} {R : Ending → World → Prop} (v0 v1 v2 v3 v4 v5 v6 v7 v8 v9 : Value) (h2 : a.tmps.getD 2 undef = .pointer (some ⟨g, 0, none⟩)) (hd : a.defers = [])
    (hc : RowV W g 33 [v0, v1, v2, v3, v4, v5, v6, v7, v8, v9]) (hR : R (.returned (.agg #[v0, v1, v2, v3, v4, v5, v6, v7, v8, v9])) W) : bodyPost Tryd.prog Tryd.f69 R .ret a W := by
  refine bodyPost_ret (v := .agg #[v0, v1, v2, v3, v4, v5, v6, v7, v8, v9]) ?_ hd hR
  have c0 := hc.at 0 (by simp)
  have c1 := hc.at 1 (by simp)
  have c2 := hc.at 2 (by simp)
  have c3 := hc.at 3 (by simp)
  have c4 := hc.at 4 (by simp)
  have c5 := hc.at 5 (by simp)
  have c6 := hc.at 6 (by simp)
  have c7 := hc.at 7 (by simp)
  have c8 := hc.at 8 (by simp)
  have c9 := hc.at 9 (by simp)
  simp only [List.getElem_cons_succ, List.getElem_cons_zero] at c0 c1 c2 c3 c4 c5 c6 c7 c8 c9
  simp only [Array.getD_eq_getD_getElem?] at h2
  simp [results, Tryd.results69, go_sem, h2, asAddr, c0, c1, c2, c3, c4, c5, c6, c7, c8, c9]
set_option maxRecDepth 100000 in
set_option maxHeartbeats 2000000 in
theorem begins_any (B : Nat) (w : World) (g : Nat) (vr : Value) (a : AsD) (h : As B w g vr a) :
    Calls Tryd.prog 69 #[.pointer (some ⟨g, 0, none⟩)] w fun e w' => e = .returned (EvD.val ⟨true, false, false, { a.peer with ck := [] }, a.tsn⟩) ∧ DidA B w g vr { a with st := 4, timer := -1 } w' := by
  have HH := hid h
  obtain ⟨vk, vp, vs, hr, hB, hk, hpc, ho, hsd⟩ := h
  obtain ⟨p9, n9, c9, rfl⟩ : ∃ p n c, vp = Value.slice p n c := by
    obtain ⟨p9, c9, hsf, -⟩ := hpc.rd
    exact ⟨_, _, _, hsf⟩
  have HB := hid hB
  have HK := hid hk
  have HP := hid hpc
  have HO := hid ho
  have HS := hid hsd
  obtain ⟨W, hW⟩ : ∃ W, W = w.alloc (.cells #[.bool false, .bool false, .bool false, .int .u32 0, .int .u32 0, .int .u16 0, .int .u16 0, .int .u32 0, .slice none 0 0, .int .u32 0] 33 (0, 0)) := ⟨_, rfl⟩
  have HEV := hid (show RowV W w.heap.size 33 [.bool false, .bool false, .bool false, .int .u32 0, .int .u32 0, .int .u16 0, .int .u16 0, .int .u32 0, .slice none 0 0, .int .u32 0] by rw [hW]; exact RowV.new w _ _)
  have G0 := hid (show Below w.heap.size w W by rw [hW]; exact (Below.refl _ _).alloc (Nat.le_refl _) _)
  have hs0 : W.heap.size = w.heap.size + 1 := by rw [hW]; simp
  have HA := hid (hr.mono G0.out)
  have HNE := hid (show w.heap.size ≠ g from rowV_ne HEV.out HA.out (by decide))
  have HGS := hid (show g < W.heap.size from HA.out.lt)
  have c15 := HA.out.at 15 (by simp [AsD.cells])
  have c17 := HA.out.at 17 (by simp [AsD.cells])
  have c18 := HA.out.at 18 (by simp [AsD.cells])
  have c19 := HA.out.at 19 (by simp [AsD.cells])
  have c20 := HA.out.at 20 (by simp [AsD.cells])
  have c21 := HA.out.at 21 (by simp [AsD.cells])
  have c22 := HA.out.at 22 (by simp [AsD.cells])
  have c23 := HA.out.at 23 (by simp [AsD.cells])
  have c27 := HA.out.at 27 (by simp [AsD.cells])
  simp only [AsD.cells, List.getElem_cons_succ, List.getElem_cons_zero] at c15 c17 c18 c19 c20 c21 c22 c23 c27
  have f15 := HA.out.frozen 15
  have f27 := HA.out.frozen 27
  rw [hW] at c15 c17 c18 c19 c20 c21 c22 c23 c27 f15 f27
  obtain ⟨W1, hW1⟩ : ∃ W1, W1 = (W.setCell ⟨g, 15, none⟩ (.int .u8 4)).setCell ⟨g, 27, none⟩ (.int .i64 (-1)) := ⟨_, rfl⟩
  have HA1 := hid (show RowV W1 g 77 (({ a with st := 4, timer := -1 } : AsD).cells vk (.slice p9 n9 c9) vr vs) by rw [hW1]; exact (HA.out.store 15 (.int .u8 4)).store 27 (.int .i64 (-1)))
  have HEV1 := hid (show RowV W1 w.heap.size 33 [.bool false, .bool false, .bool false, .int .u32 0, .int .u32 0, .int .u16 0, .int .u16 0, .int .u32 0, .slice none 0 0, .int .u32 0] by rw [hW1]; exact (HEV.out.other ⟨g, 15, none⟩ _ (fun e => HNE.out e.symm)).other ⟨g, 27, none⟩ _ (fun e => HNE.out e.symm))
  have HC1 := hid (show Chg (fun k => k = g) W W1 by rw [hW1]; exact ((Chg.refl (fun k => k = g) W).set ⟨g, 15, none⟩ _ (.inl rfl)).set ⟨g, 27, none⟩ _ (.inl rfl))
  have hs1 : W1.heap.size = w.heap.size + 1 := by rw [hW1]; simp [World.setCell, hs0]
  obtain ⟨W2, hW2⟩ : ∃ W2, W2 = W1.alloc (.cells #[.int .u32 (a.peer.tag : Int), .int .u32 (a.peer.rwnd : Int), .int .u16 (a.peer.out : Int), .int .u16 (a.peer.in_ : Int), .int .u32 (a.peer.tsn : Int), .slice none 0 0] 31 (0, 0)) := ⟨_, rfl⟩
  have HI2 := hid (show RowV W2 (w.heap.size + 1) 31 [.int .u32 (a.peer.tag : Int), .int .u32 (a.peer.rwnd : Int), .int .u16 (a.peer.out : Int), .int .u16 (a.peer.in_ : Int), .int .u32 (a.peer.tsn : Int), .slice none 0 0] by rw [hW2, ← hs1]; exact RowV.new W1 _ _)
  have g2 : Below W1.heap.size W1 W2 := by rw [hW2]; exact (Below.refl _ _).alloc (Nat.le_refl _) _
  have HA2 := hid (HA1.out.mono g2)
  have HEV2 := hid (HEV1.out.mono g2)
  have HC2 := hid (show Chg (fun k => k = g) W W2 from HC1.out.then (Chg.of_gr (S := fun _ => False) g2) (fun _ _ h => h.elim))
  have HE2 := hid (show W2 = (((w.alloc (.cells #[.bool false, .bool false, .bool false, .int .u32 0, .int .u32 0, .int .u16 0, .int .u16 0, .int .u32 0, .slice none 0 0, .int .u32 0] 33 (0, 0))).setCell ⟨g, 15, none⟩ (.int .u8 4)).setCell ⟨g, 27, none⟩ (.int .i64 (-1))).alloc (.cells #[.int .u32 (a.peer.tag : Int), .int .u32 (a.peer.rwnd : Int), .int .u16 (a.peer.out : Int), .int .u16 (a.peer.in_ : Int), .int .u32 (a.peer.tsn : Int), .slice none 0 0] 31 (0, 0)) by rw [hW2, hW1, hW])
  clear hB hk hpc ho hsd hr hW hW1 hW2 g2 hs0 hs1
  go_enter Tryd.func69, Tryd.ntmps69
  go_upto_region 4 with fail
  clear c15 c17 c18 c19 c20 c21 c22 c23 c27 f15 f27
  rw [← HE2.out]
  have HC17 := hid (HA2.out.at 17 (by simp [AsD.cells]))
  simp only [AsD.cells, List.getElem_cons_succ, List.getElem_cons_zero] at HC17
  refine wp_region_tail 6 [Is (.agg ([.int .u32 (a.peer.tag : Int), .int .u32 (a.peer.rwnd : Int), .int .u16 (a.peer.out : Int), .int .u16 (a.peer.in_ : Int), .int .u32 (a.peer.tsn : Int), .slice none 0 0]).toArray), Is (.pointer (some ⟨g, 0, none⟩)), Is (.pointer (some ⟨g, 0, none⟩)), Is (.pointer (some ⟨g, 17, none⟩)), Is (.int .u32 (a.tsn : Int)), Is (.agg #[.bool true, .bool false, .bool false, .int .u32 (a.peer.tag : Int), .int .u32 (a.peer.rwnd : Int), .int .u16 (a.peer.out : Int), .int .u16 (a.peer.in_ : Int), .int .u32 (a.peer.tsn : Int), .slice none 0 0, .int .u32 (a.tsn : Int)])] (by kernel_rfl) (by kernel_rfl) (by kernel_rfl) (by kernel_rfl) (by kernel_rfl) (by kernel_rfl) ?_ ?_ ?_
  · simp only [StabAll, Is.gr, RdF.gr, OwnF.gr, AnyF.gr, and_self]
  · try (rename_i Kk hKk; clear hKk Kk)
    simp only [List.take_succ_cons, List.take_zero, AllOps, List.map_cons, List.map_nil, depsOf, List.filterMap_cons, List.filterMap_nil, Region.binds, depFacts, guardF, reduceIte, List.getD_eq_getElem?_getD, List.getElem?_cons_succ, List.getElem?_cons_zero, Option.getD_some, factAt, and_true]
    refine ⟨?_, ?_, ?_, ?_, ?_, ?_⟩
    all_goals intro ρ wv hρ hR hd
    all_goals try simp only [Is] at hd
    · exact opOk_loadRow rfl (w.heap.size + 1) (by first | exact hρ.2 _ rfl | simp [hd]) _ ([.int .u32 (a.peer.tag : Int), .int .u32 (a.peer.rwnd : Int), .int .u16 (a.peer.out : Int), .int .u16 (a.peer.in_ : Int), .int .u32 (a.peer.tsn : Int), .slice none 0 0]) _ (HI2.out.mono hR) Tryd.underlying31 rfl (by kernel_rfl) ⟨rfl, GrR.refl _⟩
    · exact opOk_move (.inl rfl) ⟨by simp only [Is]; (first | exact hρ.2 0 rfl | exact hd | exact hd.1 | exact hd.2 | simp [hd]), GrR.refl _⟩
    · exact opOk_val (v := .pointer (some ⟨g, 0, none⟩)) (w' := wv) (by simp [execOp, go_sem, hρ.1.const, hρ.1.func, hd]) ⟨rfl, GrR.refl _⟩
    · exact opOk_val (v := .pointer (some ⟨g, 17, none⟩)) (w' := wv) (by simp [execOp, go_sem, hρ.1.const, hρ.1.func, hd]) ⟨rfl, GrR.refl _⟩
    · (have h0 := cell?_of_below hR HC17.out; exact opOk_val (v := .int .u32 (a.tsn : Int)) (w' := wv) (by simp [execOp, go_sem, hd, h0]) ⟨rfl, GrR.refl _⟩)
    · exact opOk_val (v := .agg #[.bool true, .bool false, .bool false, .int .u32 (a.peer.tag : Int), .int .u32 (a.peer.rwnd : Int), .int .u16 (a.peer.out : Int), .int .u16 (a.peer.in_ : Int), .int .u32 (a.peer.tsn : Int), .slice none 0 0, .int .u32 (a.tsn : Int)]) (w' := wv) (by simp [execOp, go_sem, hρ.1.const, hρ.1.func, hd]) ⟨rfl, GrR.refl _⟩
  · intro vals wv hR hall
    have i5 := hall 5 (by omega)
    simp only [factAt, Is, List.getD_eq_getElem?_getD, List.getElem?_cons_succ, List.getElem?_cons_zero, Option.getD_some] at i5
    clear hall
    simp only [List.take_succ_cons, List.take_zero, List.drop_succ_cons, List.drop_zero, fillFrom, Act.put, i5, List.setIfInBounds_toArray, List.set_cons_zero, List.set_cons_succ, Nat.zero_add, Nat.reduceAdd]
    obtain ⟨w3, hw3⟩ : ∃ x, x = wv := ⟨_, rfl⟩
    subst hw3
    have HA3 := hid (HA2.out.mono hR)
    have HEV3 := hid (HEV2.out.mono hR)
    have HC3 := hid (show Chg (fun k => k = g) W w3 from HC2.out.then (Chg.of_gr (S := fun _ => False) hR) (fun _ _ h => h.elim))
    have HDID := hid (show DidA B w g vr { a with st := 4, timer := -1 } w3 from ⟨vr, ⟨vk, .slice p9 n9 c9, vs, HA3.out, HB.out, (HK.out.mono G0.out).chg HC3.out (own_ne_row (HK.out.mono G0.out) HA.out (by decide)), (HP.out.mono G0.out).chg HC3.out (own_ne_row (HP.out.mono G0.out) HA.out (by decide)), outs_g (OutsAt.mono HO.out G0.out) HA.out (by decide) (by decide) HC3.out, (HS.out.mono G0.out).chg HC3.out (own_ne_row (HS.out.mono G0.out) HA.out (by decide))⟩, fun k hk => .inl hk, (Chg.of_gr G0.out).then HC3.out (fun i _ e => .inl e)⟩)
    clear hR i5
    have y0 := HEV3.out.at 0 (by simp)
    have y1 := HEV3.out.at 1 (by simp)
    have y2 := HEV3.out.at 2 (by simp)
    have y3 := HEV3.out.at 3 (by simp)
    have y4 := HEV3.out.at 4 (by simp)
    have y5 := HEV3.out.at 5 (by simp)
    have y6 := HEV3.out.at 6 (by simp)
    have y7 := HEV3.out.at 7 (by simp)
    have y8 := HEV3.out.at 8 (by simp)
    have y9 := HEV3.out.at 9 (by simp)
    simp only [List.getElem_cons_succ, List.getElem_cons_zero] at y0 y1 y2 y3 y4 y5 y6 y7 y8 y9
    have f0 := HEV3.out.frozen 0
    have f1 := HEV3.out.frozen 1
    have f2 := HEV3.out.frozen 2
    have f3 := HEV3.out.frozen 3
    have f4 := HEV3.out.frozen 4
    have f5 := HEV3.out.frozen 5
    have f6 := HEV3.out.frozen 6
    have f7 := HEV3.out.frozen 7
    have f8 := HEV3.out.frozen 8
    have f9 := HEV3.out.frozen 9
    go_wp2_with fail
    clear y0 f0 y1 f1 y2 f2 y3 f3 y4 f4 y5 f5 y6 f6 y7 f7 y8 f8 y9 f9
    have HEC := hid (show Chg (fun k => k = w.heap.size) w3 _ from (((((((((((Chg.refl (fun k => k = w.heap.size) w3).set ⟨w.heap.size, 0, none⟩ (.bool true) (.inl rfl)).set ⟨w.heap.size, 1, none⟩ (.bool false) (.inl rfl)).set ⟨w.heap.size, 2, none⟩ (.bool false) (.inl rfl)).set ⟨w.heap.size, 3, none⟩ (.int .u32 (a.peer.tag : Int)) (.inl rfl)).set ⟨w.heap.size, 4, none⟩ (.int .u32 (a.peer.rwnd : Int)) (.inl rfl)).set ⟨w.heap.size, 5, none⟩ (.int .u16 (a.peer.out : Int)) (.inl rfl)).set ⟨w.heap.size, 6, none⟩ (.int .u16 (a.peer.in_ : Int)) (.inl rfl)).set ⟨w.heap.size, 7, none⟩ (.int .u32 (a.peer.tsn : Int)) (.inl rfl)).set ⟨w.heap.size, 8, none⟩ (.slice none 0 0) (.inl rfl)).set ⟨w.heap.size, 9, none⟩ (.int .u32 (a.tsn : Int)) (.inl rfl)))
    refine begins_ret (.bool true) (.bool false) (.bool false) (.int .u32 (a.peer.tag : Int)) (.int .u32 (a.peer.rwnd : Int)) (.int .u16 (a.peer.out : Int)) (.int .u16 (a.peer.in_ : Int)) (.int .u32 (a.peer.tsn : Int)) (.slice none 0 0) (.int .u32 (a.tsn : Int)) rfl rfl ((((((((((HEV3.out.store 0 (.bool true)).store 1 (.bool false)).store 2 (.bool false)).store 3 (.int .u32 (a.peer.tag : Int))).store 4 (.int .u32 (a.peer.rwnd : Int))).store 5 (.int .u16 (a.peer.out : Int))).store 6 (.int .u16 (a.peer.in_ : Int))).store 7 (.int .u32 (a.peer.tsn : Int))).store 8 (.slice none 0 0)).store 9 (.int .u32 (a.tsn : Int))) ⟨rfl, (HDID.out).ev (Nat.le_refl _) HEV3.out (by decide) (by decide) (by decide) HEC.out⟩
theorem onCookieAck_ret {a : Act} {W : World} {g : Nat} {R : Ending → World → Prop} (v0 v1 v2 v3 v4 v5 v6 v7 v8 v9 : Value) (h2 : a.tmps.getD 8 undef = .pointer (some ⟨g, 0, none⟩)) (hd : a.defers = [])
    (hc : RowV W g 33 [v0, v1, v2, v3, v4, v5, v6, v7, v8, v9]) (hR : R (.returned (.agg #[v0, v1, v2, v3, v4, v5, v6, v7, v8, v9])) W) : bodyPost Tryd.prog Tryd.f53 R .ret a W := by
  refine bodyPost_ret (v := .agg #[v0, v1, v2, v3, v4, v5, v6, v7, v8, v9]) ?_ hd hR
  have c0 := hc.at 0 (by simp)
  have c1 := hc.at 1 (by simp)
  have c2 := hc.at 2 (by simp)
  have c3 := hc.at 3 (by simp)
  have c4 := hc.at 4 (by simp)
  have c5 := hc.at 5 (by simp)
  have c6 := hc.at 6 (by simp)
  have c7 := hc.at 7 (by simp)
  have c8 := hc.at 8 (by simp)
  have c9 := hc.at 9 (by simp)
  simp only [List.getElem_cons_succ, List.getElem_cons_zero] at c0 c1 c2 c3 c4 c5 c6 c7 c8 c9
  simp only [Array.getD_eq_getD_getElem?] at h2
  simp [results, Tryd.results53, go_sem, h2, asAddr, c0, c1, c2, c3, c4, c5, c6, c7, c8, c9]
set_option maxRecDepth 100000 in
set_option maxHeartbeats 2000000 in
theorem onCookieAck_any (B : Nat) (w : World) (g : Nat) (vr : Value) (a : AsD) (h : As B w g vr a) (now : Int) (hnow : 0 ≤ now ∧ now ≤ 2305843009213693952) (path : Nat) (c : Chk) (s : Value) (hs : Own w B 5 s c.b) :
    Calls Tryd.prog 53 #[.pointer (some ⟨g, 0, none⟩), .int .i64 now, .int .i64 (path : Int), .agg #[.int .u8 (c.k.toNat : Int), .int .u8 (c.f.toNat : Int), s]] w fun e w' => e = .returned (if a.st = 3 then EvD.val ⟨true, false, false, { a.peer with ck := [] }, a.tsn⟩ else EvD.val .none) ∧ DidA B w g vr (if a.st = 3 then ({ a with st := 4, timer := -1 } : AsD) else a) w' := by
  obtain ⟨ps, nb, cps, rfl⟩ : ∃ p n c, s = Value.slice p n c := by
    obtain ⟨p9, c9, hsf, -⟩ := hs.rd
    exact ⟨_, _, _, hsf⟩
  obtain ⟨W0, hW0⟩ : ∃ W, W = w.alloc (.cells #[.int .u8 (c.k.toNat : Int), .int .u8 (c.f.toNat : Int), .slice ps nb cps] 47 (0, 0)) := ⟨_, rfl⟩
  have hs0 : W0.heap.size = w.heap.size + 1 := by rw [hW0]; simp
  obtain ⟨W, hW⟩ : ∃ W, W = W0.alloc (.cells #[.bool false, .bool false, .bool false, .int .u32 0, .int .u32 0, .int .u16 0, .int .u16 0, .int .u32 0, .slice none 0 0, .int .u32 0] 33 (0, 0)) := ⟨_, rfl⟩
  have HCH := hid (show RowV W w.heap.size 47 [.int .u8 (c.k.toNat : Int), .int .u8 (c.f.toNat : Int), .slice ps nb cps] by rw [hW, hW0]; exact (RowV.new w _ _).alloc _)
  have HEV := hid (show RowV W (w.heap.size + 1) 33 [.bool false, .bool false, .bool false, .int .u32 0, .int .u32 0, .int .u16 0, .int .u16 0, .int .u32 0, .slice none 0 0, .int .u32 0] by rw [hW, ← hs0]; exact RowV.new W0 _ _)
  have G0 := hid (show Below w.heap.size w W by rw [hW, hW0]; exact ((Below.refl _ _).alloc (Nat.le_refl _) _).alloc (by simp) _)
  have HAS := hid (AsAt.mono h G0.out)
  have HBS := hid (hs.mono G0.out)
  have HNM := hid (show ¬ Mine g vr (w.heap.size + 1) from mine_not HAS.out HEV.out (by decide) (by decide))
  obtain ⟨vk, vp, vs, hr, -⟩ := id HAS.out
  have HA := hid hr
  rw [hW0] at hW
  have HE := hid hW
  clear h hs hr hs0 hW0 W0
  have c15 := HA.out.at 15 (by simp [AsD.cells])
  simp only [AsD.cells, List.getElem_cons_succ, List.getElem_cons_zero] at c15
  rw [hW] at c15
  clear hW
  have HEE := hid HE.out
  go_enter Tryd.func53, Tryd.ntmps53
  by_cases q : a.st = 3
  · have z : ((a.st : Int) != 3) = false := by simp; omega
    have HQ := hid q
    clear q
    go_wp2_with fail
    rw [← HE.out]
    clear c15
    refine (begins_any B _ g vr a HAS.out).mono ?_
    rintro e w1 ⟨rfl, hd1⟩
    have HD1 := hid (show DidA B w g vr ({ a with st := 4, timer := -1 } : AsD) w1 from Did.trans (fun _ h => .inl h) (Chg.of_gr G0.out) hd1)
    have HEV1 := hid (show RowV w1 (w.heap.size + 1) 33 [.bool false, .bool false, .bool false, .int .u32 0, .int .u32 0, .int .u16 0, .int .u16 0, .int .u32 0, .slice none 0 0, .int .u32 0] from by
      obtain ⟨vr1, -, -, hc1⟩ := hd1
      exact HEV.out.chg hc1 HNM.out)
    clear hd1
    have y0 := HEV1.out.at 0 (by simp)
    have y1 := HEV1.out.at 1 (by simp)
    have y2 := HEV1.out.at 2 (by simp)
    have y3 := HEV1.out.at 3 (by simp)
    have y4 := HEV1.out.at 4 (by simp)
    have y5 := HEV1.out.at 5 (by simp)
    have y6 := HEV1.out.at 6 (by simp)
    have y7 := HEV1.out.at 7 (by simp)
    have y8 := HEV1.out.at 8 (by simp)
    have y9 := HEV1.out.at 9 (by simp)
    simp only [List.getElem_cons_succ, List.getElem_cons_zero] at y0 y1 y2 y3 y4 y5 y6 y7 y8 y9
    have f0 := HEV1.out.frozen 0
    have f1 := HEV1.out.frozen 1
    have f2 := HEV1.out.frozen 2
    have f3 := HEV1.out.frozen 3
    have f4 := HEV1.out.frozen 4
    have f5 := HEV1.out.frozen 5
    have f6 := HEV1.out.frozen 6
    have f7 := HEV1.out.frozen 7
    have f8 := HEV1.out.frozen 8
    have f9 := HEV1.out.frozen 9
    rw [show EvD.val ⟨true, false, false, { a.peer with ck := [] }, a.tsn⟩ = .agg #[.bool true, .bool false, .bool false, .int .u32 (a.peer.tag : Int), .int .u32 (a.peer.rwnd : Int), .int .u16 (a.peer.out : Int), .int .u16 (a.peer.in_ : Int), .int .u32 (a.peer.tsn : Int), .slice none 0 0, .int .u32 (a.tsn : Int)] from rfl]
    go_wp2_with fail
    clear y0 f0 y1 f1 y2 f2 y3 f3 y4 f4 y5 f5 y6 f6 y7 f7 y8 f8 y9 f9
    have HEC := hid (show Chg (fun k => k = w.heap.size + 1) w1 _ from (((((((((((Chg.refl (fun k => k = w.heap.size + 1) w1).set ⟨(w.heap.size + 1), 0, none⟩ (.bool true) (.inl rfl)).set ⟨(w.heap.size + 1), 1, none⟩ (.bool false) (.inl rfl)).set ⟨(w.heap.size + 1), 2, none⟩ (.bool false) (.inl rfl)).set ⟨(w.heap.size + 1), 3, none⟩ (.int .u32 (a.peer.tag : Int)) (.inl rfl)).set ⟨(w.heap.size + 1), 4, none⟩ (.int .u32 (a.peer.rwnd : Int)) (.inl rfl)).set ⟨(w.heap.size + 1), 5, none⟩ (.int .u16 (a.peer.out : Int)) (.inl rfl)).set ⟨(w.heap.size + 1), 6, none⟩ (.int .u16 (a.peer.in_ : Int)) (.inl rfl)).set ⟨(w.heap.size + 1), 7, none⟩ (.int .u32 (a.peer.tsn : Int)) (.inl rfl)).set ⟨(w.heap.size + 1), 8, none⟩ (.slice none 0 0) (.inl rfl)).set ⟨(w.heap.size + 1), 9, none⟩ (.int .u32 (a.tsn : Int)) (.inl rfl)))
    refine onCookieAck_ret (.bool true) (.bool false) (.bool false) (.int .u32 (a.peer.tag : Int)) (.int .u32 (a.peer.rwnd : Int)) (.int .u16 (a.peer.out : Int)) (.int .u16 (a.peer.in_ : Int)) (.int .u32 (a.peer.tsn : Int)) (.slice none 0 0) (.int .u32 (a.tsn : Int)) rfl rfl ((((((((((HEV1.out.store 0 (.bool true)).store 1 (.bool false)).store 2 (.bool false)).store 3 (.int .u32 (a.peer.tag : Int))).store 4 (.int .u32 (a.peer.rwnd : Int))).store 5 (.int .u16 (a.peer.out : Int))).store 6 (.int .u16 (a.peer.in_ : Int))).store 7 (.int .u32 (a.peer.tsn : Int))).store 8 (.slice none 0 0)).store 9 (.int .u32 (a.tsn : Int))) ⟨?_, ?_⟩
    · first | rfl | (rw [if_pos HQ.out]; rfl)
    · first | exact HD1.out.ev (Nat.le_succ _) HEV1.out (by decide) (by decide) (by decide) HEC.out | (rw [if_pos HQ.out]; exact HD1.out.ev (Nat.le_succ _) HEV1.out (by decide) (by decide) (by decide) HEC.out)
  · have z : ((a.st : Int) != 3) = true := by simp; omega
    have HQ := hid q
    clear q
    go_wp2_with fail
    rw [← HE.out]
    refine onCookieAck_ret (.bool false) (.bool false) (.bool false) (.int .u32 0) (.int .u32 0) (.int .u16 0) (.int .u16 0) (.int .u32 0) (.slice none 0 0) (.int .u32 0) rfl rfl HEV.out ⟨?_, ?_⟩
    · first | rfl | (rw [if_neg HQ.out]; rfl)
    · first | exact ⟨vr, HAS.out, fun _ h => .inl h, Chg.of_gr G0.out⟩ | (rw [if_neg HQ.out]; exact ⟨vr, HAS.out, fun _ h => .inl h, Chg.of_gr G0.out⟩)
theorem onComplete_ret {a : Act} {W : World} {g : Nat} {R : Ending → World → Prop} (v0 v1 v2 v3 v4 v5 v6 v7 v8 v9 : Value) (h2 : a.tmps.getD 8 undef = .pointer (some ⟨g, 0, none⟩)) (hd : a.defers = [])
    (hc : RowV W g 33 [v0, v1, v2, v3, v4, v5, v6, v7, v8, v9]) (hR : R (.returned (.agg #[v0, v1, v2, v3, v4, v5, v6, v7, v8, v9])) W) : bodyPost Tryd.prog Tryd.f58 R .ret a W := by
  refine bodyPost_ret (v := .agg #[v0, v1, v2, v3, v4, v5, v6, v7, v8, v9]) ?_ hd hR
  have c0 := hc.at 0 (by simp)
  have c1 := hc.at 1 (by simp)
  have c2 := hc.at 2 (by simp)
  have c3 := hc.at 3 (by simp)
  have c4 := hc.at 4 (by simp)
  have c5 := hc.at 5 (by simp)
  have c6 := hc.at 6 (by simp)
  have c7 := hc.at 7 (by simp)
  have c8 := hc.at 8 (by simp)
  have c9 := hc.at 9 (by simp)
  simp only [List.getElem_cons_succ, List.getElem_cons_zero] at c0 c1 c2 c3 c4 c5 c6 c7 c8 c9
  simp only [Array.getD_eq_getD_getElem?] at h2
  simp [results, Tryd.results58, go_sem, h2, asAddr, c0, c1, c2, c3, c4, c5, c6, c7, c8, c9]
set_option maxRecDepth 100000 in
set_option maxHeartbeats 2000000 in
theorem onComplete_any (B : Nat) (w : World) (g : Nat) (vr : Value) (a : AsD) (h : As B w g vr a) (now : Int) (hnow : 0 ≤ now ∧ now ≤ 2305843009213693952) (path : Nat) (c : Chk) (s : Value) (hs : Own w B 5 s c.b) (hp : a.peer.tag < 4294967296) :
    Calls Tryd.prog 58 #[.pointer (some ⟨g, 0, none⟩), .int .i64 now, .int .i64 (path : Int), .agg #[.int .u8 (c.k.toNat : Int), .int .u8 (c.f.toNat : Int), s]] w fun e w' => e = .returned (if a.st = 8 then EvD.val ⟨false, true, true, .zero, 0⟩ else EvD.val .none) ∧ DidA B w g vr (if a.st = 8 then (endsD a) else a) w' := by
  obtain ⟨ps, nb, cps, rfl⟩ : ∃ p n c, s = Value.slice p n c := by
    obtain ⟨p9, c9, hsf, -⟩ := hs.rd
    exact ⟨_, _, _, hsf⟩
  obtain ⟨W0, hW0⟩ : ∃ W, W = w.alloc (.cells #[.int .u8 (c.k.toNat : Int), .int .u8 (c.f.toNat : Int), .slice ps nb cps] 47 (0, 0)) := ⟨_, rfl⟩
  have hs0 : W0.heap.size = w.heap.size + 1 := by rw [hW0]; simp
  obtain ⟨W, hW⟩ : ∃ W, W = W0.alloc (.cells #[.bool false, .bool false, .bool false, .int .u32 0, .int .u32 0, .int .u16 0, .int .u16 0, .int .u32 0, .slice none 0 0, .int .u32 0] 33 (0, 0)) := ⟨_, rfl⟩
  have HCH := hid (show RowV W w.heap.size 47 [.int .u8 (c.k.toNat : Int), .int .u8 (c.f.toNat : Int), .slice ps nb cps] by rw [hW, hW0]; exact (RowV.new w _ _).alloc _)
  have HEV := hid (show RowV W (w.heap.size + 1) 33 [.bool false, .bool false, .bool false, .int .u32 0, .int .u32 0, .int .u16 0, .int .u16 0, .int .u32 0, .slice none 0 0, .int .u32 0] by rw [hW, ← hs0]; exact RowV.new W0 _ _)
  have G0 := hid (show Below w.heap.size w W by rw [hW, hW0]; exact ((Below.refl _ _).alloc (Nat.le_refl _) _).alloc (by simp) _)
  have HAS := hid (AsAt.mono h G0.out)
  have HBS := hid (hs.mono G0.out)
  have HNM := hid (show ¬ Mine g vr (w.heap.size + 1) from mine_not HAS.out HEV.out (by decide) (by decide))
  obtain ⟨vk, vp, vs, hr, -⟩ := id HAS.out
  have HA := hid hr
  rw [hW0] at hW
  have HE := hid hW
  clear h hs hr hs0 hW0 W0
  have c15 := HA.out.at 15 (by simp [AsD.cells])
  simp only [AsD.cells, List.getElem_cons_succ, List.getElem_cons_zero] at c15
  rw [hW] at c15
  clear hW
  have HEE := hid HE.out
  go_enter Tryd.func58, Tryd.ntmps58
  by_cases q : a.st = 8
  · have z : ((a.st : Int) != 8) = false := by simp; omega
    have HQ := hid q
    clear q
    go_wp2_with fail
    rw [← HE.out]
    clear c15
    refine (ends_any B _ g vr a HAS.out hp true).mono ?_
    rintro e w1 ⟨rfl, hd1⟩
    have HD1 := hid (show DidA B w g vr (endsD a) w1 from Did.trans (fun _ h => .inl h) (Chg.of_gr G0.out) hd1)
    have HEV1 := hid (show RowV w1 (w.heap.size + 1) 33 [.bool false, .bool false, .bool false, .int .u32 0, .int .u32 0, .int .u16 0, .int .u16 0, .int .u32 0, .slice none 0 0, .int .u32 0] from by
      obtain ⟨vr1, -, -, hc1⟩ := hd1
      exact HEV.out.chg hc1 HNM.out)
    clear hd1
    have y0 := HEV1.out.at 0 (by simp)
    have y1 := HEV1.out.at 1 (by simp)
    have y2 := HEV1.out.at 2 (by simp)
    have y3 := HEV1.out.at 3 (by simp)
    have y4 := HEV1.out.at 4 (by simp)
    have y5 := HEV1.out.at 5 (by simp)
    have y6 := HEV1.out.at 6 (by simp)
    have y7 := HEV1.out.at 7 (by simp)
    have y8 := HEV1.out.at 8 (by simp)
    have y9 := HEV1.out.at 9 (by simp)
    simp only [List.getElem_cons_succ, List.getElem_cons_zero] at y0 y1 y2 y3 y4 y5 y6 y7 y8 y9
    have f0 := HEV1.out.frozen 0
    have f1 := HEV1.out.frozen 1
    have f2 := HEV1.out.frozen 2
    have f3 := HEV1.out.frozen 3
    have f4 := HEV1.out.frozen 4
    have f5 := HEV1.out.frozen 5
    have f6 := HEV1.out.frozen 6
    have f7 := HEV1.out.frozen 7
    have f8 := HEV1.out.frozen 8
    have f9 := HEV1.out.frozen 9
    rw [show EvD.val ⟨false, true, true, .zero, 0⟩ = .agg #[.bool false, .bool true, .bool true, .int .u32 0, .int .u32 0, .int .u16 0, .int .u16 0, .int .u32 0, .slice none 0 0, .int .u32 0] from rfl]
    go_wp2_with fail
    clear y0 f0 y1 f1 y2 f2 y3 f3 y4 f4 y5 f5 y6 f6 y7 f7 y8 f8 y9 f9
    have HEC := hid (show Chg (fun k => k = w.heap.size + 1) w1 _ from (((((((((((Chg.refl (fun k => k = w.heap.size + 1) w1).set ⟨(w.heap.size + 1), 0, none⟩ (.bool false) (.inl rfl)).set ⟨(w.heap.size + 1), 1, none⟩ (.bool true) (.inl rfl)).set ⟨(w.heap.size + 1), 2, none⟩ (.bool true) (.inl rfl)).set ⟨(w.heap.size + 1), 3, none⟩ (.int .u32 0) (.inl rfl)).set ⟨(w.heap.size + 1), 4, none⟩ (.int .u32 0) (.inl rfl)).set ⟨(w.heap.size + 1), 5, none⟩ (.int .u16 0) (.inl rfl)).set ⟨(w.heap.size + 1), 6, none⟩ (.int .u16 0) (.inl rfl)).set ⟨(w.heap.size + 1), 7, none⟩ (.int .u32 0) (.inl rfl)).set ⟨(w.heap.size + 1), 8, none⟩ (.slice none 0 0) (.inl rfl)).set ⟨(w.heap.size + 1), 9, none⟩ (.int .u32 0) (.inl rfl)))
    refine onComplete_ret (.bool false) (.bool true) (.bool true) (.int .u32 0) (.int .u32 0) (.int .u16 0) (.int .u16 0) (.int .u32 0) (.slice none 0 0) (.int .u32 0) rfl rfl ((((((((((HEV1.out.store 0 (.bool false)).store 1 (.bool true)).store 2 (.bool true)).store 3 (.int .u32 0)).store 4 (.int .u32 0)).store 5 (.int .u16 0)).store 6 (.int .u16 0)).store 7 (.int .u32 0)).store 8 (.slice none 0 0)).store 9 (.int .u32 0)) ⟨?_, ?_⟩
    · first | rfl | (rw [if_pos HQ.out]; rfl)
    · first | exact HD1.out.ev (Nat.le_succ _) HEV1.out (by decide) (by decide) (by decide) HEC.out | (rw [if_pos HQ.out]; exact HD1.out.ev (Nat.le_succ _) HEV1.out (by decide) (by decide) (by decide) HEC.out)
  · have z : ((a.st : Int) != 8) = true := by simp; omega
    have HQ := hid q
    clear q
    go_wp2_with fail
    rw [← HE.out]
    refine onComplete_ret (.bool false) (.bool false) (.bool false) (.int .u32 0) (.int .u32 0) (.int .u16 0) (.int .u16 0) (.int .u32 0) (.slice none 0 0) (.int .u32 0) rfl rfl HEV.out ⟨?_, ?_⟩
    · first | rfl | (rw [if_neg HQ.out]; rfl)
    · first | exact ⟨vr, HAS.out, fun _ h => .inl h, Chg.of_gr G0.out⟩ | (rw [if_neg HQ.out]; exact ⟨vr, HAS.out, fun _ h => .inl h, Chg.of_gr G0.out⟩)
end Go.Proofs.YtiimlanbbfhkjaaDoor

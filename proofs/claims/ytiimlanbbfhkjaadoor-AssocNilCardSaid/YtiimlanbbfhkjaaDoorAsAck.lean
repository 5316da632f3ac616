/- onInitAck. Conditions: the association lies as it should; its row is not too long. -/
import Derived.Test.YtiimlanbbfhkjaaDoorAsTick
import Derived.Test.YtiimlanbbfhkjaaDoorBodA
import Derived.Test.YtiimlanbbfhkjaaDoorBaseD
set_option linter.unusedSimpArgs false
set_option linter.unusedVariables false




namespace Go.FL

theorem initGet_okA (c : Chk) (h : (initGet c).2 = 0) : (initGet c).1.wf ∧ (initGet c).1.chk c.k = c ∧ (initGet c).1.ck.length ≤ c.b.length := by
  unfold initGet at h ⊢
  by_cases hp : initMay c = true ∧ (initOf c).chk c.k = c
  · rw [if_pos hp]
    refine ⟨⟨numAt_lt _ _ 4, numAt_lt _ _ 4, numAt_lt _ _ 2, numAt_lt _ _ 2, numAt_lt _ _ 4⟩, hp.2, ?_⟩
    show (if c.k = 2 then initCk c.b else []).length ≤ _
    split
    · unfold initCk cutAt
      split
      · rw [List.length_take, List.length_drop]
        omega
      · simp
    · simp
  · rw [if_neg hp] at h
    exact absurd h (by decide)
/-- Behind an INIT-ACK. -/
def onInitAckD (a : AsD) (now : Int) (c : Chk) : AsD := if (initGet c).2 = 0 ∧ a.st = 2 then runD { a with peer := (initGet c).1 } now (initGet c).1.tag ⟨10, 0, (initGet c).1.ck⟩ 3 else a
end Go.FL

namespace Go.Proofs.YtiimlanbbfhkjaaDoor

open Go.RowKit Go.FL Go.ChangeShapes

theorem onInitAck_ret {a : Act} {W : World} {g : Nat} {R : Ending → World → Prop} (v0 v1 v2 v3 v4 v5 v6 v7 v8 v9 : Value) (h2 : a.tmps.getD 8 undef = .pointer (some ⟨g, 0, none⟩)) (hd : a.defers = [])
    (hc : RowV W g 33 [v0, v1, v2, v3, v4, v5, v6, v7, v8, v9]) (hR : R (.returned (.agg #[v0, v1, v2, v3, v4, v5, v6, v7, v8, v9])) W) : bodyPost Tryd.prog Tryd.f51 R .ret a W := by
  refine bodyPost_ret (v := .agg #[v0, v1, v2, v3, v4, v5, v6, v7, v8, v9]) ?_ hd hR
  have c0 := hc.at 0 (by simp)
  have c1 := hc.at 1 (by simp)
  have c2 := hc.at 2 (by simp)
  have c3 := hc.at 3 (by simp)
  have c4 := hc.at 4 (by simp)
  have c5 := hc.at 5 (by simp)
  have c6 := hc.at 6 (by simp)
  have c7 := hc.at 7 (by simp)
  have c8 := hc.at 8 (by simp)
  have c9 := hc.at 9 (by simp)
  simp only [List.getElem_cons_succ, List.getElem_cons_zero] at c0 c1 c2 c3 c4 c5 c6 c7 c8 c9
  simp only [Array.getD_eq_getD_getElem?] at h2
  simp [results, Tryd.results51, go_sem, h2, asAddr, c0, c1, c2, c3, c4, c5, c6, c7, c8, c9]
set_option maxRecDepth 100000 in
set_option maxHeartbeats 4000000 in
theorem onInitAck_any (B : Nat) (w : World) (g : Nat) (vr : Value) (a : AsD) (h : As B w g vr a) (now : Int) (hnow : 0 ≤ now ∧ now ≤ 2305843009213693952) (path : Nat) (c : Chk) (s : Value) (hs : Own w B 5 s c.b) (hcb : c.b.length ≤ 1000000) (hl : a.row.length ≤ 1000000) :
    Calls Tryd.prog 51 #[.pointer (some ⟨g, 0, none⟩), .int .i64 now, .int .i64 (path : Int), .agg #[.int .u8 (c.k.toNat : Int), .int .u8 (c.f.toNat : Int), s]] w fun e w' => e = .returned (EvD.val .none) ∧ DidA B w g vr (onInitAckD a now c) w' := by
  have HL := hid hl
  have HNOW := hid hnow
  have HCBL := hid hcb
  obtain ⟨ps, nb, cps, rfl⟩ : ∃ p n c, s = Value.slice p n c := by
    obtain ⟨p9, c9, hsf, -⟩ := hs.rd
    exact ⟨_, _, _, hsf⟩
  obtain ⟨W0, hW0⟩ : ∃ W, W = w.alloc (.cells #[.int .u8 (c.k.toNat : Int), .int .u8 (c.f.toNat : Int), .slice ps nb cps] 47 (0, 0)) := ⟨_, rfl⟩
  have hs0 : W0.heap.size = w.heap.size + 1 := by rw [hW0]; simp
  obtain ⟨W, hW⟩ : ∃ W, W = W0.alloc (.cells #[.bool false, .bool false, .bool false, .int .u32 0, .int .u32 0, .int .u16 0, .int .u16 0, .int .u32 0, .slice none 0 0, .int .u32 0] 33 (0, 0)) := ⟨_, rfl⟩
  have HCH := hid (show RowV W w.heap.size 47 [.int .u8 (c.k.toNat : Int), .int .u8 (c.f.toNat : Int), .slice ps nb cps] by rw [hW, hW0]; exact (RowV.new w _ _).alloc _)
  have HEV := hid (show RowV W (w.heap.size + 1) 33 [.bool false, .bool false, .bool false, .int .u32 0, .int .u32 0, .int .u16 0, .int .u16 0, .int .u32 0, .slice none 0 0, .int .u32 0] by rw [hW, ← hs0]; exact RowV.new W0 _ _)
  have G0 := hid (show Below w.heap.size w W by rw [hW, hW0]; exact ((Below.refl _ _).alloc (Nat.le_refl _) _).alloc (by simp) _)
  have HAS := hid (AsAt.mono h G0.out)
  have HBS := hid (hs.mono G0.out)
  have HNM := hid (show ¬ Mine g vr (w.heap.size + 1) from mine_not HAS.out HEV.out (by decide) (by decide))
  obtain ⟨vk, vp, vs, hr, -⟩ := id HAS.out
  have HA := hid hr
  rw [hW0] at hW
  have HE := hid hW
  clear h hs hr hs0 hW0 W0
  clear hl hnow hcb
  have k0 := HCH.out.at 0 (by simp)
  have k1 := HCH.out.at 1 (by simp)
  have k2 := HCH.out.at 2 (by simp)
  simp only [List.getElem_cons_succ, List.getElem_cons_zero] at k0 k1 k2
  rw [hW] at k0 k1 k2
  clear hW
  go_enter Tryd.func51, Tryd.ntmps51
  go_wp2_with fail
  rw [← HE.out]
  clear k0 k1 k2
  refine (getInit_any _ c _ ⟨_, rfl, HBS.out.rd⟩ HCBL.out).mono ?_
  rintro e w1 ⟨sx, rfl, hox, hb1⟩
  obtain ⟨xi, xe, hx⟩ : ∃ x y, initGet c = (x, y) := ⟨_, _, rfl⟩
  have HX := hid hx
  rw [hx] at hox ⊢
  simp only at hox ⊢
  obtain ⟨px, nx, cx, rfl⟩ : ∃ p n c, sx = Value.slice p n c := by
    obtain ⟨p9, c9, hsf, -⟩ := hox.rd
    exact ⟨_, _, _, hsf⟩
  rw [show xi.vals (.slice px nx cx) = .agg #[.int .u32 (xi.tag : Int), .int .u32 (xi.rwnd : Int), .int .u16 (xi.out : Int), .int .u16 (xi.in_ : Int), .int .u32 (xi.tsn : Int), .slice px nx cx] from rfl]
  have HB0 := hid (show B ≤ W.heap.size from by obtain ⟨_, _, _, r1, r2, -⟩ := HAS.out; exact Nat.le_trans r2 (Nat.le_of_lt r1.lt))
  obtain ⟨W2, hW2⟩ : ∃ x, x = w1.alloc (.cells #[.int .u32 (xi.tag : Int), .int .u32 (xi.rwnd : Int), .int .u16 (xi.out : Int), .int .u16 (xi.in_ : Int), .int .u32 (xi.tsn : Int), .slice px nx cx] 31 (0, 0)) := ⟨_, rfl⟩
  have g2 : Below w1.heap.size w1 W2 := by rw [hW2]; exact (Below.refl _ _).alloc (Nat.le_refl _) _
  have HI2 := hid (show RowV W2 w1.heap.size 31 [.int .u32 (xi.tag : Int), .int .u32 (xi.rwnd : Int), .int .u16 (xi.out : Int), .int .u16 (xi.in_ : Int), .int .u32 (xi.tsn : Int), .slice px nx cx] by rw [hW2]; exact RowV.new w1 _ _)
  have HOX := hid ((hox.base HB0.out).mono g2)
  have G2 := hid (gr_trans G0.out (gr_trans hb1 g2))
  have HASX := hid (HAS.out.mono (gr_trans hb1 g2))
  have HEVX := hid (HEV.out.mono (gr_trans hb1 g2))
  have HCHX := hid (HCH.out.mono (gr_trans hb1 g2))
  have HAX := hid (HA.out.mono (gr_trans hb1 g2))
  have GSZ := hid (gr_trans hb1 g2).size
  have HE2 := hid hW2
  have j0 := HI2.out.at 0 (by simp)
  have j1 := HI2.out.at 1 (by simp)
  have j2 := HI2.out.at 2 (by simp)
  have j3 := HI2.out.at 3 (by simp)
  have j4 := HI2.out.at 4 (by simp)
  have j5 := HI2.out.at 5 (by simp)
  simp only [List.getElem_cons_succ, List.getElem_cons_zero] at j0 j1 j2 j3 j4 j5
  have c15 := HAX.out.at 15 (by simp [AsD.cells])
  have c18 := HAX.out.at 18 (by simp [AsD.cells])
  have c19 := HAX.out.at 19 (by simp [AsD.cells])
  have c20 := HAX.out.at 20 (by simp [AsD.cells])
  have c21 := HAX.out.at 21 (by simp [AsD.cells])
  have c22 := HAX.out.at 22 (by simp [AsD.cells])
  have c23 := HAX.out.at 23 (by simp [AsD.cells])
  simp only [AsD.cells, List.getElem_cons_succ, List.getElem_cons_zero] at c15 c18 c19 c20 c21 c22 c23
  have f18 := HAX.out.frozen 18
  have f19 := HAX.out.frozen 19
  have f20 := HAX.out.frozen 20
  have f21 := HAX.out.frozen 21
  have f22 := HAX.out.frozen 22
  have f23 := HAX.out.frozen 23
  clear hb1 g2 hox hx
  go_upto_region 2 with fail
  rw [← HE2.out]
  clear hW2
  by_cases q : xe = 0 ∧ a.st = 2
  · have z0 : (xe == 0) = true := by simp [q.1]
    have z1 : ((a.st : Int) == 2) = true := by simp; omega
    have HQ := hid (show onInitAckD a now c = runD { a with peer := xi } now xi.tag ⟨10, 0, xi.ck⟩ 3 by unfold onInitAckD; rw [HX.out, if_pos q])
    have HLX := hid (show xi.ck.length ≤ 1000000 by
      have := (initGet_okA c (by rw [HX.out]; exact q.1)).2.2
      rw [HX.out] at this
      have h2 := HCBL.out
      simp only at this
      omega)
    clear q
    obtain ⟨w3, hw3⟩ : ∃ x, x = ((((((W2.setCell ⟨g, 18, none⟩ (.int .u32 (xi.tag : Int))).setCell ⟨g, 19, none⟩ (.int .u32 (xi.rwnd : Int))).setCell ⟨g, 20, none⟩ (.int .u16 (xi.out : Int))).setCell ⟨g, 21, none⟩ (.int .u16 (xi.in_ : Int))).setCell ⟨g, 22, none⟩ (.int .u32 (xi.tsn : Int))).setCell ⟨g, 23, none⟩ (.slice px nx cx)) := ⟨_, rfl⟩
    have HC3 := hid (show Chg (fun k => k = g) W2 w3 by rw [hw3]; exact (((((((Chg.refl (fun k => k = g) W2).set ⟨g, 18, none⟩ (.int .u32 (xi.tag : Int)) (.inl rfl)).set ⟨g, 19, none⟩ (.int .u32 (xi.rwnd : Int)) (.inl rfl)).set ⟨g, 20, none⟩ (.int .u16 (xi.out : Int)) (.inl rfl)).set ⟨g, 21, none⟩ (.int .u16 (xi.in_ : Int)) (.inl rfl)).set ⟨g, 22, none⟩ (.int .u32 (xi.tsn : Int)) (.inl rfl)).set ⟨g, 23, none⟩ (.slice px nx cx) (.inl rfl)))
    have HAS3 := hid (show As B w3 g vr { a with peer := xi } from by
      obtain ⟨vk, vp, vs, r1, r2, r3, r4, r5, r6⟩ := HASX.out
      exact ⟨vk, .slice px nx cx, vs, by rw [hw3]; exact ((((((r1.store 18 (.int .u32 (xi.tag : Int))).store 19 (.int .u32 (xi.rwnd : Int))).store 20 (.int .u16 (xi.out : Int))).store 21 (.int .u16 (xi.in_ : Int))).store 22 (.int .u32 (xi.tsn : Int))).store 23 (.slice px nx cx)), r2, r3.chg HC3.out (own_ne_row r3 r1 (by decide)), HOX.out.chg HC3.out (own_ne_row HOX.out r1 (by decide)), outs_g r5 r1 (by decide) (by decide) HC3.out, r6.chg HC3.out (own_ne_row r6 r1 (by decide))⟩)
    have HNE := hid (show w1.heap.size ≠ g from rowV_ne HI2.out HAX.out (by decide))
    have HI3 := hid (HI2.out.chg HC3.out HNE.out)
    have HEV3 := hid (HEVX.out.chg HC3.out (rowV_ne HEVX.out HAX.out (by decide)))
    have HO3 := hid (HOX.out.chg HC3.out (own_ne_row HOX.out HAX.out (by decide)))
    have HSZ := hid (show B ≤ w3.heap.size from Nat.le_trans HB0.out (Nat.le_trans (show W.heap.size ≤ W2.heap.size from GSZ.out) HC3.out.size))
    have HE3 := hid hw3
    have HCX := hid (show Chg (Mine g vr) w w3 from (Chg.of_gr G2.out).then HC3.out (fun i _ e => .inl e))
    clear hw3
    go_upto_region 4 with fail
    rw [← HE3.out]
    clear c18 f18 c19 f19 c20 f20 c21 f21 c22 f22 c23 f23 c15 j0 j1 j2 j3 j4 j5
    have J0 := hid (HI3.out.at 0 (by simp))
    have J5 := hid (HI3.out.at 5 (by simp))
    simp only [List.getElem_cons_succ, List.getElem_cons_zero] at J0 J5
    refine wp_region_tail 8 [Is (.pointer (some ⟨g, 0, none⟩)), Is (.int .i64 now), Is (.pointer (some ⟨w1.heap.size, 0, none⟩)), Is (.int .u32 (xi.tag : Int)), Is (.pointer (some ⟨w1.heap.size, 5, none⟩)), Is (.slice px nx cx), OwnF B 5 xi.ck, CkO B 5 ⟨10, 0, xi.ck⟩] (by kernel_rfl) (by kernel_rfl) (by kernel_rfl) (by kernel_rfl) (by kernel_rfl) (by kernel_rfl) ?_ ?_ ?_
    · simp only [StabAll, Is.gr, RdF.gr, OwnF.gr, AnyF.gr, CkO.gr, and_self]
    · try (rename_i Kk hKk; clear hKk Kk)
      simp only [List.take_succ_cons, List.take_zero, AllOps, List.map_cons, List.map_nil, depsOf, List.filterMap_cons, List.filterMap_nil, Region.binds, depFacts, guardF, reduceIte, List.getD_eq_getElem?_getD, List.getElem?_cons_succ, List.getElem?_cons_zero, Option.getD_some, factAt, and_true]
      refine ⟨?_, ?_, ?_, ?_, ?_, ?_, ?_, ?_⟩
      all_goals intro ρ wv hρ hR hd
      all_goals try simp only [Is] at hd
      · exact opOk_move (.inl rfl) ⟨by simp only [Is]; (first | exact hρ.2 0 rfl | exact hd | exact hd.1 | exact hd.2 | simp [hd]), GrR.refl _⟩
      · exact opOk_move (.inl rfl) ⟨by simp only [Is]; (first | exact hρ.2 1 rfl | exact hd | exact hd.1 | exact hd.2 | simp [hd]), GrR.refl _⟩
      · exact opOk_val (v := .pointer (some ⟨w1.heap.size, 0, none⟩)) (w' := wv) (by simp [execOp, go_sem, hρ.1.const, hρ.1.func, hd, (hρ.2 9 rfl)]) ⟨rfl, GrR.refl _⟩
      · (have h0 := cell?_of_below hR J0.out; exact opOk_val (v := .int .u32 (xi.tag : Int)) (w' := wv) (by simp [execOp, go_sem, hd, h0]) ⟨rfl, GrR.refl _⟩)
      · exact opOk_val (v := .pointer (some ⟨w1.heap.size, 5, none⟩)) (w' := wv) (by simp [execOp, go_sem, hρ.1.const, hρ.1.func, hd, (hρ.2 9 rfl)]) ⟨rfl, GrR.refl _⟩
      · (have h0 := cell?_of_below hR J5.out; exact opOk_val (v := .slice px nx cx) (w' := wv) (by simp [execOp, go_sem, hd, h0]) ⟨rfl, GrR.refl _⟩)
      · exact opOk_call hρ.1 rfl rfl Tryd.func34 (by kernel_rfl) rfl (by simp [hd, hρ.1.const, hρ.1.func]) ((clone_any _ xi.ck wv (HO3.out.mono hR).rd (by have := HLX.out; omega)).mono fun e w' ⟨v', h1, h2, h3⟩ => ⟨v', h1, h2.base (Nat.le_trans HSZ.out hR.size), h3⟩)
      · (have hr : OwnF B 5 xi.ck (ρ (.tmp 35)) wv := (by first | exact hd | exact hd.1); obtain ⟨p9, k9, h9⟩ := RdF.form hr.rd; exact opOk_val (v := .agg #[.int .u8 10, .int .u8 0, ρ (.tmp 35)]) (w' := wv) (by simp [execOp, go_sem, hρ.1.const, hd, h9]) ⟨ckO_mk (c := ⟨10, 0, xi.ck⟩) hr, GrR.refl _⟩)
    · intro vals wv hR hall
      have i0 := hall 0 (by omega)
      have i1 := hall 1 (by omega)
      have i3 := hall 3 (by omega)
      have i7 := hall 7 (by omega)
      simp only [factAt, Is, CkO, List.getD_eq_getElem?_getD, List.getElem?_cons_succ, List.getElem?_cons_zero, Option.getD_some] at i0 i1 i3 i7
      clear hall
      obtain ⟨pq, nq, kq, hq, hoq⟩ := i7
      simp only [List.take_succ_cons, List.take_zero, List.drop_succ_cons, List.drop_zero, fillFrom, Act.put, i0, i1, i3, hq, List.setIfInBounds_toArray, List.set_cons_zero, List.set_cons_succ, Nat.zero_add, Nat.reduceAdd]
      obtain ⟨w4, hw4⟩ : ∃ x, x = wv := ⟨_, rfl⟩
      subst hw4
      have HOQ := hid hoq
      have HAS4 := hid (HAS3.out.mono hR)
      have HEV4 := hid (HEV3.out.mono hR)
      have HNM4 := hid (show ¬ Mine g vr (w.heap.size + 1) from mine_not HAS4.out HEV4.out (by decide) (by decide))
      have HC4 := hid (show Chg (Mine g vr) w w4 from HCX.out.trans (Chg.of_gr hR))
      clear hR i0 i1 i3 hq hoq
      go_wp2_with fail
      refine (run_any B _ g vr _ HAS4.out now HNOW.out xi.tag ⟨10, 0, xi.ck⟩ _ HOQ.out 3 (by decide) HL.out).mono ?_
      rintro e w5 ⟨rfl, hd5⟩
      have HEV5 := hid (show RowV w5 (w.heap.size + 1) 33 [.bool false, .bool false, .bool false, .int .u32 0, .int .u32 0, .int .u16 0, .int .u16 0, .int .u32 0, .slice none 0 0, .int .u32 0] from by
        obtain ⟨vr1, -, -, hc1⟩ := hd5
        exact HEV4.out.chg hc1 HNM4.out)
      have HD5 := hid (show DidA B w g vr _ w5 from Did.trans (fun _ h => .inl h) HC4.out hd5)
      clear hd5 HEV4
      have HEV4 := HEV5
      have y0 := HEV4.out.at 0 (by simp)
      have y1 := HEV4.out.at 1 (by simp)
      have y2 := HEV4.out.at 2 (by simp)
      have y3 := HEV4.out.at 3 (by simp)
      have y4 := HEV4.out.at 4 (by simp)
      have y5 := HEV4.out.at 5 (by simp)
      have y6 := HEV4.out.at 6 (by simp)
      have y7 := HEV4.out.at 7 (by simp)
      have y8 := HEV4.out.at 8 (by simp)
      have y9 := HEV4.out.at 9 (by simp)
      simp only [List.getElem_cons_succ, List.getElem_cons_zero] at y0 y1 y2 y3 y4 y5 y6 y7 y8 y9
      have f0 := HEV4.out.frozen 0
      have f1 := HEV4.out.frozen 1
      have f2 := HEV4.out.frozen 2
      have f3 := HEV4.out.frozen 3
      have f4 := HEV4.out.frozen 4
      have f5 := HEV4.out.frozen 5
      have f6 := HEV4.out.frozen 6
      have f7 := HEV4.out.frozen 7
      have f8 := HEV4.out.frozen 8
      have f9 := HEV4.out.frozen 9
      go_wp2_with fail
      have HEC := hid (show Chg (fun k => k = w.heap.size + 1) w5 _ from (((((((((((Chg.refl (fun k => k = w.heap.size + 1) w5).set ⟨(w.heap.size + 1), 0, none⟩ (.bool false) (.inl rfl)).set ⟨(w.heap.size + 1), 1, none⟩ (.bool false) (.inl rfl)).set ⟨(w.heap.size + 1), 2, none⟩ (.bool false) (.inl rfl)).set ⟨(w.heap.size + 1), 3, none⟩ (.int .u32 0) (.inl rfl)).set ⟨(w.heap.size + 1), 4, none⟩ (.int .u32 0) (.inl rfl)).set ⟨(w.heap.size + 1), 5, none⟩ (.int .u16 0) (.inl rfl)).set ⟨(w.heap.size + 1), 6, none⟩ (.int .u16 0) (.inl rfl)).set ⟨(w.heap.size + 1), 7, none⟩ (.int .u32 0) (.inl rfl)).set ⟨(w.heap.size + 1), 8, none⟩ (.slice none 0 0) (.inl rfl)).set ⟨(w.heap.size + 1), 9, none⟩ (.int .u32 0) (.inl rfl)))
      exact onInitAck_ret (.bool false) (.bool false) (.bool false) (.int .u32 0) (.int .u32 0) (.int .u16 0) (.int .u16 0) (.int .u32 0) (.slice none 0 0) (.int .u32 0) rfl rfl ((((((((((HEV4.out.store 0 (.bool false)).store 1 (.bool false)).store 2 (.bool false)).store 3 (.int .u32 0)).store 4 (.int .u32 0)).store 5 (.int .u16 0)).store 6 (.int .u16 0)).store 7 (.int .u32 0)).store 8 (.slice none 0 0)).store 9 (.int .u32 0)) ⟨rfl, by rw [HQ.out]; exact (HD5.out).ev (Nat.le_succ _) HEV4.out (by decide) (by decide) (by decide) HEC.out⟩
  · have HQ := hid (show onInitAckD a now c = a by unfold onInitAckD; rw [HX.out, if_neg q])
    clear c18 f18 c19 f19 c20 f20 c21 f21 c22 f22 c23 f23 j0 j1 j2 j3 j4 j5
    have HEV4 := HEVX
    have y0 := HEV4.out.at 0 (by simp)
    have y1 := HEV4.out.at 1 (by simp)
    have y2 := HEV4.out.at 2 (by simp)
    have y3 := HEV4.out.at 3 (by simp)
    have y4 := HEV4.out.at 4 (by simp)
    have y5 := HEV4.out.at 5 (by simp)
    have y6 := HEV4.out.at 6 (by simp)
    have y7 := HEV4.out.at 7 (by simp)
    have y8 := HEV4.out.at 8 (by simp)
    have y9 := HEV4.out.at 9 (by simp)
    simp only [List.getElem_cons_succ, List.getElem_cons_zero] at y0 y1 y2 y3 y4 y5 y6 y7 y8 y9
    have f0 := HEV4.out.frozen 0
    have f1 := HEV4.out.frozen 1
    have f2 := HEV4.out.frozen 2
    have f3 := HEV4.out.frozen 3
    have f4 := HEV4.out.frozen 4
    have f5 := HEV4.out.frozen 5
    have f6 := HEV4.out.frozen 6
    have f7 := HEV4.out.frozen 7
    have f8 := HEV4.out.frozen 8
    have f9 := HEV4.out.frozen 9
    by_cases q0 : xe = 0
    · have z0 : (xe == 0) = true := by simp [q0]
      have z1 : ((a.st : Int) == 2) = false := by
        simp
        intro h
        exact q ⟨q0, by omega⟩
      clear q q0
      go_wp2_with fail
      have HEC := hid (show Chg (fun k => k = w.heap.size + 1) W2 _ from (((((((((((Chg.refl (fun k => k = w.heap.size + 1) W2).set ⟨(w.heap.size + 1), 0, none⟩ (.bool false) (.inl rfl)).set ⟨(w.heap.size + 1), 1, none⟩ (.bool false) (.inl rfl)).set ⟨(w.heap.size + 1), 2, none⟩ (.bool false) (.inl rfl)).set ⟨(w.heap.size + 1), 3, none⟩ (.int .u32 0) (.inl rfl)).set ⟨(w.heap.size + 1), 4, none⟩ (.int .u32 0) (.inl rfl)).set ⟨(w.heap.size + 1), 5, none⟩ (.int .u16 0) (.inl rfl)).set ⟨(w.heap.size + 1), 6, none⟩ (.int .u16 0) (.inl rfl)).set ⟨(w.heap.size + 1), 7, none⟩ (.int .u32 0) (.inl rfl)).set ⟨(w.heap.size + 1), 8, none⟩ (.slice none 0 0) (.inl rfl)).set ⟨(w.heap.size + 1), 9, none⟩ (.int .u32 0) (.inl rfl)))
      exact onInitAck_ret (.bool false) (.bool false) (.bool false) (.int .u32 0) (.int .u32 0) (.int .u16 0) (.int .u16 0) (.int .u32 0) (.slice none 0 0) (.int .u32 0) rfl rfl ((((((((((HEV4.out.store 0 (.bool false)).store 1 (.bool false)).store 2 (.bool false)).store 3 (.int .u32 0)).store 4 (.int .u32 0)).store 5 (.int .u16 0)).store 6 (.int .u16 0)).store 7 (.int .u32 0)).store 8 (.slice none 0 0)).store 9 (.int .u32 0)) ⟨rfl, by rw [HQ.out]; exact ((show DidA B w g vr a W2 from ⟨vr, HASX.out, fun _ h => .inl h, Chg.of_gr G2.out⟩)).ev (Nat.le_succ _) HEV4.out (by decide) (by decide) (by decide) HEC.out⟩
    · have z0 : (xe == 0) = false := by simpa using q0
      clear q q0
      go_wp2_with fail
      have HEC := hid (show Chg (fun k => k = w.heap.size + 1) W2 _ from (((((((((((Chg.refl (fun k => k = w.heap.size + 1) W2).set ⟨(w.heap.size + 1), 0, none⟩ (.bool false) (.inl rfl)).set ⟨(w.heap.size + 1), 1, none⟩ (.bool false) (.inl rfl)).set ⟨(w.heap.size + 1), 2, none⟩ (.bool false) (.inl rfl)).set ⟨(w.heap.size + 1), 3, none⟩ (.int .u32 0) (.inl rfl)).set ⟨(w.heap.size + 1), 4, none⟩ (.int .u32 0) (.inl rfl)).set ⟨(w.heap.size + 1), 5, none⟩ (.int .u16 0) (.inl rfl)).set ⟨(w.heap.size + 1), 6, none⟩ (.int .u16 0) (.inl rfl)).set ⟨(w.heap.size + 1), 7, none⟩ (.int .u32 0) (.inl rfl)).set ⟨(w.heap.size + 1), 8, none⟩ (.slice none 0 0) (.inl rfl)).set ⟨(w.heap.size + 1), 9, none⟩ (.int .u32 0) (.inl rfl)))
      exact onInitAck_ret (.bool false) (.bool false) (.bool false) (.int .u32 0) (.int .u32 0) (.int .u16 0) (.int .u16 0) (.int .u32 0) (.slice none 0 0) (.int .u32 0) rfl rfl ((((((((((HEV4.out.store 0 (.bool false)).store 1 (.bool false)).store 2 (.bool false)).store 3 (.int .u32 0)).store 4 (.int .u32 0)).store 5 (.int .u16 0)).store 6 (.int .u16 0)).store 7 (.int .u32 0)).store 8 (.slice none 0 0)).store 9 (.int .u32 0)) ⟨rfl, by rw [HQ.out]; exact ((show DidA B w g vr a W2 from ⟨vr, HASX.out, fun _ h => .inl h, Chg.of_gr G2.out⟩)).ev (Nat.le_succ _) HEV4.out (by decide) (by decide) (by decide) HEC.out⟩
end Go.Proofs.YtiimlanbbfhkjaaDoor

/- Drained, onShutdown. Conditions: the association lies as it should; its row is not too long. -/
import Derived.Test.YtiimlanbbfhkjaaDoorAsOn1
import Derived.Test.YtiimlanbbfhkjaaDoorBodA
set_option linter.unusedSimpArgs false
set_option linter.unusedVariables false




namespace Go.FL

open Go.RowKit

/-- Behind Drained. -/
def drainD (a : AsD) (now : Int) (cum : Nat) : AsD := if a.st = 5 then runD a now a.peer.tag (cumChk cum) 6 else if a.st = 7 then runD a now a.peer.tag ⟨8, 0, []⟩ 8 else a
/-- Behind a SHUTDOWN. -/
def onShutdownD (a : AsD) (now : Int) (path : Nat) (c : Chk) : AsD :=
  if (cumGet c).2 = 0 then (if a.st = 4 ∨ a.st = 5 then { a with st := 7 } else if a.st = 6 then runD a now a.peer.tag ⟨8, 0, []⟩ 8 else if a.st = 8 then { a with row := a.row ++ [⟨path, a.peer.tag, ⟨8, 0, []⟩⟩] } else a) else a
end Go.FL

namespace Go.Proofs.YtiimlanbbfhkjaaDoor

open Go.RowKit Go.FL Go.ChangeShapes

set_option maxRecDepth 100000 in
set_option maxHeartbeats 2000000 in
theorem drained_any (B : Nat) (w : World) (g : Nat) (vr : Value) (a : AsD) (h : As B w g vr a) (now : Int) (hnow : 0 ≤ now ∧ now ≤ 2305843009213693952) (cum : Nat) (hcum : cum < 4294967296) (hl : a.row.length ≤ 1000000) :
    Calls Tryd.prog 24 #[.pointer (some ⟨g, 0, none⟩), .int .i64 now, .int .u32 (cum : Int)] w fun e w' => e = .returned (.tuple #[]) ∧ DidA B w g vr (drainD a now cum) w' := by
  have HAS := hid h
  obtain ⟨vk, vp, vs, hr, hB, -⟩ := id h
  have HA := hid hr
  have HBS := hid (show B ≤ w.heap.size from Nat.le_trans hB (Nat.le_of_lt hr.lt))
  have HL := hid hl
  have HNOW := hid hnow
  have HC18 := hid (HA.out.at 18 (by simp [AsD.cells]))
  simp only [AsD.cells, List.getElem_cons_succ, List.getElem_cons_zero] at HC18
  clear hr hl hnow h hB
  go_enter Tryd.func24, Tryd.ntmps24
  go_wp2_with fail
  refine (state_any B _ g vr a HAS.out).mono ?_
  rintro e w1 ⟨rfl, rfl⟩
  by_cases q5 : a.st = 5
  · have z5 : ((a.st : Int) == 5) = true := by simp; omega
    have HQ := hid (show drainD a now cum = runD a now a.peer.tag (cumChk cum) 6 by unfold drainD; rw [if_pos q5])
    clear q5
    go_wp2_with fail
    refine wp_region_tail 9 [Is (.pointer (some ⟨g, 0, none⟩)), Is (.int .i64 now), Is (.pointer (some ⟨g, 0, none⟩)), Is (.pointer (some ⟨g, 0, none⟩)), Is (.pointer (some ⟨g, 18, none⟩)), Is (.pointer (some ⟨g, 18, none⟩)), Is (.int .u32 (a.peer.tag : Int)), Is (.int .u32 (cum : Int)), CkO B 5 (cumChk cum)] (by kernel_rfl) (by kernel_rfl) (by kernel_rfl) (by kernel_rfl) (by kernel_rfl) (by kernel_rfl) ?_ ?_ ?_
    · simp only [StabAll, Is.gr, RdF.gr, OwnF.gr, AnyF.gr, CkO.gr, and_self]
    · try (rename_i Kk hKk; clear hKk Kk)
      simp only [List.take_succ_cons, List.take_zero, AllOps, List.map_cons, List.map_nil, depsOf, List.filterMap_cons, List.filterMap_nil, Region.binds, depFacts, guardF, reduceIte, List.getD_eq_getElem?_getD, List.getElem?_cons_succ, List.getElem?_cons_zero, Option.getD_some, factAt, and_true]
      refine ⟨?_, ?_, ?_, ?_, ?_, ?_, ?_, ?_, ?_⟩
      all_goals intro ρ wv hρ hR hd
      all_goals try simp only [Is] at hd
      · exact opOk_move (.inl rfl) ⟨by simp only [Is]; (first | exact hρ.2 0 rfl | exact hd | exact hd.1 | exact hd.2 | simp [hd]), GrR.refl _⟩
      · exact opOk_move (.inl rfl) ⟨by simp only [Is]; (first | exact hρ.2 1 rfl | exact hd | exact hd.1 | exact hd.2 | simp [hd]), GrR.refl _⟩
      · exact opOk_move (.inl rfl) ⟨by simp only [Is]; (first | exact hρ.2 0 rfl | exact hd | exact hd.1 | exact hd.2 | simp [hd]), GrR.refl _⟩
      · exact opOk_val (v := .pointer (some ⟨g, 0, none⟩)) (w' := wv) (by simp [execOp, go_sem, hρ.1.const, hρ.1.func, hd]) ⟨rfl, GrR.refl _⟩
      · exact opOk_val (v := .pointer (some ⟨g, 18, none⟩)) (w' := wv) (by simp [execOp, go_sem, hρ.1.const, hρ.1.func, hd]) ⟨rfl, GrR.refl _⟩
      · exact opOk_val (v := .pointer (some ⟨g, 18, none⟩)) (w' := wv) (by simp [execOp, go_sem, hρ.1.const, hρ.1.func, hd]) ⟨rfl, GrR.refl _⟩
      · (have h0 := cell?_of_below hR HC18.out; exact opOk_val (v := .int .u32 (a.peer.tag : Int)) (w' := wv) (by simp [execOp, go_sem, hd, h0]) ⟨rfl, GrR.refl _⟩)
      · exact opOk_move (.inl rfl) ⟨by simp only [Is]; (first | exact hρ.2 2 rfl | exact hd | exact hd.1 | exact hd.2 | simp [hd]), GrR.refl _⟩
      · exact opOk_call hρ.1 rfl rfl Tryd.func38 (by kernel_rfl) rfl (by simp [hd, hρ.1.const, hρ.1.func]) ((putCum_any cum hcum wv).mono fun e w' ⟨s, h1, h2, h3⟩ => ⟨_, h1, ckO_mk (h2.base (Nat.le_trans HBS.out hR.size)), h3⟩)
    · intro vals wv hR hall
      have i0 := hall 0 (by omega)
      have i1 := hall 1 (by omega)
      have i6 := hall 6 (by omega)
      have i8 := hall 8 (by omega)
      simp only [factAt, Is, CkO, List.getD_eq_getElem?_getD, List.getElem?_cons_succ, List.getElem?_cons_zero, Option.getD_some] at i0 i1 i6 i8
      clear hall
      obtain ⟨pq, nq, kq, hq, hoq⟩ := i8
      simp only [List.take_succ_cons, List.take_zero, List.drop_succ_cons, List.drop_zero, fillFrom, Act.put, i0, i1, i6, hq, List.setIfInBounds_toArray, List.set_cons_zero, List.set_cons_succ, Nat.zero_add, Nat.reduceAdd]
      obtain ⟨w3, hw3⟩ : ∃ x, x = wv := ⟨_, rfl⟩
      subst hw3
      have HOQ := hid hoq
      have HAS3 := hid (HAS.out.mono hR)
      have HG3 := hid hR
      clear hR i0 i1 i6 hq hoq
      go_wp2_with fail
      refine (run_any B _ g vr a HAS3.out now HNOW.out a.peer.tag (cumChk cum) _ HOQ.out 6 (by decide) HL.out).mono ?_
      rintro e w4 ⟨rfl, hd4⟩
      have HD4 := hid (Did.trans (fun _ h => .inl h) (Chg.of_gr HG3.out) hd4)
      clear hd4
      go_wp2_with fail
      go_end0
      exact ⟨rfl, by rw [HQ.out]; exact HD4.out⟩
  · have z5 : ((a.st : Int) == 5) = false := by simp; omega
    by_cases q7 : a.st = 7
    · have z7 : ((a.st : Int) == 7) = true := by simp; omega
      have HQ := hid (show drainD a now cum = runD a now a.peer.tag ⟨8, 0, []⟩ 8 by unfold drainD; rw [if_neg q5, if_pos q7])
      clear q5 q7
      go_wp2_with fail
      refine wp_region_tail 8 [Is (.pointer (some ⟨g, 0, none⟩)), Is (.int .i64 now), Is (.pointer (some ⟨g, 0, none⟩)), Is (.pointer (some ⟨g, 0, none⟩)), Is (.pointer (some ⟨g, 18, none⟩)), Is (.pointer (some ⟨g, 18, none⟩)), Is (.int .u32 (a.peer.tag : Int)), CkO B 5 ⟨8, 0, []⟩] (by kernel_rfl) (by kernel_rfl) (by kernel_rfl) (by kernel_rfl) (by kernel_rfl) (by kernel_rfl) ?_ ?_ ?_
      · simp only [StabAll, Is.gr, RdF.gr, OwnF.gr, AnyF.gr, CkO.gr, and_self]
      · try (rename_i Kk hKk; clear hKk Kk)
        simp only [List.take_succ_cons, List.take_zero, AllOps, List.map_cons, List.map_nil, depsOf, List.filterMap_cons, List.filterMap_nil, Region.binds, depFacts, guardF, reduceIte, List.getD_eq_getElem?_getD, List.getElem?_cons_succ, List.getElem?_cons_zero, Option.getD_some, factAt, and_true]
        refine ⟨?_, ?_, ?_, ?_, ?_, ?_, ?_, ?_⟩
        all_goals intro ρ wv hρ hR hd
        all_goals try simp only [Is] at hd
        · exact opOk_move (.inl rfl) ⟨by simp only [Is]; (first | exact hρ.2 0 rfl | exact hd | exact hd.1 | exact hd.2 | simp [hd]), GrR.refl _⟩
        · exact opOk_move (.inl rfl) ⟨by simp only [Is]; (first | exact hρ.2 1 rfl | exact hd | exact hd.1 | exact hd.2 | simp [hd]), GrR.refl _⟩
        · exact opOk_move (.inl rfl) ⟨by simp only [Is]; (first | exact hρ.2 0 rfl | exact hd | exact hd.1 | exact hd.2 | simp [hd]), GrR.refl _⟩
        · exact opOk_val (v := .pointer (some ⟨g, 0, none⟩)) (w' := wv) (by simp [execOp, go_sem, hρ.1.const, hρ.1.func, hd]) ⟨rfl, GrR.refl _⟩
        · exact opOk_val (v := .pointer (some ⟨g, 18, none⟩)) (w' := wv) (by simp [execOp, go_sem, hρ.1.const, hρ.1.func, hd]) ⟨rfl, GrR.refl _⟩
        · exact opOk_val (v := .pointer (some ⟨g, 18, none⟩)) (w' := wv) (by simp [execOp, go_sem, hρ.1.const, hρ.1.func, hd]) ⟨rfl, GrR.refl _⟩
        · (have h0 := cell?_of_below hR HC18.out; exact opOk_val (v := .int .u32 (a.peer.tag : Int)) (w' := wv) (by simp [execOp, go_sem, hd, h0]) ⟨rfl, GrR.refl _⟩)
        · exact opOk_call hρ.1 rfl rfl Tryd.func39 (by kernel_rfl) rfl (by simp [hd, hρ.1.const, hρ.1.func]) ((plain_any 8 wv).mono fun e w' ⟨h1, h2⟩ => ⟨_, h1, ckO_mk (c := ⟨8, 0, []⟩) (Own.nil _ _ _), h2⟩)
      · intro vals wv hR hall
        have i0 := hall 0 (by omega)
        have i1 := hall 1 (by omega)
        have i6 := hall 6 (by omega)
        have i7 := hall 7 (by omega)
        simp only [factAt, Is, CkO, List.getD_eq_getElem?_getD, List.getElem?_cons_succ, List.getElem?_cons_zero, Option.getD_some] at i0 i1 i6 i7
        clear hall
        obtain ⟨pq, nq, kq, hq, hoq⟩ := i7
        simp only [List.take_succ_cons, List.take_zero, List.drop_succ_cons, List.drop_zero, fillFrom, Act.put, i0, i1, i6, hq, List.setIfInBounds_toArray, List.set_cons_zero, List.set_cons_succ, Nat.zero_add, Nat.reduceAdd]
        obtain ⟨w3, hw3⟩ : ∃ x, x = wv := ⟨_, rfl⟩
        subst hw3
        have HOQ := hid hoq
        have HAS3 := hid (HAS.out.mono hR)
        have HG3 := hid hR
        clear hR i0 i1 i6 hq hoq
        go_wp2_with fail
        refine (run_any B _ g vr a HAS3.out now HNOW.out a.peer.tag ⟨8, 0, []⟩ _ HOQ.out 8 (by decide) HL.out).mono ?_
        rintro e w4 ⟨rfl, hd4⟩
        have HD4 := hid (Did.trans (fun _ h => .inl h) (Chg.of_gr HG3.out) hd4)
        clear hd4
        go_wp2_with fail
        go_end0
        exact ⟨rfl, by rw [HQ.out]; exact HD4.out⟩
    · have z7 : ((a.st : Int) == 7) = false := by simp; omega
      have HQ := hid (show drainD a now cum = a by unfold drainD; rw [if_neg q5, if_neg q7])
      clear q5 q7
      go_wp2_with fail
      go_end0
      exact ⟨rfl, by rw [HQ.out]; exact Did.refl HAS.out⟩
theorem onShutdown_ret {a : Act} {W : World} {g : Nat} {R : Ending → World → Prop} (v0 v1 v2 v3 v4 v5 v6 v7 v8 v9 : Value) (h2 : a.tmps.getD 8 undef = .pointer (some ⟨g, 0, none⟩)) (hd : a.defers = [])
    (hc : RowV W g 33 [v0, v1, v2, v3, v4, v5, v6, v7, v8, v9]) (hR : R (.returned (.agg #[v0, v1, v2, v3, v4, v5, v6, v7, v8, v9])) W) : bodyPost Tryd.prog Tryd.f56 R .ret a W := by
  refine bodyPost_ret (v := .agg #[v0, v1, v2, v3, v4, v5, v6, v7, v8, v9]) ?_ hd hR
  have c0 := hc.at 0 (by simp)
  have c1 := hc.at 1 (by simp)
  have c2 := hc.at 2 (by simp)
  have c3 := hc.at 3 (by simp)
  have c4 := hc.at 4 (by simp)
  have c5 := hc.at 5 (by simp)
  have c6 := hc.at 6 (by simp)
  have c7 := hc.at 7 (by simp)
  have c8 := hc.at 8 (by simp)
  have c9 := hc.at 9 (by simp)
  simp only [List.getElem_cons_succ, List.getElem_cons_zero] at c0 c1 c2 c3 c4 c5 c6 c7 c8 c9
  simp only [Array.getD_eq_getD_getElem?] at h2
  simp [results, Tryd.results56, go_sem, h2, asAddr, c0, c1, c2, c3, c4, c5, c6, c7, c8, c9]
set_option maxRecDepth 100000 in
set_option maxHeartbeats 4000000 in
theorem onShutdown_any (B : Nat) (w : World) (g : Nat) (vr : Value) (a : AsD) (h : As B w g vr a) (now : Int) (hnow : 0 ≤ now ∧ now ≤ 2305843009213693952) (path : Nat) (c : Chk) (s : Value) (hs : Own w B 5 s c.b) (hcb : c.b.length ≤ 1000000) (hl : a.row.length ≤ 1000000) :
    Calls Tryd.prog 56 #[.pointer (some ⟨g, 0, none⟩), .int .i64 now, .int .i64 (path : Int), .agg #[.int .u8 (c.k.toNat : Int), .int .u8 (c.f.toNat : Int), s]] w fun e w' => e = .returned (EvD.val .none) ∧ DidA B w g vr (onShutdownD a now path c) w' := by
  have HL := hid hl
  have HNOW := hid hnow
  have HCBL := hid hcb
  obtain ⟨ps, nb, cps, rfl⟩ : ∃ p n c, s = Value.slice p n c := by
    obtain ⟨p9, c9, hsf, -⟩ := hs.rd
    exact ⟨_, _, _, hsf⟩
  obtain ⟨W0, hW0⟩ : ∃ W, W = w.alloc (.cells #[.int .u8 (c.k.toNat : Int), .int .u8 (c.f.toNat : Int), .slice ps nb cps] 47 (0, 0)) := ⟨_, rfl⟩
  have hs0 : W0.heap.size = w.heap.size + 1 := by rw [hW0]; simp
  obtain ⟨W, hW⟩ : ∃ W, W = W0.alloc (.cells #[.bool false, .bool false, .bool false, .int .u32 0, .int .u32 0, .int .u16 0, .int .u16 0, .int .u32 0, .slice none 0 0, .int .u32 0] 33 (0, 0)) := ⟨_, rfl⟩
  have HCH := hid (show RowV W w.heap.size 47 [.int .u8 (c.k.toNat : Int), .int .u8 (c.f.toNat : Int), .slice ps nb cps] by rw [hW, hW0]; exact (RowV.new w _ _).alloc _)
  have HEV := hid (show RowV W (w.heap.size + 1) 33 [.bool false, .bool false, .bool false, .int .u32 0, .int .u32 0, .int .u16 0, .int .u16 0, .int .u32 0, .slice none 0 0, .int .u32 0] by rw [hW, ← hs0]; exact RowV.new W0 _ _)
  have G0 := hid (show Below w.heap.size w W by rw [hW, hW0]; exact ((Below.refl _ _).alloc (Nat.le_refl _) _).alloc (by simp) _)
  have HAS := hid (AsAt.mono h G0.out)
  have HBS := hid (hs.mono G0.out)
  have HNM := hid (show ¬ Mine g vr (w.heap.size + 1) from mine_not HAS.out HEV.out (by decide) (by decide))
  obtain ⟨vk, vp, vs, hr, -⟩ := id HAS.out
  have HA := hid hr
  rw [hW0] at hW
  have HE := hid hW
  clear h hs hr hs0 hW0 W0
  clear hl hnow hcb
  have k0 := HCH.out.at 0 (by simp)
  have k1 := HCH.out.at 1 (by simp)
  have k2 := HCH.out.at 2 (by simp)
  simp only [List.getElem_cons_succ, List.getElem_cons_zero] at k0 k1 k2
  rw [hW] at k0 k1 k2
  clear hW
  go_enter Tryd.func56, Tryd.ntmps56
  go_wp2_with fail
  rw [← HE.out]
  clear k0 k1 k2
  refine (getCum_any _ c _ ⟨_, rfl, HBS.out.rd⟩ HCBL.out).mono ?_
  rintro e w1 ⟨rfl, hb1⟩
  have HASX := hid (HAS.out.mono hb1)
  have HEVX := hid (HEV.out.mono hb1)
  have GX := hid (gr_trans G0.out hb1)
  have HAX := hid (HA.out.mono hb1)
  have HCT := hid (HAX.out.at 18 (by simp [AsD.cells]))
  simp only [AsD.cells, List.getElem_cons_succ, List.getElem_cons_zero] at HCT
  obtain ⟨ee, hee⟩ : ∃ x, x = (cumGet c).2 := ⟨_, rfl⟩
  rw [← hee]
  clear hb1
  by_cases qe : ee = 0
  · have ze : (ee != 0) = false := by simp [qe]
    have HEE := hid (show (cumGet c).2 = 0 by rw [← hee]; exact qe)
    clear hee qe
    have c15 := HAX.out.at 15 (by simp [AsD.cells])
    simp only [AsD.cells, List.getElem_cons_succ, List.getElem_cons_zero] at c15
    have f15 := HAX.out.frozen 15
    by_cases q4 : a.st = 4 ∨ a.st = 5
    · have HQ := hid (show onShutdownD a now path c = { a with st := 7 } by unfold onShutdownD; rw [if_pos HEE.out, if_pos q4])
      have HEC4 := hid ((Chg.refl (fun k => k = g) w1).set ⟨g, 15, none⟩ (.int .u8 7) (.inl rfl))
      have HDX := hid (show DidA B w g vr { a with st := 7 } (w1.setCell ⟨g, 15, none⟩ (.int .u8 7)) from by
        obtain ⟨vk, vp, vs, r1, r2, r3, r4, r5, r6⟩ := HASX.out
        exact ⟨vr, ⟨vk, vp, vs, r1.store 15 (.int .u8 7), r2, r3.chg HEC4.out (own_ne_row r3 r1 (by decide)), r4.chg HEC4.out (own_ne_row r4 r1 (by decide)), outs_g r5 r1 (by decide) (by decide) HEC4.out, r6.chg HEC4.out (own_ne_row r6 r1 (by decide))⟩, fun _ h => .inl h, (Chg.of_gr GX.out).then HEC4.out (fun i _ e => .inl e)⟩)
      have HEV4 := hid (show RowV (w1.setCell ⟨g, 15, none⟩ (.int .u8 7)) (w.heap.size + 1) 33 [.bool false, .bool false, .bool false, .int .u32 0, .int .u32 0, .int .u16 0, .int .u16 0, .int .u32 0, .slice none 0 0, .int .u32 0] from HEVX.out.other ⟨g, 15, none⟩ _ (rowV_ne HAX.out HEVX.out (by decide)))
      obtain ⟨w4, hw4⟩ : ∃ x, x = w1.setCell ⟨g, 15, none⟩ (.int .u8 7) := ⟨_, rfl⟩
      rw [← hw4] at HDX HEV4
      have y0 := HEV4.out.at 0 (by simp)
      have y1 := HEV4.out.at 1 (by simp)
      have y2 := HEV4.out.at 2 (by simp)
      have y3 := HEV4.out.at 3 (by simp)
      have y4 := HEV4.out.at 4 (by simp)
      have y5 := HEV4.out.at 5 (by simp)
      have y6 := HEV4.out.at 6 (by simp)
      have y7 := HEV4.out.at 7 (by simp)
      have y8 := HEV4.out.at 8 (by simp)
      have y9 := HEV4.out.at 9 (by simp)
      simp only [List.getElem_cons_succ, List.getElem_cons_zero] at y0 y1 y2 y3 y4 y5 y6 y7 y8 y9
      have f0 := HEV4.out.frozen 0
      have f1 := HEV4.out.frozen 1
      have f2 := HEV4.out.frozen 2
      have f3 := HEV4.out.frozen 3
      have f4 := HEV4.out.frozen 4
      have f5 := HEV4.out.frozen 5
      have f6 := HEV4.out.frozen 6
      have f7 := HEV4.out.frozen 7
      have f8 := HEV4.out.frozen 8
      have f9 := HEV4.out.frozen 9
      rcases q4 with q4 | q4
      · have z4 : ((a.st : Int) == 4) = true := by simp; omega
        clear q4
        go_upto_region 12 with fail
        rw [← hw4]
        clear hw4
        go_wp2_with fail
        have HEC := hid (show Chg (fun k => k = w.heap.size + 1) w4 _ from (((((((((((Chg.refl (fun k => k = w.heap.size + 1) w4).set ⟨(w.heap.size + 1), 0, none⟩ (.bool false) (.inl rfl)).set ⟨(w.heap.size + 1), 1, none⟩ (.bool false) (.inl rfl)).set ⟨(w.heap.size + 1), 2, none⟩ (.bool false) (.inl rfl)).set ⟨(w.heap.size + 1), 3, none⟩ (.int .u32 0) (.inl rfl)).set ⟨(w.heap.size + 1), 4, none⟩ (.int .u32 0) (.inl rfl)).set ⟨(w.heap.size + 1), 5, none⟩ (.int .u16 0) (.inl rfl)).set ⟨(w.heap.size + 1), 6, none⟩ (.int .u16 0) (.inl rfl)).set ⟨(w.heap.size + 1), 7, none⟩ (.int .u32 0) (.inl rfl)).set ⟨(w.heap.size + 1), 8, none⟩ (.slice none 0 0) (.inl rfl)).set ⟨(w.heap.size + 1), 9, none⟩ (.int .u32 0) (.inl rfl)))
        exact onShutdown_ret (.bool false) (.bool false) (.bool false) (.int .u32 0) (.int .u32 0) (.int .u16 0) (.int .u16 0) (.int .u32 0) (.slice none 0 0) (.int .u32 0) rfl rfl ((((((((((HEV4.out.store 0 (.bool false)).store 1 (.bool false)).store 2 (.bool false)).store 3 (.int .u32 0)).store 4 (.int .u32 0)).store 5 (.int .u16 0)).store 6 (.int .u16 0)).store 7 (.int .u32 0)).store 8 (.slice none 0 0)).store 9 (.int .u32 0)) ⟨rfl, by rw [HQ.out]; exact (HDX.out).ev (Nat.le_succ _) HEV4.out (by decide) (by decide) (by decide) HEC.out⟩
      · have z4 : ((a.st : Int) == 4) = false := by simp; omega
        have z5 : ((a.st : Int) == 5) = true := by simp; omega
        clear q4
        go_upto_region 12 with fail
        rw [← hw4]
        clear hw4
        go_wp2_with fail
        have HEC := hid (show Chg (fun k => k = w.heap.size + 1) w4 _ from (((((((((((Chg.refl (fun k => k = w.heap.size + 1) w4).set ⟨(w.heap.size + 1), 0, none⟩ (.bool false) (.inl rfl)).set ⟨(w.heap.size + 1), 1, none⟩ (.bool false) (.inl rfl)).set ⟨(w.heap.size + 1), 2, none⟩ (.bool false) (.inl rfl)).set ⟨(w.heap.size + 1), 3, none⟩ (.int .u32 0) (.inl rfl)).set ⟨(w.heap.size + 1), 4, none⟩ (.int .u32 0) (.inl rfl)).set ⟨(w.heap.size + 1), 5, none⟩ (.int .u16 0) (.inl rfl)).set ⟨(w.heap.size + 1), 6, none⟩ (.int .u16 0) (.inl rfl)).set ⟨(w.heap.size + 1), 7, none⟩ (.int .u32 0) (.inl rfl)).set ⟨(w.heap.size + 1), 8, none⟩ (.slice none 0 0) (.inl rfl)).set ⟨(w.heap.size + 1), 9, none⟩ (.int .u32 0) (.inl rfl)))
        exact onShutdown_ret (.bool false) (.bool false) (.bool false) (.int .u32 0) (.int .u32 0) (.int .u16 0) (.int .u16 0) (.int .u32 0) (.slice none 0 0) (.int .u32 0) rfl rfl ((((((((((HEV4.out.store 0 (.bool false)).store 1 (.bool false)).store 2 (.bool false)).store 3 (.int .u32 0)).store 4 (.int .u32 0)).store 5 (.int .u16 0)).store 6 (.int .u16 0)).store 7 (.int .u32 0)).store 8 (.slice none 0 0)).store 9 (.int .u32 0)) ⟨rfl, by rw [HQ.out]; exact (HDX.out).ev (Nat.le_succ _) HEV4.out (by decide) (by decide) (by decide) HEC.out⟩
    · have z4 : ((a.st : Int) == 4) = false := by simp; omega
      have z5 : ((a.st : Int) == 5) = false := by simp; omega
      by_cases q6 : a.st = 6
      · have z6 : ((a.st : Int) == 6) = true := by simp; omega
        have HQ := hid (show onShutdownD a now path c = runD a now a.peer.tag ⟨8, 0, []⟩ 8 by unfold onShutdownD; rw [if_pos HEE.out, if_neg q4, if_pos q6])
        clear q4 q6
        go_wp2_with fail
        clear c15 f15
        refine wp_region_tail 8 [Is (.pointer (some ⟨g, 0, none⟩)), Is (.int .i64 now), Is (.pointer (some ⟨g, 0, none⟩)), Is (.pointer (some ⟨g, 0, none⟩)), Is (.pointer (some ⟨g, 18, none⟩)), Is (.pointer (some ⟨g, 18, none⟩)), Is (.int .u32 (a.peer.tag : Int)), CkO B 5 ⟨8, 0, []⟩] (by kernel_rfl) (by kernel_rfl) (by kernel_rfl) (by kernel_rfl) (by kernel_rfl) (by kernel_rfl) ?_ ?_ ?_
        · simp only [StabAll, Is.gr, RdF.gr, OwnF.gr, AnyF.gr, CkO.gr, and_self]
        · try (rename_i Kk hKk; clear hKk Kk)
          simp only [List.take_succ_cons, List.take_zero, AllOps, List.map_cons, List.map_nil, depsOf, List.filterMap_cons, List.filterMap_nil, Region.binds, depFacts, guardF, reduceIte, List.getD_eq_getElem?_getD, List.getElem?_cons_succ, List.getElem?_cons_zero, Option.getD_some, factAt, and_true]
          refine ⟨?_, ?_, ?_, ?_, ?_, ?_, ?_, ?_⟩
          all_goals intro ρ wv hρ hR hd
          all_goals try simp only [Is] at hd
          · exact opOk_move (.inl rfl) ⟨by simp only [Is]; (first | exact hρ.2 0 rfl | exact hd | exact hd.1 | exact hd.2 | simp [hd]), GrR.refl _⟩
          · exact opOk_move (.inl rfl) ⟨by simp only [Is]; (first | exact hρ.2 1 rfl | exact hd | exact hd.1 | exact hd.2 | simp [hd]), GrR.refl _⟩
          · exact opOk_move (.inl rfl) ⟨by simp only [Is]; (first | exact hρ.2 0 rfl | exact hd | exact hd.1 | exact hd.2 | simp [hd]), GrR.refl _⟩
          · exact opOk_val (v := .pointer (some ⟨g, 0, none⟩)) (w' := wv) (by simp [execOp, go_sem, hρ.1.const, hρ.1.func, hd]) ⟨rfl, GrR.refl _⟩
          · exact opOk_val (v := .pointer (some ⟨g, 18, none⟩)) (w' := wv) (by simp [execOp, go_sem, hρ.1.const, hρ.1.func, hd]) ⟨rfl, GrR.refl _⟩
          · exact opOk_val (v := .pointer (some ⟨g, 18, none⟩)) (w' := wv) (by simp [execOp, go_sem, hρ.1.const, hρ.1.func, hd]) ⟨rfl, GrR.refl _⟩
          · (have h0 := cell?_of_below hR HCT.out; exact opOk_val (v := .int .u32 (a.peer.tag : Int)) (w' := wv) (by simp [execOp, go_sem, hd, h0]) ⟨rfl, GrR.refl _⟩)
          · exact opOk_call hρ.1 rfl rfl Tryd.func39 (by kernel_rfl) rfl (by simp [hd, hρ.1.const, hρ.1.func]) ((plain_any 8 wv).mono fun e w' ⟨h1, h2⟩ => ⟨_, h1, ckO_mk (c := ⟨8, 0, []⟩) (Own.nil _ _ _), h2⟩)
        · intro vals wv hR hall
          have i0 := hall 0 (by omega)
          have i1 := hall 1 (by omega)
          have i6 := hall 6 (by omega)
          have i7 := hall 7 (by omega)
          simp only [factAt, Is, CkO, List.getD_eq_getElem?_getD, List.getElem?_cons_succ, List.getElem?_cons_zero, Option.getD_some] at i0 i1 i6 i7
          clear hall
          obtain ⟨pq, nq, kq, hq, hoq⟩ := i7
          simp only [List.take_succ_cons, List.take_zero, List.drop_succ_cons, List.drop_zero, fillFrom, Act.put, i0, i1, i6, hq, List.setIfInBounds_toArray, List.set_cons_zero, List.set_cons_succ, Nat.zero_add, Nat.reduceAdd]
          obtain ⟨w3, hw3⟩ : ∃ x, x = wv := ⟨_, rfl⟩
          subst hw3
          have HOQ := hid hoq
          have HAS3 := hid (HASX.out.mono hR)
          have HG3 := hid (gr_trans GX.out hR)
          have HEV3 := hid (HEVX.out.mono hR)
          have HNM3 := hid HNM.out
          clear hR i0 i1 i6 hq hoq
          go_wp2_with fail
          refine (run_any B _ g vr a HAS3.out now HNOW.out a.peer.tag ⟨8, 0, []⟩ _ HOQ.out 8 (by decide) HL.out).mono ?_
          rintro e w4 ⟨rfl, hd4⟩
          have HEV4 := hid (show RowV w4 (w.heap.size + 1) 33 [.bool false, .bool false, .bool false, .int .u32 0, .int .u32 0, .int .u16 0, .int .u16 0, .int .u32 0, .slice none 0 0, .int .u32 0] from by
            obtain ⟨vr1, -, -, hc1⟩ := hd4
            exact HEV3.out.chg hc1 HNM3.out)
          have HD4 := hid (show DidA B w g vr _ w4 from Did.trans (fun _ h => .inl h) (Chg.of_gr HG3.out) hd4)
          clear hd4
          have y0 := HEV4.out.at 0 (by simp)
          have y1 := HEV4.out.at 1 (by simp)
          have y2 := HEV4.out.at 2 (by simp)
          have y3 := HEV4.out.at 3 (by simp)
          have y4 := HEV4.out.at 4 (by simp)
          have y5 := HEV4.out.at 5 (by simp)
          have y6 := HEV4.out.at 6 (by simp)
          have y7 := HEV4.out.at 7 (by simp)
          have y8 := HEV4.out.at 8 (by simp)
          have y9 := HEV4.out.at 9 (by simp)
          simp only [List.getElem_cons_succ, List.getElem_cons_zero] at y0 y1 y2 y3 y4 y5 y6 y7 y8 y9
          have f0 := HEV4.out.frozen 0
          have f1 := HEV4.out.frozen 1
          have f2 := HEV4.out.frozen 2
          have f3 := HEV4.out.frozen 3
          have f4 := HEV4.out.frozen 4
          have f5 := HEV4.out.frozen 5
          have f6 := HEV4.out.frozen 6
          have f7 := HEV4.out.frozen 7
          have f8 := HEV4.out.frozen 8
          have f9 := HEV4.out.frozen 9
          go_wp2_with fail
          have HEC := hid (show Chg (fun k => k = w.heap.size + 1) w4 _ from (((((((((((Chg.refl (fun k => k = w.heap.size + 1) w4).set ⟨(w.heap.size + 1), 0, none⟩ (.bool false) (.inl rfl)).set ⟨(w.heap.size + 1), 1, none⟩ (.bool false) (.inl rfl)).set ⟨(w.heap.size + 1), 2, none⟩ (.bool false) (.inl rfl)).set ⟨(w.heap.size + 1), 3, none⟩ (.int .u32 0) (.inl rfl)).set ⟨(w.heap.size + 1), 4, none⟩ (.int .u32 0) (.inl rfl)).set ⟨(w.heap.size + 1), 5, none⟩ (.int .u16 0) (.inl rfl)).set ⟨(w.heap.size + 1), 6, none⟩ (.int .u16 0) (.inl rfl)).set ⟨(w.heap.size + 1), 7, none⟩ (.int .u32 0) (.inl rfl)).set ⟨(w.heap.size + 1), 8, none⟩ (.slice none 0 0) (.inl rfl)).set ⟨(w.heap.size + 1), 9, none⟩ (.int .u32 0) (.inl rfl)))
          exact onShutdown_ret (.bool false) (.bool false) (.bool false) (.int .u32 0) (.int .u32 0) (.int .u16 0) (.int .u16 0) (.int .u32 0) (.slice none 0 0) (.int .u32 0) rfl rfl ((((((((((HEV4.out.store 0 (.bool false)).store 1 (.bool false)).store 2 (.bool false)).store 3 (.int .u32 0)).store 4 (.int .u32 0)).store 5 (.int .u16 0)).store 6 (.int .u16 0)).store 7 (.int .u32 0)).store 8 (.slice none 0 0)).store 9 (.int .u32 0)) ⟨rfl, by rw [HQ.out]; exact (HD4.out).ev (Nat.le_succ _) HEV4.out (by decide) (by decide) (by decide) HEC.out⟩
      · have z6 : ((a.st : Int) == 6) = false := by simp; omega
        by_cases q8 : a.st = 8
        · have z8 : ((a.st : Int) == 8) = true := by simp; omega
          have HQ := hid (show onShutdownD a now path c = { a with row := a.row ++ [⟨path, a.peer.tag, ⟨8, 0, []⟩⟩] } by unfold onShutdownD; rw [if_pos HEE.out, if_neg q4, if_neg q6, if_pos q8])
          clear q4 q6 q8
          go_wp2_with fail
          clear c15 f15
          refine wp_region_tail 8 [Is (.pointer (some ⟨g, 0, none⟩)), Is (.int .i64 (path : Int)), Is (.pointer (some ⟨g, 0, none⟩)), Is (.pointer (some ⟨g, 0, none⟩)), Is (.pointer (some ⟨g, 18, none⟩)), Is (.pointer (some ⟨g, 18, none⟩)), Is (.int .u32 (a.peer.tag : Int)), CkO B 5 ⟨8, 0, []⟩] (by kernel_rfl) (by kernel_rfl) (by kernel_rfl) (by kernel_rfl) (by kernel_rfl) (by kernel_rfl) ?_ ?_ ?_
          · simp only [StabAll, Is.gr, RdF.gr, OwnF.gr, AnyF.gr, CkO.gr, and_self]
          · try (rename_i Kk hKk; clear hKk Kk)
            simp only [List.take_succ_cons, List.take_zero, AllOps, List.map_cons, List.map_nil, depsOf, List.filterMap_cons, List.filterMap_nil, Region.binds, depFacts, guardF, reduceIte, List.getD_eq_getElem?_getD, List.getElem?_cons_succ, List.getElem?_cons_zero, Option.getD_some, factAt, and_true]
            refine ⟨?_, ?_, ?_, ?_, ?_, ?_, ?_, ?_⟩
            all_goals intro ρ wv hρ hR hd
            all_goals try simp only [Is] at hd
            · exact opOk_move (.inl rfl) ⟨by simp only [Is]; (first | exact hρ.2 0 rfl | exact hd | exact hd.1 | exact hd.2 | simp [hd]), GrR.refl _⟩
            · exact opOk_move (.inl rfl) ⟨by simp only [Is]; (first | exact hρ.2 2 rfl | exact hd | exact hd.1 | exact hd.2 | simp [hd]), GrR.refl _⟩
            · exact opOk_move (.inl rfl) ⟨by simp only [Is]; (first | exact hρ.2 0 rfl | exact hd | exact hd.1 | exact hd.2 | simp [hd]), GrR.refl _⟩
            · exact opOk_val (v := .pointer (some ⟨g, 0, none⟩)) (w' := wv) (by simp [execOp, go_sem, hρ.1.const, hρ.1.func, hd]) ⟨rfl, GrR.refl _⟩
            · exact opOk_val (v := .pointer (some ⟨g, 18, none⟩)) (w' := wv) (by simp [execOp, go_sem, hρ.1.const, hρ.1.func, hd]) ⟨rfl, GrR.refl _⟩
            · exact opOk_val (v := .pointer (some ⟨g, 18, none⟩)) (w' := wv) (by simp [execOp, go_sem, hρ.1.const, hρ.1.func, hd]) ⟨rfl, GrR.refl _⟩
            · (have h0 := cell?_of_below hR HCT.out; exact opOk_val (v := .int .u32 (a.peer.tag : Int)) (w' := wv) (by simp [execOp, go_sem, hd, h0]) ⟨rfl, GrR.refl _⟩)
            · exact opOk_call hρ.1 rfl rfl Tryd.func39 (by kernel_rfl) rfl (by simp [hd, hρ.1.const, hρ.1.func]) ((plain_any 8 wv).mono fun e w' ⟨h1, h2⟩ => ⟨_, h1, ckO_mk (c := ⟨8, 0, []⟩) (Own.nil _ _ _), h2⟩)
          · intro vals wv hR hall
            have i0 := hall 0 (by omega)
            have i1 := hall 1 (by omega)
            have i6 := hall 6 (by omega)
            have i7 := hall 7 (by omega)
            simp only [factAt, Is, CkO, List.getD_eq_getElem?_getD, List.getElem?_cons_succ, List.getElem?_cons_zero, Option.getD_some] at i0 i1 i6 i7
            clear hall
            obtain ⟨pq, nq, kq, hq, hoq⟩ := i7
            simp only [List.take_succ_cons, List.take_zero, List.drop_succ_cons, List.drop_zero, fillFrom, Act.put, i0, i1, i6, hq, List.setIfInBounds_toArray, List.set_cons_zero, List.set_cons_succ, Nat.zero_add, Nat.reduceAdd]
            obtain ⟨w3, hw3⟩ : ∃ x, x = wv := ⟨_, rfl⟩
            subst hw3
            have HOQ := hid hoq
            have HAS3 := hid (HASX.out.mono hR)
            have HG3 := hid (gr_trans GX.out hR)
            have HEV3 := hid (HEVX.out.mono hR)
            have HNM3 := hid HNM.out
            clear hR i0 i1 i6 hq hoq
            go_wp2_with fail
            refine (say_any B _ g vr a HAS3.out path a.peer.tag ⟨8, 0, []⟩ _ HOQ.out HL.out).mono ?_
            rintro e w4 ⟨rfl, hd4⟩
            have HEV4 := hid (show RowV w4 (w.heap.size + 1) 33 [.bool false, .bool false, .bool false, .int .u32 0, .int .u32 0, .int .u16 0, .int .u16 0, .int .u32 0, .slice none 0 0, .int .u32 0] from by
              obtain ⟨vr1, -, -, hc1⟩ := hd4
              exact HEV3.out.chg hc1 HNM3.out)
            have HD4 := hid (show DidA B w g vr _ w4 from Did.trans (fun _ h => .inl h) (Chg.of_gr HG3.out) hd4)
            clear hd4
            have y0 := HEV4.out.at 0 (by simp)
            have y1 := HEV4.out.at 1 (by simp)
            have y2 := HEV4.out.at 2 (by simp)
            have y3 := HEV4.out.at 3 (by simp)
            have y4 := HEV4.out.at 4 (by simp)
            have y5 := HEV4.out.at 5 (by simp)
            have y6 := HEV4.out.at 6 (by simp)
            have y7 := HEV4.out.at 7 (by simp)
            have y8 := HEV4.out.at 8 (by simp)
            have y9 := HEV4.out.at 9 (by simp)
            simp only [List.getElem_cons_succ, List.getElem_cons_zero] at y0 y1 y2 y3 y4 y5 y6 y7 y8 y9
            have f0 := HEV4.out.frozen 0
            have f1 := HEV4.out.frozen 1
            have f2 := HEV4.out.frozen 2
            have f3 := HEV4.out.frozen 3
            have f4 := HEV4.out.frozen 4
            have f5 := HEV4.out.frozen 5
            have f6 := HEV4.out.frozen 6
            have f7 := HEV4.out.frozen 7
            have f8 := HEV4.out.frozen 8
            have f9 := HEV4.out.frozen 9
            go_wp2_with fail
            have HEC := hid (show Chg (fun k => k = w.heap.size + 1) w4 _ from (((((((((((Chg.refl (fun k => k = w.heap.size + 1) w4).set ⟨(w.heap.size + 1), 0, none⟩ (.bool false) (.inl rfl)).set ⟨(w.heap.size + 1), 1, none⟩ (.bool false) (.inl rfl)).set ⟨(w.heap.size + 1), 2, none⟩ (.bool false) (.inl rfl)).set ⟨(w.heap.size + 1), 3, none⟩ (.int .u32 0) (.inl rfl)).set ⟨(w.heap.size + 1), 4, none⟩ (.int .u32 0) (.inl rfl)).set ⟨(w.heap.size + 1), 5, none⟩ (.int .u16 0) (.inl rfl)).set ⟨(w.heap.size + 1), 6, none⟩ (.int .u16 0) (.inl rfl)).set ⟨(w.heap.size + 1), 7, none⟩ (.int .u32 0) (.inl rfl)).set ⟨(w.heap.size + 1), 8, none⟩ (.slice none 0 0) (.inl rfl)).set ⟨(w.heap.size + 1), 9, none⟩ (.int .u32 0) (.inl rfl)))
            exact onShutdown_ret (.bool false) (.bool false) (.bool false) (.int .u32 0) (.int .u32 0) (.int .u16 0) (.int .u16 0) (.int .u32 0) (.slice none 0 0) (.int .u32 0) rfl rfl ((((((((((HEV4.out.store 0 (.bool false)).store 1 (.bool false)).store 2 (.bool false)).store 3 (.int .u32 0)).store 4 (.int .u32 0)).store 5 (.int .u16 0)).store 6 (.int .u16 0)).store 7 (.int .u32 0)).store 8 (.slice none 0 0)).store 9 (.int .u32 0)) ⟨rfl, by rw [HQ.out]; exact (HD4.out).ev (Nat.le_succ _) HEV4.out (by decide) (by decide) (by decide) HEC.out⟩
        · have z8 : ((a.st : Int) == 8) = false := by simp; omega
          have HQ := hid (show onShutdownD a now path c = a by unfold onShutdownD; rw [if_pos HEE.out, if_neg q4, if_neg q6, if_neg q8])
          clear q4 q6 q8
          have HEV4 := HEVX
          have y0 := HEV4.out.at 0 (by simp)
          have y1 := HEV4.out.at 1 (by simp)
          have y2 := HEV4.out.at 2 (by simp)
          have y3 := HEV4.out.at 3 (by simp)
          have y4 := HEV4.out.at 4 (by simp)
          have y5 := HEV4.out.at 5 (by simp)
          have y6 := HEV4.out.at 6 (by simp)
          have y7 := HEV4.out.at 7 (by simp)
          have y8 := HEV4.out.at 8 (by simp)
          have y9 := HEV4.out.at 9 (by simp)
          simp only [List.getElem_cons_succ, List.getElem_cons_zero] at y0 y1 y2 y3 y4 y5 y6 y7 y8 y9
          have f0 := HEV4.out.frozen 0
          have f1 := HEV4.out.frozen 1
          have f2 := HEV4.out.frozen 2
          have f3 := HEV4.out.frozen 3
          have f4 := HEV4.out.frozen 4
          have f5 := HEV4.out.frozen 5
          have f6 := HEV4.out.frozen 6
          have f7 := HEV4.out.frozen 7
          have f8 := HEV4.out.frozen 8
          have f9 := HEV4.out.frozen 9
          go_wp2_with fail
          have HEC := hid (show Chg (fun k => k = w.heap.size + 1) w1 _ from (((((((((((Chg.refl (fun k => k = w.heap.size + 1) w1).set ⟨(w.heap.size + 1), 0, none⟩ (.bool false) (.inl rfl)).set ⟨(w.heap.size + 1), 1, none⟩ (.bool false) (.inl rfl)).set ⟨(w.heap.size + 1), 2, none⟩ (.bool false) (.inl rfl)).set ⟨(w.heap.size + 1), 3, none⟩ (.int .u32 0) (.inl rfl)).set ⟨(w.heap.size + 1), 4, none⟩ (.int .u32 0) (.inl rfl)).set ⟨(w.heap.size + 1), 5, none⟩ (.int .u16 0) (.inl rfl)).set ⟨(w.heap.size + 1), 6, none⟩ (.int .u16 0) (.inl rfl)).set ⟨(w.heap.size + 1), 7, none⟩ (.int .u32 0) (.inl rfl)).set ⟨(w.heap.size + 1), 8, none⟩ (.slice none 0 0) (.inl rfl)).set ⟨(w.heap.size + 1), 9, none⟩ (.int .u32 0) (.inl rfl)))
          exact onShutdown_ret (.bool false) (.bool false) (.bool false) (.int .u32 0) (.int .u32 0) (.int .u16 0) (.int .u16 0) (.int .u32 0) (.slice none 0 0) (.int .u32 0) rfl rfl ((((((((((HEV4.out.store 0 (.bool false)).store 1 (.bool false)).store 2 (.bool false)).store 3 (.int .u32 0)).store 4 (.int .u32 0)).store 5 (.int .u16 0)).store 6 (.int .u16 0)).store 7 (.int .u32 0)).store 8 (.slice none 0 0)).store 9 (.int .u32 0)) ⟨rfl, by rw [HQ.out]; exact ((show DidA B w g vr a w1 from ⟨vr, HASX.out, fun _ h => .inl h, Chg.of_gr GX.out⟩)).ev (Nat.le_succ _) HEV4.out (by decide) (by decide) (by decide) HEC.out⟩
  · have ze : (ee != 0) = true := by simpa using qe
    have HQ := hid (show onShutdownD a now path c = a by unfold onShutdownD; rw [if_neg (by rw [← hee]; exact qe)])
    clear hee qe
    have HEV4 := HEVX
    have y0 := HEV4.out.at 0 (by simp)
    have y1 := HEV4.out.at 1 (by simp)
    have y2 := HEV4.out.at 2 (by simp)
    have y3 := HEV4.out.at 3 (by simp)
    have y4 := HEV4.out.at 4 (by simp)
    have y5 := HEV4.out.at 5 (by simp)
    have y6 := HEV4.out.at 6 (by simp)
    have y7 := HEV4.out.at 7 (by simp)
    have y8 := HEV4.out.at 8 (by simp)
    have y9 := HEV4.out.at 9 (by simp)
    simp only [List.getElem_cons_succ, List.getElem_cons_zero] at y0 y1 y2 y3 y4 y5 y6 y7 y8 y9
    have f0 := HEV4.out.frozen 0
    have f1 := HEV4.out.frozen 1
    have f2 := HEV4.out.frozen 2
    have f3 := HEV4.out.frozen 3
    have f4 := HEV4.out.frozen 4
    have f5 := HEV4.out.frozen 5
    have f6 := HEV4.out.frozen 6
    have f7 := HEV4.out.frozen 7
    have f8 := HEV4.out.frozen 8
    have f9 := HEV4.out.frozen 9
    go_wp2_with fail
    have HEC := hid (show Chg (fun k => k = w.heap.size + 1) w1 _ from (((((((((((Chg.refl (fun k => k = w.heap.size + 1) w1).set ⟨(w.heap.size + 1), 0, none⟩ (.bool false) (.inl rfl)).set ⟨(w.heap.size + 1), 1, none⟩ (.bool false) (.inl rfl)).set ⟨(w.heap.size + 1), 2, none⟩ (.bool false) (.inl rfl)).set ⟨(w.heap.size + 1), 3, none⟩ (.int .u32 0) (.inl rfl)).set ⟨(w.heap.size + 1), 4, none⟩ (.int .u32 0) (.inl rfl)).set ⟨(w.heap.size + 1), 5, none⟩ (.int .u16 0) (.inl rfl)).set ⟨(w.heap.size + 1), 6, none⟩ (.int .u16 0) (.inl rfl)).set ⟨(w.heap.size + 1), 7, none⟩ (.int .u32 0) (.inl rfl)).set ⟨(w.heap.size + 1), 8, none⟩ (.slice none 0 0) (.inl rfl)).set ⟨(w.heap.size + 1), 9, none⟩ (.int .u32 0) (.inl rfl)))
    exact onShutdown_ret (.bool false) (.bool false) (.bool false) (.int .u32 0) (.int .u32 0) (.int .u16 0) (.int .u16 0) (.int .u32 0) (.slice none 0 0) (.int .u32 0) rfl rfl ((((((((((HEV4.out.store 0 (.bool false)).store 1 (.bool false)).store 2 (.bool false)).store 3 (.int .u32 0)).store 4 (.int .u32 0)).store 5 (.int .u16 0)).store 6 (.int .u16 0)).store 7 (.int .u32 0)).store 8 (.slice none 0 0)).store 9 (.int .u32 0)) ⟨rfl, by rw [HQ.out]; exact ((show DidA B w g vr a w1 from ⟨vr, HASX.out, fun _ h => .inl h, Chg.of_gr GX.out⟩)).ev (Nat.le_succ _) HEV4.out (by decide) (by decide) (by decide) HEC.out⟩
end Go.Proofs.YtiimlanbbfhkjaaDoor

/- gives, onShutAck. Conditions: the association lies as it should; its row is not too long. -/
import Derived.Test.YtiimlanbbfhkjaaDoorAsOn2
import Derived.Test.YtiimlanbbfhkjaaDoorAsHas
set_option linter.unusedSimpArgs false
set_option linter.unusedVariables false



namespace Go.FL

open Go.RowKit

/-- Behind gives. -/
def givesD (a : AsD) : AsD := endsD (if a.peer.tag = 0 then a else { a with row := a.row ++ [⟨0, a.peer.tag, ⟨6, 0, []⟩⟩] })
/-- Behind a SHUTDOWN-ACK. -/
def onShutAckD (a : AsD) (path : Nat) : AsD × EvD :=
  if a.st = 6 ∨ a.st = 8 then (endsD { a with row := a.row ++ [⟨path, a.peer.tag, ⟨14, 0, []⟩⟩] }, ⟨false, true, true, .zero, 0⟩)
  else if (a.st = 0 ∨ a.st = 1) ∧ a.gp ≠ 0 then ({ a with row := a.row ++ [⟨path, a.gp, ⟨14, 0, []⟩⟩] }, .none) else (a, .none)
end Go.FL

namespace Go.Proofs.YtiimlanbbfhkjaaDoor

open Go.RowKit Go.FL Go.ChangeShapes

theorem gives_ret {a : Act} {W : World} {g : Nat} {R : Ending → World → Prop} (v0 v1 v2 v3 v4 v5 v6 v7 v8 v9 : Value) (h2 : a.tmps.getD 2 undef = .pointer (some ⟨g, 0, none⟩)) (hd : a.defers = [])
    (hc : RowV W g 33 [v0, v1, v2, v3, v4, v5, v6, v7, v8, v9]) (hR : R (.returned (.agg #[v0, v1, v2, v3, v4, v5, v6, v7, v8, v9])) W) : bodyPost Tryd.prog Tryd.f36 R .ret a W := by
  refine bodyPost_ret (v := .agg #[v0, v1, v2, v3, v4, v5, v6, v7, v8, v9]) ?_ hd hR
  have c0 := hc.at 0 (by simp)
  have c1 := hc.at 1 (by simp)
  have c2 := hc.at 2 (by simp)
  have c3 := hc.at 3 (by simp)
  have c4 := hc.at 4 (by simp)
  have c5 := hc.at 5 (by simp)
  have c6 := hc.at 6 (by simp)
  have c7 := hc.at 7 (by simp)
  have c8 := hc.at 8 (by simp)
  have c9 := hc.at 9 (by simp)
  simp only [List.getElem_cons_succ, List.getElem_cons_zero] at c0 c1 c2 c3 c4 c5 c6 c7 c8 c9
  simp only [Array.getD_eq_getD_getElem?] at h2
  simp [results, Tryd.results36, go_sem, h2, asAddr, c0, c1, c2, c3, c4, c5, c6, c7, c8, c9]
set_option maxRecDepth 100000 in
set_option maxHeartbeats 4000000 in
theorem gives_any (B : Nat) (w : World) (g : Nat) (vr : Value) (a : AsD) (h : As B w g vr a) (hp : a.peer.tag < 4294967296) (hl : a.row.length ≤ 1000000) :
    Calls Tryd.prog 36 #[.pointer (some ⟨g, 0, none⟩)] w fun e w' => e = .returned (EvD.val ⟨false, true, false, .zero, 0⟩) ∧ DidA B w g vr (givesD a) w' := by
  obtain ⟨W, hW⟩ : ∃ W, W = w.alloc (.cells #[.bool false, .bool false, .bool false, .int .u32 0, .int .u32 0, .int .u16 0, .int .u16 0, .int .u32 0, .slice none 0 0, .int .u32 0] 33 (0, 0)) := ⟨_, rfl⟩
  have HEV := hid (show RowV W w.heap.size 33 [.bool false, .bool false, .bool false, .int .u32 0, .int .u32 0, .int .u16 0, .int .u16 0, .int .u32 0, .slice none 0 0, .int .u32 0] by rw [hW]; exact RowV.new w _ _)
  have G0 := hid (show Below w.heap.size w W by rw [hW]; exact (Below.refl _ _).alloc (Nat.le_refl _) _)
  have HAS := hid (AsAt.mono h G0.out)
  have HNM := hid (show ¬ Mine g vr w.heap.size from mine_not HAS.out HEV.out (by decide) (by decide))
  obtain ⟨vk, vp, vs, hr, -⟩ := id HAS.out
  have HA := hid hr
  have HE := hid hW
  have HL := hid hl
  have HP := hid hp
  have HCT := hid (HA.out.at 18 (by simp [AsD.cells]))
  simp only [AsD.cells, List.getElem_cons_succ, List.getElem_cons_zero] at HCT
  have c18 := HA.out.at 18 (by simp [AsD.cells])
  simp only [AsD.cells, List.getElem_cons_succ, List.getElem_cons_zero] at c18
  rw [hW] at c18
  clear h hr hW hl hp
  go_enter Tryd.func36, Tryd.ntmps36
  by_cases q : a.peer.tag = 0
  · have z : ((a.peer.tag : Int) != 0) = false := by simp; omega
    have HQ := hid (show givesD a = endsD a by unfold givesD; rw [if_pos q])
    clear q
    go_wp2_with fail
    rw [← HE.out]
    clear c18
    refine (ends_any B _ g vr a HAS.out HP.out false).mono ?_
    rintro e w5 ⟨rfl, hd5⟩
    have HEV5 := hid (show RowV w5 w.heap.size 33 [.bool false, .bool false, .bool false, .int .u32 0, .int .u32 0, .int .u16 0, .int .u16 0, .int .u32 0, .slice none 0 0, .int .u32 0] from by
      obtain ⟨vr5, -, -, hc5⟩ := hd5
      exact HEV.out.chg hc5 HNM.out)
    have HD5 := hid (show DidA B w g vr _ w5 from Did.trans (fun _ h => .inl h) (Chg.of_gr G0.out) hd5)
    clear hd5
    rw [show EvD.val ⟨false, true, false, .zero, 0⟩ = .agg #[.bool false, .bool true, .bool false, .int .u32 0, .int .u32 0, .int .u16 0, .int .u16 0, .int .u32 0, .slice none 0 0, .int .u32 0] from rfl]
    have y0 := HEV5.out.at 0 (by simp)
    have y1 := HEV5.out.at 1 (by simp)
    have y2 := HEV5.out.at 2 (by simp)
    have y3 := HEV5.out.at 3 (by simp)
    have y4 := HEV5.out.at 4 (by simp)
    have y5 := HEV5.out.at 5 (by simp)
    have y6 := HEV5.out.at 6 (by simp)
    have y7 := HEV5.out.at 7 (by simp)
    have y8 := HEV5.out.at 8 (by simp)
    have y9 := HEV5.out.at 9 (by simp)
    simp only [List.getElem_cons_succ, List.getElem_cons_zero] at y0 y1 y2 y3 y4 y5 y6 y7 y8 y9
    have f0 := HEV5.out.frozen 0
    have f1 := HEV5.out.frozen 1
    have f2 := HEV5.out.frozen 2
    have f3 := HEV5.out.frozen 3
    have f4 := HEV5.out.frozen 4
    have f5 := HEV5.out.frozen 5
    have f6 := HEV5.out.frozen 6
    have f7 := HEV5.out.frozen 7
    have f8 := HEV5.out.frozen 8
    have f9 := HEV5.out.frozen 9
    go_wp2_with fail
    have HEC := hid (show Chg (fun k => k = w.heap.size) w5 _ from (((((((((((Chg.refl (fun k => k = w.heap.size) w5).set ⟨w.heap.size, 0, none⟩ (.bool false) (.inl rfl)).set ⟨w.heap.size, 1, none⟩ (.bool true) (.inl rfl)).set ⟨w.heap.size, 2, none⟩ (.bool false) (.inl rfl)).set ⟨w.heap.size, 3, none⟩ (.int .u32 0) (.inl rfl)).set ⟨w.heap.size, 4, none⟩ (.int .u32 0) (.inl rfl)).set ⟨w.heap.size, 5, none⟩ (.int .u16 0) (.inl rfl)).set ⟨w.heap.size, 6, none⟩ (.int .u16 0) (.inl rfl)).set ⟨w.heap.size, 7, none⟩ (.int .u32 0) (.inl rfl)).set ⟨w.heap.size, 8, none⟩ (.slice none 0 0) (.inl rfl)).set ⟨w.heap.size, 9, none⟩ (.int .u32 0) (.inl rfl)))
    exact gives_ret (.bool false) (.bool true) (.bool false) (.int .u32 0) (.int .u32 0) (.int .u16 0) (.int .u16 0) (.int .u32 0) (.slice none 0 0) (.int .u32 0) rfl rfl ((((((((((HEV5.out.store 0 (.bool false)).store 1 (.bool true)).store 2 (.bool false)).store 3 (.int .u32 0)).store 4 (.int .u32 0)).store 5 (.int .u16 0)).store 6 (.int .u16 0)).store 7 (.int .u32 0)).store 8 (.slice none 0 0)).store 9 (.int .u32 0)) ⟨rfl, by rw [HQ.out]; exact HD5.out.ev (Nat.le_refl _) HEV5.out (by decide) (by decide) (by decide) HEC.out⟩
  · have z : ((a.peer.tag : Int) != 0) = true := by simp; omega
    have HQ := hid (show givesD a = endsD { a with row := a.row ++ [⟨0, a.peer.tag, ⟨6, 0, []⟩⟩] } by unfold givesD; rw [if_neg q])
    have HBW := hid (show B ≤ W.heap.size from by obtain ⟨_, _, _, r1, r2, -⟩ := HAS.out; exact Nat.le_trans r2 (Nat.le_of_lt r1.lt))
    clear q
    go_wp2_with fail
    rw [← HE.out]
    clear c18
    refine wp_region_tail 7 [Is (.pointer (some ⟨g, 0, none⟩)), Is (.pointer (some ⟨g, 0, none⟩)), Is (.pointer (some ⟨g, 0, none⟩)), Is (.pointer (some ⟨g, 18, none⟩)), Is (.pointer (some ⟨g, 18, none⟩)), Is (.int .u32 (a.peer.tag : Int)), CkO B 5 ⟨6, 0, []⟩] (by kernel_rfl) (by kernel_rfl) (by kernel_rfl) (by kernel_rfl) (by kernel_rfl) (by kernel_rfl) ?_ ?_ ?_
    · simp only [StabAll, Is.gr, RdF.gr, OwnF.gr, AnyF.gr, CkO.gr, and_self]
    · try (rename_i Kk hKk; clear hKk Kk)
      simp only [List.take_succ_cons, List.take_zero, AllOps, List.map_cons, List.map_nil, depsOf, List.filterMap_cons, List.filterMap_nil, Region.binds, depFacts, guardF, reduceIte, List.getD_eq_getElem?_getD, List.getElem?_cons_succ, List.getElem?_cons_zero, Option.getD_some, factAt, and_true]
      refine ⟨?_, ?_, ?_, ?_, ?_, ?_, ?_⟩
      all_goals intro ρ wv hρ hR hd
      all_goals try simp only [Is] at hd
      · exact opOk_move (.inl rfl) ⟨by simp only [Is]; (first | exact hρ.2 0 rfl | exact hd | exact hd.1 | exact hd.2 | simp [hd]), GrR.refl _⟩
      · exact opOk_move (.inl rfl) ⟨by simp only [Is]; (first | exact hρ.2 0 rfl | exact hd | exact hd.1 | exact hd.2 | simp [hd]), GrR.refl _⟩
      · exact opOk_val (v := .pointer (some ⟨g, 0, none⟩)) (w' := wv) (by simp [execOp, go_sem, hρ.1.const, hρ.1.func, hd]) ⟨rfl, GrR.refl _⟩
      · exact opOk_val (v := .pointer (some ⟨g, 18, none⟩)) (w' := wv) (by simp [execOp, go_sem, hρ.1.const, hρ.1.func, hd]) ⟨rfl, GrR.refl _⟩
      · exact opOk_val (v := .pointer (some ⟨g, 18, none⟩)) (w' := wv) (by simp [execOp, go_sem, hρ.1.const, hρ.1.func, hd]) ⟨rfl, GrR.refl _⟩
      · (have h0 := cell?_of_below hR HCT.out; exact opOk_val (v := .int .u32 (a.peer.tag : Int)) (w' := wv) (by simp [execOp, go_sem, hd, h0]) ⟨rfl, GrR.refl _⟩)
      · exact opOk_call hρ.1 rfl rfl Tryd.func39 (by kernel_rfl) rfl (by simp [hd, hρ.1.const, hρ.1.func]) ((plain_any 6 wv).mono fun e w' ⟨h1, h2⟩ => ⟨_, h1, ckO_mk (c := ⟨6, 0, []⟩) (Own.nil _ _ _), h2⟩)
    · intro vals wv hR hall
      have i0 := hall 0 (by omega)
      have i5 := hall 5 (by omega)
      have i6 := hall 6 (by omega)
      simp only [factAt, Is, CkO, List.getD_eq_getElem?_getD, List.getElem?_cons_succ, List.getElem?_cons_zero, Option.getD_some] at i0 i5 i6
      clear hall
      obtain ⟨pq, nq, kq, hq, hoq⟩ := i6
      simp only [List.take_succ_cons, List.take_zero, List.drop_succ_cons, List.drop_zero, fillFrom, Act.put, i0, i5, hq, List.setIfInBounds_toArray, List.set_cons_zero, List.set_cons_succ, Nat.zero_add, Nat.reduceAdd]
      obtain ⟨w3, hw3⟩ : ∃ x, x = wv := ⟨_, rfl⟩
      subst hw3
      have HOQ := hid hoq
      have HAS3 := hid (HAS.out.mono hR)
      have HG3 := hid (gr_trans G0.out hR)
      have HEV3 := hid (HEV.out.mono hR)
      have HNM3 := hid HNM.out
      clear hR i0 i5 hq hoq
      go_wp2_with fail
      refine (say_any B _ g vr a HAS3.out 0 a.peer.tag ⟨6, 0, []⟩ _ HOQ.out HL.out).mono ?_
      rintro e w4 ⟨rfl, hd4⟩
      obtain ⟨vr4, has4, hrt4, hc4⟩ := hd4
      have HAS4 := hid has4
      have HEV4 := hid (show RowV w4 w.heap.size 33 [.bool false, .bool false, .bool false, .int .u32 0, .int .u32 0, .int .u16 0, .int .u16 0, .int .u32 0, .slice none 0 0, .int .u32 0] from HEV3.out.chg hc4 HNM3.out)
      have HNM4 := hid (show ¬ Mine g vr4 w.heap.size from mine_not has4 HEV4.out (by decide) (by decide))
      have HRT4 := hid (show RowTo w vr vr4 from fun k hk => (hrt4 k hk).imp id (fun h => Nat.le_trans HG3.out.size h))
      have HC4 := hid (show Chg (Mine g vr) w w4 from (Chg.of_gr HG3.out).then hc4 (fun i _ h => h))
      clear has4 hrt4 hc4
      go_wp2_with fail
      refine (ends_any B _ g vr4 _ HAS4.out HP.out false).mono ?_
      rintro e w5 ⟨rfl, hd5⟩
      have HEV5 := hid (show RowV w5 w.heap.size 33 [.bool false, .bool false, .bool false, .int .u32 0, .int .u32 0, .int .u16 0, .int .u16 0, .int .u32 0, .slice none 0 0, .int .u32 0] from by
        obtain ⟨vr5, -, -, hc5⟩ := hd5
        exact HEV4.out.chg hc5 HNM4.out)
      have HD5 := hid (show DidA B w g vr _ w5 from Did.trans HRT4.out HC4.out hd5)
      clear hd5
      rw [show EvD.val ⟨false, true, false, .zero, 0⟩ = .agg #[.bool false, .bool true, .bool false, .int .u32 0, .int .u32 0, .int .u16 0, .int .u16 0, .int .u32 0, .slice none 0 0, .int .u32 0] from rfl]
      have y0 := HEV5.out.at 0 (by simp)
      have y1 := HEV5.out.at 1 (by simp)
      have y2 := HEV5.out.at 2 (by simp)
      have y3 := HEV5.out.at 3 (by simp)
      have y4 := HEV5.out.at 4 (by simp)
      have y5 := HEV5.out.at 5 (by simp)
      have y6 := HEV5.out.at 6 (by simp)
      have y7 := HEV5.out.at 7 (by simp)
      have y8 := HEV5.out.at 8 (by simp)
      have y9 := HEV5.out.at 9 (by simp)
      simp only [List.getElem_cons_succ, List.getElem_cons_zero] at y0 y1 y2 y3 y4 y5 y6 y7 y8 y9
      have f0 := HEV5.out.frozen 0
      have f1 := HEV5.out.frozen 1
      have f2 := HEV5.out.frozen 2
      have f3 := HEV5.out.frozen 3
      have f4 := HEV5.out.frozen 4
      have f5 := HEV5.out.frozen 5
      have f6 := HEV5.out.frozen 6
      have f7 := HEV5.out.frozen 7
      have f8 := HEV5.out.frozen 8
      have f9 := HEV5.out.frozen 9
      go_wp2_with fail
      have HEC := hid (show Chg (fun k => k = w.heap.size) w5 _ from (((((((((((Chg.refl (fun k => k = w.heap.size) w5).set ⟨w.heap.size, 0, none⟩ (.bool false) (.inl rfl)).set ⟨w.heap.size, 1, none⟩ (.bool true) (.inl rfl)).set ⟨w.heap.size, 2, none⟩ (.bool false) (.inl rfl)).set ⟨w.heap.size, 3, none⟩ (.int .u32 0) (.inl rfl)).set ⟨w.heap.size, 4, none⟩ (.int .u32 0) (.inl rfl)).set ⟨w.heap.size, 5, none⟩ (.int .u16 0) (.inl rfl)).set ⟨w.heap.size, 6, none⟩ (.int .u16 0) (.inl rfl)).set ⟨w.heap.size, 7, none⟩ (.int .u32 0) (.inl rfl)).set ⟨w.heap.size, 8, none⟩ (.slice none 0 0) (.inl rfl)).set ⟨w.heap.size, 9, none⟩ (.int .u32 0) (.inl rfl)))
      exact gives_ret (.bool false) (.bool true) (.bool false) (.int .u32 0) (.int .u32 0) (.int .u16 0) (.int .u16 0) (.int .u32 0) (.slice none 0 0) (.int .u32 0) rfl rfl ((((((((((HEV5.out.store 0 (.bool false)).store 1 (.bool true)).store 2 (.bool false)).store 3 (.int .u32 0)).store 4 (.int .u32 0)).store 5 (.int .u16 0)).store 6 (.int .u16 0)).store 7 (.int .u32 0)).store 8 (.slice none 0 0)).store 9 (.int .u32 0)) ⟨rfl, by rw [HQ.out]; exact HD5.out.ev (Nat.le_refl _) HEV5.out (by decide) (by decide) (by decide) HEC.out⟩
theorem onShutAck_ret {a : Act} {W : World} {g : Nat} {R : Ending → World → Prop} (v0 v1 v2 v3 v4 v5 v6 v7 v8 v9 : Value) (h2 : a.tmps.getD 8 undef = .pointer (some ⟨g, 0, none⟩)) (hd : a.defers = [])
    (hc : RowV W g 33 [v0, v1, v2, v3, v4, v5, v6, v7, v8, v9]) (hR : R (.returned (.agg #[v0, v1, v2, v3, v4, v5, v6, v7, v8, v9])) W) : bodyPost Tryd.prog Tryd.f57 R .ret a W := by
  refine bodyPost_ret (v := .agg #[v0, v1, v2, v3, v4, v5, v6, v7, v8, v9]) ?_ hd hR
  have c0 := hc.at 0 (by simp)
  have c1 := hc.at 1 (by simp)
  have c2 := hc.at 2 (by simp)
  have c3 := hc.at 3 (by simp)
  have c4 := hc.at 4 (by simp)
  have c5 := hc.at 5 (by simp)
  have c6 := hc.at 6 (by simp)
  have c7 := hc.at 7 (by simp)
  have c8 := hc.at 8 (by simp)
  have c9 := hc.at 9 (by simp)
  simp only [List.getElem_cons_succ, List.getElem_cons_zero] at c0 c1 c2 c3 c4 c5 c6 c7 c8 c9
  simp only [Array.getD_eq_getD_getElem?] at h2
  simp [results, Tryd.results57, go_sem, h2, asAddr, c0, c1, c2, c3, c4, c5, c6, c7, c8, c9]
set_option maxRecDepth 100000 in
set_option maxHeartbeats 4000000 in
theorem onShutAck_any (B : Nat) (w : World) (g : Nat) (vr : Value) (a : AsD) (h : As B w g vr a) (now : Int) (hnow : 0 ≤ now ∧ now ≤ 2305843009213693952) (path : Nat) (c : Chk) (s : Value) (hs : Own w B 5 s c.b) (hp : a.peer.tag < 4294967296) (hgp : a.gp < 4294967296) (hst : a.st < 256) (hl : a.row.length ≤ 1000000) :
    Calls Tryd.prog 57 #[.pointer (some ⟨g, 0, none⟩), .int .i64 now, .int .i64 (path : Int), .agg #[.int .u8 (c.k.toNat : Int), .int .u8 (c.f.toNat : Int), s]] w fun e w' => e = .returned (EvD.val (onShutAckD a path).2) ∧ DidA B w g vr (onShutAckD a path).1 w' := by
  have HL := hid hl
  have HP := hid hp
  have HGP := hid hgp
  have HST := hid hst
  obtain ⟨ps, nb, cps, rfl⟩ : ∃ p n c, s = Value.slice p n c := by
    obtain ⟨p9, c9, hsf, -⟩ := hs.rd
    exact ⟨_, _, _, hsf⟩
  obtain ⟨W0, hW0⟩ : ∃ W, W = w.alloc (.cells #[.int .u8 (c.k.toNat : Int), .int .u8 (c.f.toNat : Int), .slice ps nb cps] 47 (0, 0)) := ⟨_, rfl⟩
  have hs0 : W0.heap.size = w.heap.size + 1 := by rw [hW0]; simp
  obtain ⟨W, hW⟩ : ∃ W, W = W0.alloc (.cells #[.bool false, .bool false, .bool false, .int .u32 0, .int .u32 0, .int .u16 0, .int .u16 0, .int .u32 0, .slice none 0 0, .int .u32 0] 33 (0, 0)) := ⟨_, rfl⟩
  have HCH := hid (show RowV W w.heap.size 47 [.int .u8 (c.k.toNat : Int), .int .u8 (c.f.toNat : Int), .slice ps nb cps] by rw [hW, hW0]; exact (RowV.new w _ _).alloc _)
  have HEV := hid (show RowV W (w.heap.size + 1) 33 [.bool false, .bool false, .bool false, .int .u32 0, .int .u32 0, .int .u16 0, .int .u16 0, .int .u32 0, .slice none 0 0, .int .u32 0] by rw [hW, ← hs0]; exact RowV.new W0 _ _)
  have G0 := hid (show Below w.heap.size w W by rw [hW, hW0]; exact ((Below.refl _ _).alloc (Nat.le_refl _) _).alloc (by simp) _)
  have HAS := hid (AsAt.mono h G0.out)
  have HBS := hid (hs.mono G0.out)
  have HNM := hid (show ¬ Mine g vr (w.heap.size + 1) from mine_not HAS.out HEV.out (by decide) (by decide))
  obtain ⟨vk, vp, vs, hr, -⟩ := id HAS.out
  have HA := hid hr
  rw [hW0] at hW
  have HE := hid hW
  clear h hs hr hs0 hW0 W0
  have hsW : W.heap.size = w.heap.size + 2 := by rw [hW]; simp
  obtain ⟨W1, hW1⟩ : ∃ x, x = W.alloc (.cells #[.int .u8 6, .int .u8 8] 5 (0, 0)) := ⟨_, rfl⟩
  have hs1 : W1.heap.size = w.heap.size + 3 := by rw [hW1]; simp [hsW]
  have HRD1 := hid (show Rd W1 (.slice (some ⟨w.heap.size + 2, 0, none⟩) 2 2) [6, 8] by rw [hW1, ← hsW]; exact rd_new W 5 [6, 8] 2 _ rfl rfl (by unfold maxLen; omega))
  have g1 : Below W.heap.size W W1 := by rw [hW1]; exact (Below.refl _ _).alloc (Nat.le_refl _) _
  have HASX := hid (HAS.out.mono g1)
  have HEVX := hid (HEV.out.mono g1)
  have HAX := hid (HA.out.mono g1)
  have GX := hid (gr_trans G0.out g1)
  have HE1 := hid hW1
  have HB1 := hid (show ([6, 8] : List UInt8).any (fun x => decide (a.st = x.toNat)) = (decide (a.st = 6) || (decide (a.st = 8) || false)) from rfl)
  clear hl hp hgp hst hnow hW hW1 g1
  go_enter Tryd.func57, Tryd.ntmps57
  go_wp2_with fail
  rw [← HE.out, ← HE1.out]
  refine (is_any B _ g vr a HASX.out HST.out [6, 8] _ HRD1.out).mono ?_
  rintro e w1 ⟨rfl, rfl⟩
  rw [HB1.out]
  by_cases q1 : a.st = 6 ∨ a.st = 8
  · have hb : (decide (a.st = 6) || (decide (a.st = 8) || false)) = true := by rcases q1 with e | e <;> simp [e]
    rw [hb]
    have HQ := hid (show onShutAckD a path = (endsD { a with row := a.row ++ [⟨path, a.peer.tag, ⟨14, 0, []⟩⟩] }, ⟨false, true, true, .zero, 0⟩) by unfold onShutAckD; rw [if_pos q1])
    clear q1 hb
    have HCT := hid (HAX.out.at 18 (by simp [AsD.cells]))
    simp only [AsD.cells, List.getElem_cons_succ, List.getElem_cons_zero] at HCT
    go_wp2_with fail
    refine wp_region_tail 8 [Is (.pointer (some ⟨g, 0, none⟩)), Is (.int .i64 (path : Int)), Is (.pointer (some ⟨g, 0, none⟩)), Is (.pointer (some ⟨g, 0, none⟩)), Is (.pointer (some ⟨g, 18, none⟩)), Is (.pointer (some ⟨g, 18, none⟩)), Is (.int .u32 (a.peer.tag : Int)), CkO B 5 ⟨14, 0, []⟩] (by kernel_rfl) (by kernel_rfl) (by kernel_rfl) (by kernel_rfl) (by kernel_rfl) (by kernel_rfl) ?_ ?_ ?_
    · simp only [StabAll, Is.gr, RdF.gr, OwnF.gr, AnyF.gr, CkO.gr, and_self]
    · try (rename_i Kk hKk; clear hKk Kk)
      simp only [List.take_succ_cons, List.take_zero, AllOps, List.map_cons, List.map_nil, depsOf, List.filterMap_cons, List.filterMap_nil, Region.binds, depFacts, guardF, reduceIte, List.getD_eq_getElem?_getD, List.getElem?_cons_succ, List.getElem?_cons_zero, Option.getD_some, factAt, and_true]
      refine ⟨?_, ?_, ?_, ?_, ?_, ?_, ?_, ?_⟩
      all_goals intro ρ wv hρ hR hd
      all_goals try simp only [Is] at hd
      · exact opOk_move (.inl rfl) ⟨by simp only [Is]; (first | exact hρ.2 0 rfl | exact hd | exact hd.1 | exact hd.2 | simp [hd]), GrR.refl _⟩
      · exact opOk_move (.inl rfl) ⟨by simp only [Is]; (first | exact hρ.2 2 rfl | exact hd | exact hd.1 | exact hd.2 | simp [hd]), GrR.refl _⟩
      · exact opOk_move (.inl rfl) ⟨by simp only [Is]; (first | exact hρ.2 0 rfl | exact hd | exact hd.1 | exact hd.2 | simp [hd]), GrR.refl _⟩
      · exact opOk_val (v := .pointer (some ⟨g, 0, none⟩)) (w' := wv) (by simp [execOp, go_sem, hρ.1.const, hρ.1.func, hd]) ⟨rfl, GrR.refl _⟩
      · exact opOk_val (v := .pointer (some ⟨g, 18, none⟩)) (w' := wv) (by simp [execOp, go_sem, hρ.1.const, hρ.1.func, hd]) ⟨rfl, GrR.refl _⟩
      · exact opOk_val (v := .pointer (some ⟨g, 18, none⟩)) (w' := wv) (by simp [execOp, go_sem, hρ.1.const, hρ.1.func, hd]) ⟨rfl, GrR.refl _⟩
      · (have h0 := cell?_of_below hR HCT.out; exact opOk_val (v := .int .u32 (a.peer.tag : Int)) (w' := wv) (by simp [execOp, go_sem, hd, h0]) ⟨rfl, GrR.refl _⟩)
      · exact opOk_call hρ.1 rfl rfl Tryd.func39 (by kernel_rfl) rfl (by simp [hd, hρ.1.const, hρ.1.func]) ((plain_any 14 wv).mono fun e w' ⟨h1, h2⟩ => ⟨_, h1, ckO_mk (c := ⟨14, 0, []⟩) (Own.nil _ _ _), h2⟩)
    · intro vals wv hR hall
      have i0 := hall 0 (by omega)
      have i1 := hall 1 (by omega)
      have i6 := hall 6 (by omega)
      have i7 := hall 7 (by omega)
      simp only [factAt, Is, CkO, List.getD_eq_getElem?_getD, List.getElem?_cons_succ, List.getElem?_cons_zero, Option.getD_some] at i0 i1 i6 i7
      clear hall
      obtain ⟨pq, nq, kq, hq, hoq⟩ := i7
      simp only [List.take_succ_cons, List.take_zero, List.drop_succ_cons, List.drop_zero, fillFrom, Act.put, i0, i1, i6, hq, List.setIfInBounds_toArray, List.set_cons_zero, List.set_cons_succ, Nat.zero_add, Nat.reduceAdd]
      obtain ⟨w3, hw3⟩ : ∃ x, x = wv := ⟨_, rfl⟩
      subst hw3
      have HOQ := hid hoq
      have HAS3 := hid (HASX.out.mono hR)
      have HG3 := hid (gr_trans GX.out hR)
      have HEV3 := hid (HEVX.out.mono hR)
      have HNM3 := hid HNM.out
      clear hR i0 i1 i6 hq hoq
      go_wp2_with fail
      refine (say_any B _ g vr a HAS3.out path a.peer.tag ⟨14, 0, []⟩ _ HOQ.out HL.out).mono ?_
      rintro e w4 ⟨rfl, hd4⟩
      obtain ⟨vr4, has4, hrt4, hc4⟩ := hd4
      have HAS4 := hid has4
      have HEV4 := hid (show RowV w4 (w.heap.size + 1) 33 [.bool false, .bool false, .bool false, .int .u32 0, .int .u32 0, .int .u16 0, .int .u16 0, .int .u32 0, .slice none 0 0, .int .u32 0] from HEV3.out.chg hc4 HNM3.out)
      have HNM4 := hid (show ¬ Mine g vr4 (w.heap.size + 1) from mine_not has4 HEV4.out (by decide) (by decide))
      have HRT4 := hid (show RowTo w vr vr4 from fun k hk => (hrt4 k hk).imp id (fun h => Nat.le_trans HG3.out.size h))
      have HC4 := hid (show Chg (Mine g vr) w w4 from (Chg.of_gr HG3.out).then hc4 (fun i _ h => h))
      clear has4 hrt4 hc4
      go_wp2_with fail
      refine (ends_any B _ g vr4 _ HAS4.out HP.out true).mono ?_
      rintro e w5 ⟨rfl, hd5⟩
      have HEV5 := hid (show RowV w5 (w.heap.size + 1) 33 [.bool false, .bool false, .bool false, .int .u32 0, .int .u32 0, .int .u16 0, .int .u16 0, .int .u32 0, .slice none 0 0, .int .u32 0] from by
        obtain ⟨vr5, -, -, hc5⟩ := hd5
        exact HEV4.out.chg hc5 HNM4.out)
      have HD5 := hid (show DidA B w g vr _ w5 from Did.trans HRT4.out HC4.out hd5)
      clear hd5
      rw [show EvD.val ⟨false, true, true, .zero, 0⟩ = .agg #[.bool false, .bool true, .bool true, .int .u32 0, .int .u32 0, .int .u16 0, .int .u16 0, .int .u32 0, .slice none 0 0, .int .u32 0] from rfl]
      have y0 := HEV5.out.at 0 (by simp)
      have y1 := HEV5.out.at 1 (by simp)
      have y2 := HEV5.out.at 2 (by simp)
      have y3 := HEV5.out.at 3 (by simp)
      have y4 := HEV5.out.at 4 (by simp)
      have y5 := HEV5.out.at 5 (by simp)
      have y6 := HEV5.out.at 6 (by simp)
      have y7 := HEV5.out.at 7 (by simp)
      have y8 := HEV5.out.at 8 (by simp)
      have y9 := HEV5.out.at 9 (by simp)
      simp only [List.getElem_cons_succ, List.getElem_cons_zero] at y0 y1 y2 y3 y4 y5 y6 y7 y8 y9
      have f0 := HEV5.out.frozen 0
      have f1 := HEV5.out.frozen 1
      have f2 := HEV5.out.frozen 2
      have f3 := HEV5.out.frozen 3
      have f4 := HEV5.out.frozen 4
      have f5 := HEV5.out.frozen 5
      have f6 := HEV5.out.frozen 6
      have f7 := HEV5.out.frozen 7
      have f8 := HEV5.out.frozen 8
      have f9 := HEV5.out.frozen 9
      go_wp2_with fail
      have HEC := hid (show Chg (fun k => k = (w.heap.size + 1)) w5 _ from (((((((((((Chg.refl (fun k => k = (w.heap.size + 1)) w5).set ⟨(w.heap.size + 1), 0, none⟩ (.bool false) (.inl rfl)).set ⟨(w.heap.size + 1), 1, none⟩ (.bool true) (.inl rfl)).set ⟨(w.heap.size + 1), 2, none⟩ (.bool true) (.inl rfl)).set ⟨(w.heap.size + 1), 3, none⟩ (.int .u32 0) (.inl rfl)).set ⟨(w.heap.size + 1), 4, none⟩ (.int .u32 0) (.inl rfl)).set ⟨(w.heap.size + 1), 5, none⟩ (.int .u16 0) (.inl rfl)).set ⟨(w.heap.size + 1), 6, none⟩ (.int .u16 0) (.inl rfl)).set ⟨(w.heap.size + 1), 7, none⟩ (.int .u32 0) (.inl rfl)).set ⟨(w.heap.size + 1), 8, none⟩ (.slice none 0 0) (.inl rfl)).set ⟨(w.heap.size + 1), 9, none⟩ (.int .u32 0) (.inl rfl)))
      exact onShutAck_ret (.bool false) (.bool true) (.bool true) (.int .u32 0) (.int .u32 0) (.int .u16 0) (.int .u16 0) (.int .u32 0) (.slice none 0 0) (.int .u32 0) rfl rfl ((((((((((HEV5.out.store 0 (.bool false)).store 1 (.bool true)).store 2 (.bool true)).store 3 (.int .u32 0)).store 4 (.int .u32 0)).store 5 (.int .u16 0)).store 6 (.int .u16 0)).store 7 (.int .u32 0)).store 8 (.slice none 0 0)).store 9 (.int .u32 0)) ⟨by rw [HQ.out]; rfl, by rw [HQ.out]; exact HD5.out.ev (Nat.le_succ _) HEV5.out (by decide) (by decide) (by decide) HEC.out⟩
  · have hb : (decide (a.st = 6) || (decide (a.st = 8) || false)) = false := by simp; omega
    rw [hb]
    obtain ⟨W2, hW2⟩ : ∃ x, x = W1.alloc (.cells #[.int .u8 0, .int .u8 1] 5 (0, 0)) := ⟨_, rfl⟩
    have HRD2 := hid (show Rd W2 (.slice (some ⟨W1.heap.size, 0, none⟩) 2 2) [0, 1] by rw [hW2]; exact rd_new W1 5 [0, 1] 2 _ rfl rfl (by unfold maxLen; omega))
    have g2 : Below W1.heap.size W1 W2 := by rw [hW2]; exact (Below.refl _ _).alloc (Nat.le_refl _) _
    have HASY := hid (HASX.out.mono g2)
    have HEVY := hid (HEVX.out.mono g2)
    have HAY := hid (HAX.out.mono g2)
    have GY := hid (gr_trans GX.out g2)
    have HE2 := hid hW2
    have HSZ1 := hid hs1
    have HB2 := hid (show ([0, 1] : List UInt8).any (fun x => decide (a.st = x.toNat)) = (decide (a.st = 0) || (decide (a.st = 1) || false)) from rfl)
    have HQ1 := hid q1
    clear q1 hb hW2 g2 hs1
    go_wp2_with fail
    rw [← HE2.out]
    refine (is_any B _ g vr a HASY.out HST.out [0, 1] _ HRD2.out).mono ?_
    rintro e w1 ⟨rfl, rfl⟩
    rw [HB2.out]
    have c25 := HAY.out.at 25 (by simp [AsD.cells])
    simp only [AsD.cells, List.getElem_cons_succ, List.getElem_cons_zero] at c25
    have HCT := hid (HAY.out.at 25 (by simp [AsD.cells]))
    simp only [AsD.cells, List.getElem_cons_succ, List.getElem_cons_zero] at HCT
    by_cases q2 : a.st = 0 ∨ a.st = 1
    · have hb : (decide (a.st = 0) || (decide (a.st = 1) || false)) = true := by rcases q2 with e | e <;> simp [e]
      rw [hb]
      clear hb
      by_cases q3 : a.gp = 0
      · have z : ((a.gp : Int) != 0) = false := by simp; omega
        have HQ := hid (show onShutAckD a path = (a, .none) by unfold onShutAckD; rw [if_neg HQ1.out, if_neg (by rintro ⟨-, h⟩; exact h q3)])
        clear q2 q3
        have HEV4 := HEVY
        have y0 := HEV4.out.at 0 (by simp)
        have y1 := HEV4.out.at 1 (by simp)
        have y2 := HEV4.out.at 2 (by simp)
        have y3 := HEV4.out.at 3 (by simp)
        have y4 := HEV4.out.at 4 (by simp)
        have y5 := HEV4.out.at 5 (by simp)
        have y6 := HEV4.out.at 6 (by simp)
        have y7 := HEV4.out.at 7 (by simp)
        have y8 := HEV4.out.at 8 (by simp)
        have y9 := HEV4.out.at 9 (by simp)
        simp only [List.getElem_cons_succ, List.getElem_cons_zero] at y0 y1 y2 y3 y4 y5 y6 y7 y8 y9
        have f0 := HEV4.out.frozen 0
        have f1 := HEV4.out.frozen 1
        have f2 := HEV4.out.frozen 2
        have f3 := HEV4.out.frozen 3
        have f4 := HEV4.out.frozen 4
        have f5 := HEV4.out.frozen 5
        have f6 := HEV4.out.frozen 6
        have f7 := HEV4.out.frozen 7
        have f8 := HEV4.out.frozen 8
        have f9 := HEV4.out.frozen 9
        go_wp2_with fail
        have HEC := hid (show Chg (fun k => k = w.heap.size + 1) W2 _ from (((((((((((Chg.refl (fun k => k = w.heap.size + 1) W2).set ⟨(w.heap.size + 1), 0, none⟩ (.bool false) (.inl rfl)).set ⟨(w.heap.size + 1), 1, none⟩ (.bool false) (.inl rfl)).set ⟨(w.heap.size + 1), 2, none⟩ (.bool false) (.inl rfl)).set ⟨(w.heap.size + 1), 3, none⟩ (.int .u32 0) (.inl rfl)).set ⟨(w.heap.size + 1), 4, none⟩ (.int .u32 0) (.inl rfl)).set ⟨(w.heap.size + 1), 5, none⟩ (.int .u16 0) (.inl rfl)).set ⟨(w.heap.size + 1), 6, none⟩ (.int .u16 0) (.inl rfl)).set ⟨(w.heap.size + 1), 7, none⟩ (.int .u32 0) (.inl rfl)).set ⟨(w.heap.size + 1), 8, none⟩ (.slice none 0 0) (.inl rfl)).set ⟨(w.heap.size + 1), 9, none⟩ (.int .u32 0) (.inl rfl)))
        exact onShutAck_ret (.bool false) (.bool false) (.bool false) (.int .u32 0) (.int .u32 0) (.int .u16 0) (.int .u16 0) (.int .u32 0) (.slice none 0 0) (.int .u32 0) rfl rfl ((((((((((HEV4.out.store 0 (.bool false)).store 1 (.bool false)).store 2 (.bool false)).store 3 (.int .u32 0)).store 4 (.int .u32 0)).store 5 (.int .u16 0)).store 6 (.int .u16 0)).store 7 (.int .u32 0)).store 8 (.slice none 0 0)).store 9 (.int .u32 0)) ⟨by rw [HQ.out]; rfl, by rw [HQ.out]; exact ((show DidA B w g vr a W2 from ⟨vr, HASY.out, fun _ h => .inl h, Chg.of_gr GY.out⟩)).ev (Nat.le_succ _) HEV4.out (by decide) (by decide) (by decide) HEC.out⟩
      · have z : ((a.gp : Int) != 0) = true := by simp; omega
        have HQ := hid (show onShutAckD a path = ({ a with row := a.row ++ [⟨path, a.gp, ⟨14, 0, []⟩⟩] }, .none) by unfold onShutAckD; rw [if_neg HQ1.out, if_pos ⟨q2, q3⟩])
        clear q2 q3
        go_wp2_with fail
        clear c25
        refine wp_region_tail 8 [Is (.pointer (some ⟨g, 0, none⟩)), Is (.int .i64 (path : Int)), Is (.pointer (some ⟨g, 0, none⟩)), Is (.pointer (some ⟨g, 0, none⟩)), Is (.pointer (some ⟨g, 24, none⟩)), Is (.pointer (some ⟨g, 25, none⟩)), Is (.int .u32 (a.gp : Int)), CkO B 5 ⟨14, 0, []⟩] (by kernel_rfl) (by kernel_rfl) (by kernel_rfl) (by kernel_rfl) (by kernel_rfl) (by kernel_rfl) ?_ ?_ ?_
        · simp only [StabAll, Is.gr, RdF.gr, OwnF.gr, AnyF.gr, CkO.gr, and_self]
        · try (rename_i Kk hKk; clear hKk Kk)
          simp only [List.take_succ_cons, List.take_zero, AllOps, List.map_cons, List.map_nil, depsOf, List.filterMap_cons, List.filterMap_nil, Region.binds, depFacts, guardF, reduceIte, List.getD_eq_getElem?_getD, List.getElem?_cons_succ, List.getElem?_cons_zero, Option.getD_some, factAt, and_true]
          refine ⟨?_, ?_, ?_, ?_, ?_, ?_, ?_, ?_⟩
          all_goals intro ρ wv hρ hR hd
          all_goals try simp only [Is] at hd
          · exact opOk_move (.inl rfl) ⟨by simp only [Is]; (first | exact hρ.2 0 rfl | exact hd | exact hd.1 | exact hd.2 | simp [hd]), GrR.refl _⟩
          · exact opOk_move (.inl rfl) ⟨by simp only [Is]; (first | exact hρ.2 2 rfl | exact hd | exact hd.1 | exact hd.2 | simp [hd]), GrR.refl _⟩
          · exact opOk_move (.inl rfl) ⟨by simp only [Is]; (first | exact hρ.2 0 rfl | exact hd | exact hd.1 | exact hd.2 | simp [hd]), GrR.refl _⟩
          · exact opOk_val (v := .pointer (some ⟨g, 0, none⟩)) (w' := wv) (by simp [execOp, go_sem, hρ.1.const, hρ.1.func, hd]) ⟨rfl, GrR.refl _⟩
          · exact opOk_val (v := .pointer (some ⟨g, 24, none⟩)) (w' := wv) (by simp [execOp, go_sem, hρ.1.const, hρ.1.func, hd]) ⟨rfl, GrR.refl _⟩
          · exact opOk_val (v := .pointer (some ⟨g, 25, none⟩)) (w' := wv) (by simp [execOp, go_sem, hρ.1.const, hρ.1.func, hd]) ⟨rfl, GrR.refl _⟩
          · (have h0 := cell?_of_below hR HCT.out; exact opOk_val (v := .int .u32 (a.gp : Int)) (w' := wv) (by simp [execOp, go_sem, hd, h0]) ⟨rfl, GrR.refl _⟩)
          · exact opOk_call hρ.1 rfl rfl Tryd.func39 (by kernel_rfl) rfl (by simp [hd, hρ.1.const, hρ.1.func]) ((plain_any 14 wv).mono fun e w' ⟨h1, h2⟩ => ⟨_, h1, ckO_mk (c := ⟨14, 0, []⟩) (Own.nil _ _ _), h2⟩)
        · intro vals wv hR hall
          have i0 := hall 0 (by omega)
          have i1 := hall 1 (by omega)
          have i6 := hall 6 (by omega)
          have i7 := hall 7 (by omega)
          simp only [factAt, Is, CkO, List.getD_eq_getElem?_getD, List.getElem?_cons_succ, List.getElem?_cons_zero, Option.getD_some] at i0 i1 i6 i7
          clear hall
          obtain ⟨pq, nq, kq, hq, hoq⟩ := i7
          simp only [List.take_succ_cons, List.take_zero, List.drop_succ_cons, List.drop_zero, fillFrom, Act.put, i0, i1, i6, hq, List.setIfInBounds_toArray, List.set_cons_zero, List.set_cons_succ, Nat.zero_add, Nat.reduceAdd]
          obtain ⟨w3, hw3⟩ : ∃ x, x = wv := ⟨_, rfl⟩
          subst hw3
          have HOQ := hid hoq
          have HAS3 := hid (HASY.out.mono hR)
          have HG3 := hid (gr_trans GY.out hR)
          have HEV3 := hid (HEVY.out.mono hR)
          have HNM3 := hid HNM.out
          clear hR i0 i1 i6 hq hoq
          go_wp2_with fail
          refine (say_any B _ g vr a HAS3.out path a.gp ⟨14, 0, []⟩ _ HOQ.out HL.out).mono ?_
          rintro e w4 ⟨rfl, hd4⟩
          have HEV4 := hid (show RowV w4 (w.heap.size + 1) 33 [.bool false, .bool false, .bool false, .int .u32 0, .int .u32 0, .int .u16 0, .int .u16 0, .int .u32 0, .slice none 0 0, .int .u32 0] from by
            obtain ⟨vr1, -, -, hc1⟩ := hd4
            exact HEV3.out.chg hc1 HNM3.out)
          have HD4 := hid (show DidA B w g vr _ w4 from Did.trans (fun _ h => .inl h) (Chg.of_gr HG3.out) hd4)
          clear hd4
          have y0 := HEV4.out.at 0 (by simp)
          have y1 := HEV4.out.at 1 (by simp)
          have y2 := HEV4.out.at 2 (by simp)
          have y3 := HEV4.out.at 3 (by simp)
          have y4 := HEV4.out.at 4 (by simp)
          have y5 := HEV4.out.at 5 (by simp)
          have y6 := HEV4.out.at 6 (by simp)
          have y7 := HEV4.out.at 7 (by simp)
          have y8 := HEV4.out.at 8 (by simp)
          have y9 := HEV4.out.at 9 (by simp)
          simp only [List.getElem_cons_succ, List.getElem_cons_zero] at y0 y1 y2 y3 y4 y5 y6 y7 y8 y9
          have f0 := HEV4.out.frozen 0
          have f1 := HEV4.out.frozen 1
          have f2 := HEV4.out.frozen 2
          have f3 := HEV4.out.frozen 3
          have f4 := HEV4.out.frozen 4
          have f5 := HEV4.out.frozen 5
          have f6 := HEV4.out.frozen 6
          have f7 := HEV4.out.frozen 7
          have f8 := HEV4.out.frozen 8
          have f9 := HEV4.out.frozen 9
          go_wp2_with fail
          have HEC := hid (show Chg (fun k => k = w.heap.size + 1) w4 _ from (((((((((((Chg.refl (fun k => k = w.heap.size + 1) w4).set ⟨(w.heap.size + 1), 0, none⟩ (.bool false) (.inl rfl)).set ⟨(w.heap.size + 1), 1, none⟩ (.bool false) (.inl rfl)).set ⟨(w.heap.size + 1), 2, none⟩ (.bool false) (.inl rfl)).set ⟨(w.heap.size + 1), 3, none⟩ (.int .u32 0) (.inl rfl)).set ⟨(w.heap.size + 1), 4, none⟩ (.int .u32 0) (.inl rfl)).set ⟨(w.heap.size + 1), 5, none⟩ (.int .u16 0) (.inl rfl)).set ⟨(w.heap.size + 1), 6, none⟩ (.int .u16 0) (.inl rfl)).set ⟨(w.heap.size + 1), 7, none⟩ (.int .u32 0) (.inl rfl)).set ⟨(w.heap.size + 1), 8, none⟩ (.slice none 0 0) (.inl rfl)).set ⟨(w.heap.size + 1), 9, none⟩ (.int .u32 0) (.inl rfl)))
          exact onShutAck_ret (.bool false) (.bool false) (.bool false) (.int .u32 0) (.int .u32 0) (.int .u16 0) (.int .u16 0) (.int .u32 0) (.slice none 0 0) (.int .u32 0) rfl rfl ((((((((((HEV4.out.store 0 (.bool false)).store 1 (.bool false)).store 2 (.bool false)).store 3 (.int .u32 0)).store 4 (.int .u32 0)).store 5 (.int .u16 0)).store 6 (.int .u16 0)).store 7 (.int .u32 0)).store 8 (.slice none 0 0)).store 9 (.int .u32 0)) ⟨by rw [HQ.out]; rfl, by rw [HQ.out]; exact (HD4.out).ev (Nat.le_succ _) HEV4.out (by decide) (by decide) (by decide) HEC.out⟩
    · have hb : (decide (a.st = 0) || (decide (a.st = 1) || false)) = false := by simp; omega
      rw [hb]
      have HQ := hid (show onShutAckD a path = (a, .none) by unfold onShutAckD; rw [if_neg HQ1.out, if_neg (by rintro ⟨h, -⟩; exact q2 h)])
      clear q2 hb
      have HEV4 := HEVY
      have y0 := HEV4.out.at 0 (by simp)
      have y1 := HEV4.out.at 1 (by simp)
      have y2 := HEV4.out.at 2 (by simp)
      have y3 := HEV4.out.at 3 (by simp)
      have y4 := HEV4.out.at 4 (by simp)
      have y5 := HEV4.out.at 5 (by simp)
      have y6 := HEV4.out.at 6 (by simp)
      have y7 := HEV4.out.at 7 (by simp)
      have y8 := HEV4.out.at 8 (by simp)
      have y9 := HEV4.out.at 9 (by simp)
      simp only [List.getElem_cons_succ, List.getElem_cons_zero] at y0 y1 y2 y3 y4 y5 y6 y7 y8 y9
      have f0 := HEV4.out.frozen 0
      have f1 := HEV4.out.frozen 1
      have f2 := HEV4.out.frozen 2
      have f3 := HEV4.out.frozen 3
      have f4 := HEV4.out.frozen 4
      have f5 := HEV4.out.frozen 5
      have f6 := HEV4.out.frozen 6
      have f7 := HEV4.out.frozen 7
      have f8 := HEV4.out.frozen 8
      have f9 := HEV4.out.frozen 9
      go_wp2_with fail
      have HEC := hid (show Chg (fun k => k = w.heap.size + 1) W2 _ from (((((((((((Chg.refl (fun k => k = w.heap.size + 1) W2).set ⟨(w.heap.size + 1), 0, none⟩ (.bool false) (.inl rfl)).set ⟨(w.heap.size + 1), 1, none⟩ (.bool false) (.inl rfl)).set ⟨(w.heap.size + 1), 2, none⟩ (.bool false) (.inl rfl)).set ⟨(w.heap.size + 1), 3, none⟩ (.int .u32 0) (.inl rfl)).set ⟨(w.heap.size + 1), 4, none⟩ (.int .u32 0) (.inl rfl)).set ⟨(w.heap.size + 1), 5, none⟩ (.int .u16 0) (.inl rfl)).set ⟨(w.heap.size + 1), 6, none⟩ (.int .u16 0) (.inl rfl)).set ⟨(w.heap.size + 1), 7, none⟩ (.int .u32 0) (.inl rfl)).set ⟨(w.heap.size + 1), 8, none⟩ (.slice none 0 0) (.inl rfl)).set ⟨(w.heap.size + 1), 9, none⟩ (.int .u32 0) (.inl rfl)))
      exact onShutAck_ret (.bool false) (.bool false) (.bool false) (.int .u32 0) (.int .u32 0) (.int .u16 0) (.int .u16 0) (.int .u32 0) (.slice none 0 0) (.int .u32 0) rfl rfl ((((((((((HEV4.out.store 0 (.bool false)).store 1 (.bool false)).store 2 (.bool false)).store 3 (.int .u32 0)).store 4 (.int .u32 0)).store 5 (.int .u16 0)).store 6 (.int .u16 0)).store 7 (.int .u32 0)).store 8 (.slice none 0 0)).store 9 (.int .u32 0)) ⟨by rw [HQ.out]; rfl, by rw [HQ.out]; exact ((show DidA B w g vr a W2 from ⟨vr, HASY.out, fun _ h => .inl h, Chg.of_gr GY.out⟩)).ev (Nat.le_succ _) HEV4.out (by decide) (by decide) (by decide) HEC.out⟩
end Go.Proofs.YtiimlanbbfhkjaaDoor

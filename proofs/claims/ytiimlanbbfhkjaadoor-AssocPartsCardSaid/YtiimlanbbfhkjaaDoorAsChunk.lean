/- Chunk: what answers its kind answers. Conditions: the association lies as it should. -/
import Derived.Test.YtiimlanbbfhkjaaDoorAsInit
set_option linter.unusedSimpArgs false
set_option linter.unusedVariables false


namespace Go.FL

theorem whoF_cases (k : UInt8) : whoF k = 50 ∨ whoF k = 51 ∨ whoF k = 52 ∨ whoF k = 53 ∨ whoF k = 54 ∨ whoF k = 55 ∨ whoF k = 56 ∨ whoF k = 57 ∨ whoF k = 58 ∨ whoF k = 59 := by
  unfold whoF
  repeat' split
  all_goals simp
end Go.FL

namespace Go.Proofs.YtiimlanbbfhkjaaDoor

open Go.RowKit Go.FL Go.ChangeShapes

theorem chunk_ret {a : Act} {W : World} {g : Nat} {R : Ending → World → Prop} (v0 v1 v2 v3 v4 v5 v6 v7 v8 v9 : Value) (h2 : a.tmps.getD 8 undef = .pointer (some ⟨g, 0, none⟩)) (hd : a.defers = [])
    (hc : RowV W g 33 [v0, v1, v2, v3, v4, v5, v6, v7, v8, v9]) (hR : R (.returned (.agg #[v0, v1, v2, v3, v4, v5, v6, v7, v8, v9])) W) : bodyPost Tryd.prog Tryd.f27 R .ret a W := by
  refine bodyPost_ret (v := .agg #[v0, v1, v2, v3, v4, v5, v6, v7, v8, v9]) ?_ hd hR
  have c0 := hc.at 0 (by simp)
  have c1 := hc.at 1 (by simp)
  have c2 := hc.at 2 (by simp)
  have c3 := hc.at 3 (by simp)
  have c4 := hc.at 4 (by simp)
  have c5 := hc.at 5 (by simp)
  have c6 := hc.at 6 (by simp)
  have c7 := hc.at 7 (by simp)
  have c8 := hc.at 8 (by simp)
  have c9 := hc.at 9 (by simp)
  simp only [List.getElem_cons_succ, List.getElem_cons_zero] at c0 c1 c2 c3 c4 c5 c6 c7 c8 c9
  simp only [Array.getD_eq_getD_getElem?] at h2
  simp [results, Tryd.results27, go_sem, h2, asAddr, c0, c1, c2, c3, c4, c5, c6, c7, c8, c9]
set_option maxRecDepth 100000 in
set_option maxHeartbeats 4000000 in
theorem chunk_any (B : Nat) (w : World) (g : Nat) (vr : Value) (a : AsD) (h : As B w g vr a) (now : Int) (path : Nat) (c : Chk) (s : Value) (hs : Own w B 5 s c.b) (ev : EvD) (a' : AsD)
    (H : ∀ w', Below w.heap.size w w' → As B w' g vr a → Own w' B 5 s c.b → Calls Tryd.prog (whoF c.k) #[.pointer (some ⟨g, 0, none⟩), .int .i64 now, .int .i64 (path : Int), .agg #[.int .u8 (c.k.toNat : Int), .int .u8 (c.f.toNat : Int), s]] w' fun e w'' => e = .returned ev.val ∧ DidA B w' g vr a' w'') :
    Calls Tryd.prog 27 #[.pointer (some ⟨g, 0, none⟩), .int .i64 now, .int .i64 (path : Int), .agg #[.int .u8 (c.k.toNat : Int), .int .u8 (c.f.toNat : Int), s]] w fun e w' => e = .returned ev.val ∧ DidA B w g vr a' w' := by
  have HH := hid H
  clear H
  obtain ⟨ps, nb, cps, rfl⟩ : ∃ p n c, s = Value.slice p n c := by
    obtain ⟨p9, c9, hsf, -⟩ := hs.rd
    exact ⟨_, _, _, hsf⟩
  obtain ⟨W0, hW0⟩ : ∃ W, W = w.alloc (.cells #[.int .u8 (c.k.toNat : Int), .int .u8 (c.f.toNat : Int), .slice ps nb cps] 47 (0, 0)) := ⟨_, rfl⟩
  have hs0 : W0.heap.size = w.heap.size + 1 := by rw [hW0]; simp
  obtain ⟨W, hW⟩ : ∃ W, W = W0.alloc (.cells #[.bool false, .bool false, .bool false, .int .u32 0, .int .u32 0, .int .u16 0, .int .u16 0, .int .u32 0, .slice none 0 0, .int .u32 0] 33 (0, 0)) := ⟨_, rfl⟩
  have HCH := hid (show RowV W w.heap.size 47 [.int .u8 (c.k.toNat : Int), .int .u8 (c.f.toNat : Int), .slice ps nb cps] by rw [hW, hW0]; exact (RowV.new w _ _).alloc _)
  have HEV := hid (show RowV W (w.heap.size + 1) 33 [.bool false, .bool false, .bool false, .int .u32 0, .int .u32 0, .int .u16 0, .int .u16 0, .int .u32 0, .slice none 0 0, .int .u32 0] by rw [hW, ← hs0]; exact RowV.new W0 _ _)
  have G0 := hid (show Below w.heap.size w W by rw [hW, hW0]; exact ((Below.refl _ _).alloc (Nat.le_refl _) _).alloc (by simp) _)
  have HAS := hid (AsAt.mono h G0.out)
  have HBS := hid (hs.mono G0.out)
  have HNM := hid (show ¬ Mine g vr (w.heap.size + 1) from mine_not HAS.out HEV.out (by decide) (by decide))
  obtain ⟨vk, vp, vs, hr, -⟩ := id HAS.out
  have HA := hid hr
  rw [hW0] at hW
  have HE := hid hW
  clear h hs hr hs0 hW0 W0
  have HKC := hid (HCH.out.at 0 (by simp))
  simp only [List.getElem_cons_succ, List.getElem_cons_zero] at HKC
  clear hW
  go_enter Tryd.func27, Tryd.ntmps27
  go_upto_region 3 with fail
  rw [← HE.out]
  refine wp_region_tail 7 [Is (.pointer (some ⟨w.heap.size, 0, none⟩)), Is (.int .u8 (c.k.toNat : Int)), Is (.func (.func (whoF c.k)) #[] #[]), Is (.pointer (some ⟨g, 0, none⟩)), Is (.int .i64 now), Is (.int .i64 (path : Int)), Is (.agg ([.int .u8 (c.k.toNat : Int), .int .u8 (c.f.toNat : Int), .slice ps nb cps]).toArray)] (by kernel_rfl) (by kernel_rfl) (by kernel_rfl) (by kernel_rfl) (by kernel_rfl) (by kernel_rfl) ?_ ?_ ?_
  · simp only [StabAll, Is.gr, RdF.gr, OwnF.gr, AnyF.gr, and_self]
  · try (rename_i Kk hKk; clear hKk Kk)
    simp only [List.take_succ_cons, List.take_zero, AllOps, List.map_cons, List.map_nil, depsOf, List.filterMap_cons, List.filterMap_nil, Region.binds, depFacts, guardF, reduceIte, List.getD_eq_getElem?_getD, List.getElem?_cons_succ, List.getElem?_cons_zero, Option.getD_some, factAt, and_true]
    refine ⟨?_, ?_, ?_, ?_, ?_, ?_, ?_⟩
    all_goals intro ρ wv hρ hR hd
    all_goals try simp only [Is] at hd
    · exact opOk_val (v := .pointer (some ⟨w.heap.size, 0, none⟩)) (w' := wv) (by simp [execOp, go_sem, hρ.1.const, hρ.1.func, hd, (hρ.2 7 rfl)]) ⟨rfl, GrR.refl _⟩
    · (have h0 := cell?_of_below hR HKC.out; exact opOk_val (v := .int .u8 (c.k.toNat : Int)) (w' := wv) (by simp [execOp, go_sem, hd, h0]) ⟨rfl, GrR.refl _⟩)
    · exact opOk_call hρ.1 rfl rfl Tryd.func40 (by kernel_rfl) rfl (by simp [hd, hρ.1.const, hρ.1.func]) ((who_any c.k wv).mono fun e w' ⟨h1, h2⟩ => ⟨_, h1, rfl, h2 ▸ GrR.refl _⟩)
    · exact opOk_move (.inl rfl) ⟨by simp only [Is]; (first | exact hρ.2 0 rfl | exact hd | exact hd.1 | exact hd.2 | simp [hd]), GrR.refl _⟩
    · exact opOk_move (.inl rfl) ⟨by simp only [Is]; (first | exact hρ.2 1 rfl | exact hd | exact hd.1 | exact hd.2 | simp [hd]), GrR.refl _⟩
    · exact opOk_move (.inl rfl) ⟨by simp only [Is]; (first | exact hρ.2 2 rfl | exact hd | exact hd.1 | exact hd.2 | simp [hd]), GrR.refl _⟩
    · exact opOk_loadRow rfl (w.heap.size) (by first | exact hρ.2 _ rfl | simp [hd]) _ ([.int .u8 (c.k.toNat : Int), .int .u8 (c.f.toNat : Int), .slice ps nb cps]) _ (HCH.out.mono hR) Tryd.underlying47 rfl (by kernel_rfl) ⟨rfl, GrR.refl _⟩
  · intro vals wv hR hall
    have i2 := hall 2 (by omega)
    have i3 := hall 3 (by omega)
    have i4 := hall 4 (by omega)
    have i5 := hall 5 (by omega)
    have i6 := hall 6 (by omega)
    simp only [factAt, Is, List.getD_eq_getElem?_getD, List.getElem?_cons_succ, List.getElem?_cons_zero, Option.getD_some] at i2 i3 i4 i5 i6
    clear hall
    simp only [List.take_succ_cons, List.take_zero, List.drop_succ_cons, List.drop_zero, fillFrom, Act.put, i2, i3, i4, i5, i6, List.setIfInBounds_toArray, List.set_cons_zero, List.set_cons_succ, Nat.zero_add, Nat.reduceAdd]
    obtain ⟨w3, hw3⟩ : ∃ x, x = wv := ⟨_, rfl⟩
    subst hw3
    have G3 := hid (gr_trans G0.out hR)
    have HAS3 := hid (HAS.out.mono hR)
    have HBS3 := hid (HBS.out.mono hR)
    have HEV3 := hid (HEV.out.mono hR)
    clear hR i2 i3 i4 i5 i6
    rcases whoF_cases c.k with q | q | q | q | q | q | q | q | q | q
    all_goals
      rw [q] at HH ⊢
      go_wp2_with fail
      refine (HH.out w3 G3.out HAS3.out HBS3.out).mono ?_
      rintro e w4 ⟨rfl, hd4⟩
      have HEV4 := hid (show RowV w4 (w.heap.size + 1) 33 [.bool false, .bool false, .bool false, .int .u32 0, .int .u32 0, .int .u16 0, .int .u16 0, .int .u32 0, .slice none 0 0, .int .u32 0] from by
        obtain ⟨vr1, -, -, hc1⟩ := hd4
        exact HEV3.out.chg hc1 HNM.out)
      have HD4 := hid (show DidA B w g vr a' w4 from Did.trans (fun _ h => .inl h) (Chg.of_gr G3.out) hd4)
      clear hd4
      rw [show ev.val = .agg #[.bool ev.began, .bool ev.ended, .bool ev.clean, .int .u32 (ev.peer.tag : Int), .int .u32 (ev.peer.rwnd : Int), .int .u16 (ev.peer.out : Int), .int .u16 (ev.peer.in_ : Int), .int .u32 (ev.peer.tsn : Int), .slice none 0 0, .int .u32 (ev.tsn : Int)] from rfl]
      have y0 := HEV4.out.at 0 (by simp)
      have y1 := HEV4.out.at 1 (by simp)
      have y2 := HEV4.out.at 2 (by simp)
      have y3 := HEV4.out.at 3 (by simp)
      have y4 := HEV4.out.at 4 (by simp)
      have y5 := HEV4.out.at 5 (by simp)
      have y6 := HEV4.out.at 6 (by simp)
      have y7 := HEV4.out.at 7 (by simp)
      have y8 := HEV4.out.at 8 (by simp)
      have y9 := HEV4.out.at 9 (by simp)
      simp only [List.getElem_cons_succ, List.getElem_cons_zero] at y0 y1 y2 y3 y4 y5 y6 y7 y8 y9
      have f0 := HEV4.out.frozen 0
      have f1 := HEV4.out.frozen 1
      have f2 := HEV4.out.frozen 2
      have f3 := HEV4.out.frozen 3
      have f4 := HEV4.out.frozen 4
      have f5 := HEV4.out.frozen 5
      have f6 := HEV4.out.frozen 6
      have f7 := HEV4.out.frozen 7
      have f8 := HEV4.out.frozen 8
      have f9 := HEV4.out.frozen 9
      go_wp2_with fail
      have HEC := hid (show Chg (fun k => k = w.heap.size + 1) w4 _ from (((((((((((Chg.refl (fun k => k = w.heap.size + 1) w4).set ⟨(w.heap.size + 1), 0, none⟩ (.bool ev.began) (.inl rfl)).set ⟨(w.heap.size + 1), 1, none⟩ (.bool ev.ended) (.inl rfl)).set ⟨(w.heap.size + 1), 2, none⟩ (.bool ev.clean) (.inl rfl)).set ⟨(w.heap.size + 1), 3, none⟩ (.int .u32 (ev.peer.tag : Int)) (.inl rfl)).set ⟨(w.heap.size + 1), 4, none⟩ (.int .u32 (ev.peer.rwnd : Int)) (.inl rfl)).set ⟨(w.heap.size + 1), 5, none⟩ (.int .u16 (ev.peer.out : Int)) (.inl rfl)).set ⟨(w.heap.size + 1), 6, none⟩ (.int .u16 (ev.peer.in_ : Int)) (.inl rfl)).set ⟨(w.heap.size + 1), 7, none⟩ (.int .u32 (ev.peer.tsn : Int)) (.inl rfl)).set ⟨(w.heap.size + 1), 8, none⟩ (.slice none 0 0) (.inl rfl)).set ⟨(w.heap.size + 1), 9, none⟩ (.int .u32 (ev.tsn : Int)) (.inl rfl)))
      exact chunk_ret (.bool ev.began) (.bool ev.ended) (.bool ev.clean) (.int .u32 (ev.peer.tag : Int)) (.int .u32 (ev.peer.rwnd : Int)) (.int .u16 (ev.peer.out : Int)) (.int .u16 (ev.peer.in_ : Int)) (.int .u32 (ev.peer.tsn : Int)) (.slice none 0 0) (.int .u32 (ev.tsn : Int)) rfl rfl ((((((((((HEV4.out.store 0 (.bool ev.began)).store 1 (.bool ev.ended)).store 2 (.bool ev.clean)).store 3 (.int .u32 (ev.peer.tag : Int))).store 4 (.int .u32 (ev.peer.rwnd : Int))).store 5 (.int .u16 (ev.peer.out : Int))).store 6 (.int .u16 (ev.peer.in_ : Int))).store 7 (.int .u32 (ev.peer.tsn : Int))).store 8 (.slice none 0 0)).store 9 (.int .u32 (ev.tsn : Int))) ⟨rfl, HD4.out.ev (Nat.le_succ _) HEV4.out (by decide) (by decide) (by decide) HEC.out⟩
end Go.Proofs.YtiimlanbbfhkjaaDoor

/- run, words, ends, gives, dial, begins. Conditions: the association lies as it should. -/
import Derived.Test.YtiimlanbbfhkjaaDoorAsSay
set_option linter.unusedSimpArgs false
set_option linter.unusedVariables false


namespace Go.FL

open Go.RowKit

/-- Behind run. -/
def runD (a : AsD) (now : Int) (tag : Nat) (c : Chk) (st : Nat) : AsD := { a with row := a.row ++ [⟨0, tag, c⟩], said := ⟨0, tag, c⟩, wait := 3, often := 0, st := st, timer := now + 3 }
theorem outs_g {eO eB B e g : Nat} {w w' : World} {v : Value} {l : List OutD} {m : List Value} (h : OutsAt eO eB B w v l) (hr : RowV w g e m) (hO : e ≠ eO) (hB : e ≠ eB) (hc : Chg (fun k => k = g) w w') : OutsAt eO eB B w' v l := by
  refine h.chg hc (fun k l' hk hl' => by subst hk; exact hB (rowV_fun hr hl').1) (fun k hk e1 => ?_)
  obtain ⟨ss, -, h2, -⟩ := h
  obtain ⟨l', hl'⟩ := h2.rowV k hk
  subst e1
  exact hO (rowV_fun hr hl').1
end Go.FL

namespace Go.Proofs.YtiimlanbbfhkjaaDoor

open Go.RowKit Go.FL Go.ChangeShapes

theorem aswords_ret {a : Act} {W : World} {g : Nat} {R : Ending → World → Prop} (v0 v1 v2 v3 v4 v5 : Value) (h2 : a.tmps.getD 6 undef = .pointer (some ⟨g, 0, none⟩)) (hd : a.defers = [])
    (hc : RowV W g 31 [v0, v1, v2, v3, v4, v5]) (hR : R (.returned (.agg #[v0, v1, v2, v3, v4, v5])) W) : bodyPost Tryd.prog Tryd.f42 R .ret a W := by
  refine bodyPost_ret (v := .agg #[v0, v1, v2, v3, v4, v5]) ?_ hd hR
  have c0 := hc.at 0 (by simp)
  have c1 := hc.at 1 (by simp)
  have c2 := hc.at 2 (by simp)
  have c3 := hc.at 3 (by simp)
  have c4 := hc.at 4 (by simp)
  have c5 := hc.at 5 (by simp)
  simp only [List.getElem_cons_succ, List.getElem_cons_zero] at c0 c1 c2 c3 c4 c5
  simp only [Array.getD_eq_getD_getElem?] at h2
  simp [results, Tryd.results42, go_sem, h2, asAddr, c0, c1, c2, c3, c4, c5]
set_option maxRecDepth 20000 in
theorem aswords_any (B : Nat) (w : World) (g : Nat) (vr : Value) (a : AsD) (h : As B w g vr a) (tag tsn : Nat) :
    Calls Tryd.prog 42 #[.pointer (some ⟨g, 0, none⟩), .int .u32 (tag : Int), .int .u32 (tsn : Int)] w fun e w' => e = .returned (.agg #[.int .u32 (tag : Int), .int .u32 65536, .int .u16 2, .int .u16 2, .int .u32 (tsn : Int), .slice none 0 0]) ∧ Below w.heap.size w w' := by
  obtain ⟨vk, vp, vs, hr, -⟩ := h
  obtain ⟨W, hW⟩ : ∃ W, W = w.alloc (.cells #[.int .u32 0, .int .u32 0, .int .u16 0, .int .u16 0, .int .u32 0, .slice none 0 0] 31 (0, 0)) := ⟨_, rfl⟩
  have G := hid (show Below w.heap.size w W by rw [hW]; exact (Below.refl _ _).alloc (Nat.le_refl _) _)
  have hrW := hr.mono G.out
  have c2 := hrW.at 2 (by simp [AsD.cells])
  have c4 := hrW.at 4 (by simp [AsD.cells])
  simp only [AsD.cells, List.getElem_cons_succ, List.getElem_cons_zero] at c2 c4
  rw [hW] at c2 c4
  clear hr hrW G hW W
  have e1 : IntKind.u16.wrap (2 : Int) = 2 := by decide
  have e2 : IntKind.u32.wrap (65536 : Int) = 65536 := by decide
  go_enter Tryd.func42, Tryd.ntmps42
  go_wp2_with fail
  exact aswords_ret _ _ _ _ _ _ rfl rfl (RowV.new w _ _) ⟨rfl, (Below.refl _ _).alloc (Nat.le_refl _) _⟩

set_option maxRecDepth 100000 in
set_option maxHeartbeats 8000000 in
theorem run_any (B : Nat) (w : World) (g : Nat) (vr : Value) (a : AsD) (h : As B w g vr a) (now : Int) (hnow : 0 ≤ now ∧ now ≤ 2305843009213693952) (tag : Nat) (c : Chk) (s : Value) (hs : Own w B 5 s c.b) (st : Nat) (hst : st < 256) (hl : a.row.length ≤ 1000000) :
    Calls Tryd.prog 37 #[.pointer (some ⟨g, 0, none⟩), .int .i64 now, .int .u32 (tag : Int), .agg #[.int .u8 (c.k.toNat : Int), .int .u8 (c.f.toNat : Int), s], .int .u8 (st : Int)] w fun e w' => e = .returned (.tuple #[]) ∧ DidA B w g vr (runD a now tag c st) w' := by
  obtain ⟨p9, n9, c9, rfl⟩ : ∃ p n c, s = Value.slice p n c := by
    obtain ⟨p9, c9, hsf, -⟩ := hs.rd
    exact ⟨_, _, _, hsf⟩
  have HNOW := hid hnow
  have HW3 := hid (show IntKind.i64.wrap (now + 3) = now + 3 by rw [IntKind.wrap_i64]; omega)
  obtain ⟨W, hW⟩ : ∃ W, W = w.alloc (.cells #[.int .u8 (c.k.toNat : Int), .int .u8 (c.f.toNat : Int), .slice p9 n9 c9] 47 (0, 0)) := ⟨_, rfl⟩
  have HCB := hid (show RowV W w.heap.size 47 [.int .u8 (c.k.toNat : Int), .int .u8 (c.f.toNat : Int), .slice p9 n9 c9] by rw [hW]; exact RowV.new w _ _)
  have G0 := hid (show Below w.heap.size w W by rw [hW]; exact (Below.refl _ _).alloc (Nat.le_refl _) _)
  have HA := hid (h.mono G0.out)
  have HS := hid (hs.mono G0.out)
  have HL := hid hl
  have k0 := HCB.out.at 0 (by simp)
  have k1 := HCB.out.at 1 (by simp)
  have k2 := HCB.out.at 2 (by simp)
  simp only [List.getElem_cons_succ, List.getElem_cons_zero] at k0 k1 k2
  rw [hW] at k0 k1 k2
  have HE := hid hW
  clear h hs hW hl hnow
  go_enter Tryd.func37, Tryd.ntmps37
  go_wp2_with fail
  rw [← HE.out]
  clear k0 k1 k2
  refine (say_any B _ g vr a HA.out 0 tag c _ HS.out HL.out).mono ?_
  rintro e w1 ⟨rfl, vr1, has1, hrt1, hch1⟩
  have HNB := hid (As.noB HA.out)
  have HCB1 := hid (HCB.out.chg hch1 (by
    obtain ⟨x1, x2, x3, x4, -, -, -, ⟨ss, -, x5, -⟩, -⟩ := HA.out
    rintro (e | e)
    · exact rowV_ne HCB.out x4 (by decide) e
    · obtain ⟨l', hl'⟩ := x5.rowV _ e
      exact rowV_ne HCB.out hl' (by decide) rfl))
  have HS2 := hid (HS.out.chg hch1 (HS.out.free HNB.out))
  have HC1 := hid ((Chg.of_gr G0.out).then hch1 (fun i _ h => h) : Chg (Mine g vr) w w1)
  have HR1 := hid (show RowTo w vr vr1 from fun k hk => (hrt1 k hk).imp id (fun h => Nat.le_trans G0.out.size h))
  obtain ⟨vk, vp, vs, hr, hB, hk, hp, ho, hsd⟩ := has1
  obtain ⟨a1, ha1⟩ : ∃ x : AsD, x = { a with row := a.row ++ [⟨0, tag, c⟩] } := ⟨_, rfl⟩
  have hr : RowV w1 g 77 (a1.cells vk vp vr1 vs) := by rw [ha1]; exact hr
  have HAR := hid hr
  have HO := hid ho
  have HK := hid hk
  have HP := hid hp
  have HB := hid hB
  have HNC := hid (show ¬ w.heap.size = g from rowV_ne HCB1.out hr (by decide))
  obtain ⟨des, hdes⟩ : ∃ l, l = ((((((((a1.cells vk vp vr1 vs).set 28 (.int .i64 0)).set 29 (.int .u32 (tag : Int))).set 30 (.int .u8 (c.k.toNat : Int))).set 31 (.int .u8 (c.f.toNat : Int))).set 32 (.slice p9 n9 c9)).set 33 (.int .i64 3)).set 34 (.int .i64 0)).set 15 (.int .u8 (st : Int)) := ⟨_, rfl⟩
  have HDES := hid hdes
  have HA1 := hid ha1
  clear hch1 hrt1 hr ho hk hp hB hsd hdes ha1
  go_wp2_with fail
  refine wp_region_gB (g) (PhiS [28, 29, 30, 31, 32, 33, 34, 15] des) [Is (.pointer (some ⟨g, 0, none⟩)), Is (.pointer (some ⟨g, 0, none⟩)), Is (.pointer (some ⟨g, 0, none⟩)), Is (.pointer (some ⟨g, 0, none⟩)), Is (.int .u32 (tag : Int)), Is (.agg ([.int .u8 (c.k.toNat : Int), .int .u8 (c.f.toNat : Int), .slice p9 n9 c9]).toArray), Is (.agg #[.int .i64 0, .int .u32 (tag : Int), .int .u8 (c.k.toNat : Int), .int .u8 (c.f.toNat : Int), .slice p9 n9 c9]), Is (.pointer (some ⟨g, 0, none⟩)), Is (.pointer (some ⟨g, 0, none⟩)), Is (.pointer (some ⟨g, 0, none⟩)), Is (.pointer (some ⟨g, 6, none⟩)), Is (.int .i64 3), Is (.int .u8 (st : Int)), Is (.pointer (some ⟨g, 0, none⟩)), Is (.pointer (some ⟨g, 28, none⟩)), StoF g [28, 29, 30, 31, 32] des, Is (.pointer (some ⟨g, 0, none⟩)), Is (.pointer (some ⟨g, 33, none⟩)), StoF g [33] des, Is (.pointer (some ⟨g, 0, none⟩)), Is (.pointer (some ⟨g, 34, none⟩)), StoF g [34] des, Is (.pointer (some ⟨g, 0, none⟩)), Is (.pointer (some ⟨g, 15, none⟩)), StoF g [15] des] (by kernel_rfl) (by kernel_rfl) (by kernel_rfl) ?_ ?_ ?_
  · simp only [StabAll, Is.gB, AnyF.gB, StoF.gB, and_self]
  · try (rename_i Kk hKk; clear hKk Kk)
    simp only [AllOps, List.map_cons, List.map_nil, depsOf, List.filterMap_cons, List.filterMap_nil, Region.binds, depFacts, guardF, reduceIte, List.getD_eq_getElem?_getD, List.getElem?_cons_succ, List.getElem?_cons_zero, Option.getD_some, factAt, and_true]
    refine ⟨?_, ?_, ?_, ?_, ?_, ?_, ?_, ?_, ?_, ?_, ?_, ?_, ?_, ?_, ?_, ?_, ?_, ?_, ?_, ?_, ?_, ?_, ?_, ?_, ?_⟩
    all_goals intro ρ wv hρ hR hd
    all_goals try simp only [Is] at hd
    · exact opOk_move (.inl rfl) ⟨by simp only [Is]; (first | exact hρ.2 0 rfl | exact hd | exact hd.1 | exact hd.2 | simp [hd]), GrB.refl _ _ _⟩
    · exact opOk_move (.inl rfl) ⟨by simp only [Is]; (first | exact hρ.2 0 rfl | exact hd | exact hd.1 | exact hd.2 | simp [hd]), GrB.refl _ _ _⟩
    · exact opOk_move (.inl rfl) ⟨by simp only [Is]; (first | exact hρ.2 0 rfl | exact hd | exact hd.1 | exact hd.2 | simp [hd]), GrB.refl _ _ _⟩
    · exact opOk_move (.inl rfl) ⟨by simp only [Is]; (first | exact hρ.2 0 rfl | exact hd | exact hd.1 | exact hd.2 | simp [hd]), GrB.refl _ _ _⟩
    · exact opOk_move (.inl rfl) ⟨by simp only [Is]; (first | exact hρ.2 2 rfl | exact hd | exact hd.1 | exact hd.2 | simp [hd]), GrB.refl _ _ _⟩
    · exact opOk_loadRow rfl (w.heap.size) (by first | exact hρ.2 _ rfl | simp [hd]) _ ([.int .u8 (c.k.toNat : Int), .int .u8 (c.f.toNat : Int), .slice p9 n9 c9]) _ ((HCB1.out.chg hR.chg HNC.out)) Tryd.underlying47 rfl (by kernel_rfl) ⟨rfl, GrB.refl _ _ _⟩
    · exact opOk_val (v := .agg #[.int .i64 0, .int .u32 (tag : Int), .int .u8 (c.k.toNat : Int), .int .u8 (c.f.toNat : Int), .slice p9 n9 c9]) (w' := wv) (by simp [execOp, go_sem, hρ.1.const, hρ.1.func, hd]) ⟨rfl, GrB.refl _ _ _⟩
    · exact opOk_move (.inl rfl) ⟨by simp only [Is]; (first | exact hρ.2 0 rfl | exact hd | exact hd.1 | exact hd.2 | simp [hd]), GrB.refl _ _ _⟩
    · exact opOk_val (v := .pointer (some ⟨g, 0, none⟩)) (w' := wv) (by simp [execOp, go_sem, hρ.1.const, hρ.1.func, hd]) ⟨rfl, GrB.refl _ _ _⟩
    · exact opOk_val (v := .pointer (some ⟨g, 0, none⟩)) (w' := wv) (by simp [execOp, go_sem, hρ.1.const, hρ.1.func, hd]) ⟨rfl, GrB.refl _ _ _⟩
    · exact opOk_val (v := .pointer (some ⟨g, 6, none⟩)) (w' := wv) (by simp [execOp, go_sem, hρ.1.const, hρ.1.func, hd]) ⟨rfl, GrB.refl _ _ _⟩
    · (have h0 := hR.keep HAR.out (i := 6) (v := .int .i64 3) rfl (fun u hu => absurd hu.1 (by decide)); exact opOk_val (v := .int .i64 3) (w' := wv) (by simp [execOp, go_sem, hd, h0]) ⟨rfl, GrB.refl _ _ _⟩)
    · exact opOk_move (.inl rfl) ⟨by simp only [Is]; (first | exact hρ.2 4 rfl | exact hd | exact hd.1 | exact hd.2 | simp [hd]), GrB.refl _ _ _⟩
    · exact opOk_val (v := .pointer (some ⟨g, 0, none⟩)) (w' := wv) (by simp [execOp, go_sem, hρ.1.const, hρ.1.func, hd]) ⟨rfl, GrB.refl _ _ _⟩
    · exact opOk_val (v := .pointer (some ⟨g, 28, none⟩)) (w' := wv) (by simp [execOp, go_sem, hρ.1.const, hρ.1.func, hd]) ⟨rfl, GrB.refl _ _ _⟩
    · (obtain ⟨l9, r9, nl9, -⟩ := hR.shape _ _ HAR.out; have hl9 : l9.length = 35 := nl9.trans rfl; have hdes := HDES.out; have hac : (a1.cells vk vp vr1 vs).length = 35 := rfl; have i28 := r9.at 28 (by omega); have y28 := r9.frozen 28; have i29 := r9.at 29 (by omega); have y29 := r9.frozen 29; have i30 := r9.at 30 (by omega); have y30 := r9.frozen 30; have i31 := r9.at 31 (by omega); have y31 := r9.frozen 31; have i32 := r9.at 32 (by omega); have y32 := r9.frozen 32; exact opOk_skipS (w' := (((((wv.setCell ⟨g, 28, none⟩ (.int .i64 0)).setCell ⟨g, 29, none⟩ (.int .u32 (tag : Int))).setCell ⟨g, 30, none⟩ (.int .u8 (c.k.toNat : Int))).setCell ⟨g, 31, none⟩ (.int .u8 (c.f.toNat : Int))).setCell ⟨g, 32, none⟩ (.slice p9 n9 c9))) (by simp [execOp, go_sem, hd, hρ.1.const, i28, y28, i29, y29, i30, y30, i31, y31, i32, y32]) ⟨⟨_, (((((l9.set 28 (.int .i64 0)).set 29 (.int .u32 (tag : Int))).set 30 (.int .u8 (c.k.toNat : Int))).set 31 (.int .u8 (c.f.toNat : Int))).set 32 (.slice p9 n9 c9)), RowV.store (RowV.store (RowV.store (RowV.store (RowV.store (r9) 28 _) 29 _) 30 _) 31 _) 32 _, fun i hi => by rw [hdes]; simp only [List.mem_cons, List.not_mem_nil, or_false] at hi; rcases hi with rfl | rfl | rfl | rfl | rfl <;> simp [List.getElem?_set, hl9, hac]⟩, (GrB.trans (GrB.trans (GrB.trans (GrB.trans (GrB.set (g := g) (Φ := PhiS [28, 29, 30, 31, 32, 33, 34, 15] des) (i := 28) ⟨by decide, by rw [hdes]; rfl⟩) (GrB.set (g := g) (Φ := PhiS [28, 29, 30, 31, 32, 33, 34, 15] des) (i := 29) ⟨by decide, by rw [hdes]; rfl⟩)) (GrB.set (g := g) (Φ := PhiS [28, 29, 30, 31, 32, 33, 34, 15] des) (i := 30) ⟨by decide, by rw [hdes]; rfl⟩)) (GrB.set (g := g) (Φ := PhiS [28, 29, 30, 31, 32, 33, 34, 15] des) (i := 31) ⟨by decide, by rw [hdes]; rfl⟩)) (GrB.set (g := g) (Φ := PhiS [28, 29, 30, 31, 32, 33, 34, 15] des) (i := 32) ⟨by decide, by rw [hdes]; rfl⟩))⟩)
    · exact opOk_val (v := .pointer (some ⟨g, 0, none⟩)) (w' := wv) (by simp [execOp, go_sem, hρ.1.const, hρ.1.func, hd]) ⟨rfl, GrB.refl _ _ _⟩
    · exact opOk_val (v := .pointer (some ⟨g, 33, none⟩)) (w' := wv) (by simp [execOp, go_sem, hρ.1.const, hρ.1.func, hd]) ⟨rfl, GrB.refl _ _ _⟩
    · (obtain ⟨l9, r9, nl9, -⟩ := hR.shape _ _ HAR.out; have hl9 : l9.length = 35 := nl9.trans rfl; have hdes := HDES.out; have hac : (a1.cells vk vp vr1 vs).length = 35 := rfl; have i33 := r9.at 33 (by omega); have y33 := r9.frozen 33; exact opOk_skipS (w' := (wv.setCell ⟨g, 33, none⟩ (.int .i64 3))) (by simp [execOp, go_sem, hd, hρ.1.const, i33, y33]) ⟨⟨_, (l9.set 33 (.int .i64 3)), RowV.store (r9) 33 _, fun i hi => by rw [hdes]; simp only [List.mem_cons, List.not_mem_nil, or_false] at hi; subst hi; simp [List.getElem?_set, hl9, hac]⟩, (GrB.set (g := g) (Φ := PhiS [28, 29, 30, 31, 32, 33, 34, 15] des) (i := 33) ⟨by decide, by rw [hdes]; rfl⟩)⟩)
    · exact opOk_val (v := .pointer (some ⟨g, 0, none⟩)) (w' := wv) (by simp [execOp, go_sem, hρ.1.const, hρ.1.func, hd]) ⟨rfl, GrB.refl _ _ _⟩
    · exact opOk_val (v := .pointer (some ⟨g, 34, none⟩)) (w' := wv) (by simp [execOp, go_sem, hρ.1.const, hρ.1.func, hd]) ⟨rfl, GrB.refl _ _ _⟩
    · (obtain ⟨l9, r9, nl9, -⟩ := hR.shape _ _ HAR.out; have hl9 : l9.length = 35 := nl9.trans rfl; have hdes := HDES.out; have hac : (a1.cells vk vp vr1 vs).length = 35 := rfl; have i34 := r9.at 34 (by omega); have y34 := r9.frozen 34; exact opOk_skipS (w' := (wv.setCell ⟨g, 34, none⟩ (.int .i64 0))) (by simp [execOp, go_sem, hd, hρ.1.const, i34, y34]) ⟨⟨_, (l9.set 34 (.int .i64 0)), RowV.store (r9) 34 _, fun i hi => by rw [hdes]; simp only [List.mem_cons, List.not_mem_nil, or_false] at hi; subst hi; simp [List.getElem?_set, hl9, hac]⟩, (GrB.set (g := g) (Φ := PhiS [28, 29, 30, 31, 32, 33, 34, 15] des) (i := 34) ⟨by decide, by rw [hdes]; rfl⟩)⟩)
    · exact opOk_val (v := .pointer (some ⟨g, 0, none⟩)) (w' := wv) (by simp [execOp, go_sem, hρ.1.const, hρ.1.func, hd]) ⟨rfl, GrB.refl _ _ _⟩
    · exact opOk_val (v := .pointer (some ⟨g, 15, none⟩)) (w' := wv) (by simp [execOp, go_sem, hρ.1.const, hρ.1.func, hd]) ⟨rfl, GrB.refl _ _ _⟩
    · (obtain ⟨l9, r9, nl9, -⟩ := hR.shape _ _ HAR.out; have hl9 : l9.length = 35 := nl9.trans rfl; have hdes := HDES.out; have hac : (a1.cells vk vp vr1 vs).length = 35 := rfl; have i15 := r9.at 15 (by omega); have y15 := r9.frozen 15; exact opOk_skipS (w' := (wv.setCell ⟨g, 15, none⟩ (.int .u8 (st : Int)))) (by simp [execOp, go_sem, hd, hρ.1.const, i15, y15]) ⟨⟨_, (l9.set 15 (.int .u8 (st : Int))), RowV.store (r9) 15 _, fun i hi => by rw [hdes]; simp only [List.mem_cons, List.not_mem_nil, or_false] at hi; subst hi; simp [List.getElem?_set, hl9, hac]⟩, (GrB.set (g := g) (Φ := PhiS [28, 29, 30, 31, 32, 33, 34, 15] des) (i := 15) ⟨by decide, by rw [hdes]; rfl⟩)⟩)
  · intro vals wv hR hall
    have i15 := hall 15 (by simp)
    have i18 := hall 18 (by simp)
    have i21 := hall 21 (by simp)
    have i24 := hall 24 (by simp)
    simp only [factAt, List.getD_eq_getElem?_getD, List.getElem?_cons_succ, List.getElem?_cons_zero, Option.getD_some] at i15 i18 i21 i24
    clear hall
    simp only [fillFrom, Act.put, List.setIfInBounds_toArray, List.set_cons_zero, List.set_cons_succ]
    rename_i Kk hKk
    refine hKk _ _ ?_
    clear hKk Kk
    obtain ⟨w2, hw2⟩ : ∃ x, x = wv := ⟨_, rfl⟩
    subst hw2
    have hrow2 : RowV w2 g 77 des := by
      refine hR.final HAR.out (by rw [HDES.out]; simp) (fun i hi => ?_) (fun i hi => ?_)
      · rw [HDES.out]
        simp only [List.mem_cons, List.not_mem_nil, or_false, not_or] at hi
        obtain ⟨q1, q2, q3, q4, q5, q6, q7, q8⟩ := hi
        simp only [List.getElem?_set_ne (Ne.symm q1), List.getElem?_set_ne (Ne.symm q2), List.getElem?_set_ne (Ne.symm q3), List.getElem?_set_ne (Ne.symm q4), List.getElem?_set_ne (Ne.symm q5), List.getElem?_set_ne (Ne.symm q6), List.getElem?_set_ne (Ne.symm q7), List.getElem?_set_ne (Ne.symm q8)]
      · simp only [List.mem_cons, List.not_mem_nil, or_false] at hi
        rcases hi with rfl | rfl | rfl | rfl | rfl | rfl | rfl | rfl
        · exact i15.one (by decide)
        · exact i15.one (by decide)
        · exact i15.one (by decide)
        · exact i15.one (by decide)
        · exact i15.one (by decide)
        · exact i18.one (by decide)
        · exact i21.one (by decide)
        · exact i24.one (by decide)
    have HR2 := hid hrow2
    have HC2 := hid (hR.chg)
    clear i15 i18 i21 i24 hR hrow2
    have HC33 := hid (show w2.cell? ⟨g, 33, none⟩ = some (.int .i64 3) by rw [HR2.out.cell, HDES.out]; rfl)
    go_wp2_with fail
    refine wp_region_tail 10 [Is (.pointer (some ⟨g, 0, none⟩)), Is (.int .i64 now), Is (.int .i64 now), Is (.pointer (some ⟨g, 0, none⟩)), Is (.pointer (some ⟨g, 0, none⟩)), Is (.pointer (some ⟨g, 33, none⟩)), Is (.int .i64 3), Is (.int .i64 (now + 3)), Is (.pointer (some ⟨g, 0, none⟩)), Is (.pointer (some ⟨g, 27, none⟩))] (by kernel_rfl) (by kernel_rfl) (by kernel_rfl) (by kernel_rfl) (by kernel_rfl) (by kernel_rfl) ?_ ?_ ?_
    · simp only [StabAll, Is.gr, RdF.gr, OwnF.gr, AnyF.gr, and_self]
    · try (rename_i Kk hKk; clear hKk Kk)
      simp only [List.take_succ_cons, List.take_zero, AllOps, List.map_cons, List.map_nil, depsOf, List.filterMap_cons, List.filterMap_nil, Region.binds, depFacts, guardF, reduceIte, List.getD_eq_getElem?_getD, List.getElem?_cons_succ, List.getElem?_cons_zero, Option.getD_some, factAt, and_true]
      refine ⟨?_, ?_, ?_, ?_, ?_, ?_, ?_, ?_, ?_, ?_⟩
      all_goals intro ρ wv hρ hR hd
      all_goals try simp only [Is] at hd
      · exact opOk_move (.inl rfl) ⟨by simp only [Is]; (first | exact hρ.2 0 rfl | exact hd | exact hd.1 | exact hd.2 | simp [hd]), GrR.refl _⟩
      · exact opOk_move (.inl rfl) ⟨by simp only [Is]; (first | exact hρ.2 1 rfl | exact hd | exact hd.1 | exact hd.2 | simp [hd]), GrR.refl _⟩
      · exact opOk_call hρ.1 rfl rfl Tryd.func35 (by kernel_rfl) rfl (by simp [hd, hρ.1.const, hρ.1.func]) ((clock_any now HNOW.out wv).mono fun e w' ⟨h1, h2⟩ => ⟨_, h1, rfl, h2 ▸ GrR.refl _⟩)
      · exact opOk_move (.inl rfl) ⟨by simp only [Is]; (first | exact hρ.2 0 rfl | exact hd | exact hd.1 | exact hd.2 | simp [hd]), GrR.refl _⟩
      · exact opOk_val (v := .pointer (some ⟨g, 0, none⟩)) (w' := wv) (by simp [execOp, go_sem, hρ.1.const, hρ.1.func, hd]) ⟨rfl, GrR.refl _⟩
      · exact opOk_val (v := .pointer (some ⟨g, 33, none⟩)) (w' := wv) (by simp [execOp, go_sem, hρ.1.const, hρ.1.func, hd]) ⟨rfl, GrR.refl _⟩
      · (have h0 := cell?_of_below hR HC33.out; exact opOk_val (v := .int .i64 3) (w' := wv) (by simp [execOp, go_sem, hd, h0]) ⟨rfl, GrR.refl _⟩)
      · exact opOk_val (v := .int .i64 (now + 3)) (w' := wv) (by simp [execOp, go_sem, hρ.1.const, hρ.1.func, hd, HW3.out]) ⟨rfl, GrR.refl _⟩
      · exact opOk_val (v := .pointer (some ⟨g, 0, none⟩)) (w' := wv) (by simp [execOp, go_sem, hρ.1.const, hρ.1.func, hd]) ⟨rfl, GrR.refl _⟩
      · exact opOk_val (v := .pointer (some ⟨g, 27, none⟩)) (w' := wv) (by simp [execOp, go_sem, hρ.1.const, hρ.1.func, hd]) ⟨rfl, GrR.refl _⟩
    · intro vals wv hR hall
      have i7 := hall 7 (by omega)
      have i9 := hall 9 (by omega)
      simp only [factAt, Is, List.getD_eq_getElem?_getD, List.getElem?_cons_succ, List.getElem?_cons_zero, Option.getD_some] at i7 i9
      clear hall
      simp only [List.take_succ_cons, List.take_zero, List.drop_succ_cons, List.drop_zero, fillFrom, Act.put, i7, i9, List.setIfInBounds_toArray, List.set_cons_zero, List.set_cons_succ, Nat.zero_add, Nat.reduceAdd]
      obtain ⟨w3, hw3⟩ : ∃ x, x = wv := ⟨_, rfl⟩
      subst hw3
      have HR3 := hid (HR2.out.mono hR)
      have HC3 := hid (show Chg (fun k => k = g) w1 w3 from HC2.out.then (Chg.of_gr (S := fun _ => False) hR) (fun _ _ h => h.elim))
      have y0 : w3.cell? ⟨g, 27, none⟩ = some (.int .i64 a1.timer) := by rw [HR3.out.cell, HDES.out]; rfl
      have y1 := HR3.out.frozen 27
      clear hR i7 i9
      go_wp2_with fail
      go_end0
      have HG : Chg (fun k => k = g) w1 (w3.setCell ⟨g, 27, none⟩ (.int .i64 (now + 3))) := HC3.out.set ⟨g, 27, none⟩ _ (.inl rfl)
      refine ⟨rfl, vr1, ⟨vk, vp, .slice p9 n9 c9, ?_, HB.out, ?_, ?_, ?_, ?_⟩, HR1.out, HC1.out.then HG (fun i _ h => .inl h)⟩
      · have := HR3.out.store 27 (.int .i64 (now + 3))
        rw [HDES.out, HA1.out] at this
        exact this
      · exact HK.out.chg HG (own_ne_row HK.out HAR.out (by decide))
      · exact HP.out.chg HG (own_ne_row HP.out HAR.out (by decide))
      · exact outs_g HO.out HAR.out (by decide) (by decide) HG
      · exact HS2.out.chg HG (own_ne_row HS2.out HAR.out (by decide))
end Go.Proofs.YtiimlanbbfhkjaaDoor

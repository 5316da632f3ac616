/- The document's GetInit. Conditions: what comes in reads as it should. -/
import Derived.Test.YtfiblhdejglpaaaBodRefGets
import Derived.Test.YtfiblhdejglpaaaBodRefPuts
import Derived.Test.YtfiblhdejglpaaaBodGetI
import Derived.Test.YtfiblhdejglpaaaBodRoom
set_option linter.unusedSimpArgs false
set_option linter.unusedVariables false
namespace Go.FL
open Go.RowKit
theorem initGet_kind (c : Chk) (h1 : c.k ≠ 1) (h2 : c.k ≠ 2) : initGet c = (.zero, 7) := by
  unfold initGet
  rw [if_neg]
  intro h
  have := h.1
  unfold initMay at this
  simp [h1, h2] at this
theorem initGet_short (c : Chk) (h : c.b.length < 16) : initGet c = (.zero, 7) := by
  unfold initGet
  rw [if_neg]
  intro hc
  have h1 : ((initOf c).chk c.k).b.length = c.b.length := by rw [hc.2]
  have h2 : 16 ≤ ((initOf c).chk c.k).b.length := InitD.body_ge c.k (initOf c)
  omega
theorem initGet_ck (c : Chk) (h1 : c.k ≠ 1) (hl : (initOf c).ck.length = 0) : initGet c = (.zero, 7) := by
  unfold initGet
  rw [if_neg]
  intro h
  have := h.1
  unfold initMay at this
  simp [h1] at this
  have := this.2.2
  omega
theorem initGet_fin (c : Chk) (h : c.k = 1 ∨ (c.k = 2 ∧ 0 < (initOf c).ck.length)) : initGet c = if initB (initOf c) = true ∧ (initOf c).chk c.k = c then (initOf c, 0) else (.zero, 7) := by
  unfold initGet
  have : initMay c = initB (initOf c) := by
    unfold initMay
    rcases h with h | ⟨h, h2⟩
    · simp [h]
    · simp [h]
      intro _
      exact h2
  rw [this]
end Go.FL
namespace Go.Proofs.Ytfiblhdejglpaaa
open Go.RowKit Go.FL Go.ChangeShapes

theorem rgetInit_ret {a : Act} {W : World} {g : Nat} {R : Ending → World → Prop} (v0 v1 v2 v3 v4 v5 : Value) (er : Int) (h2 : a.tmps.getD 2 undef = .pointer (some ⟨g, 0, none⟩)) (h3 : a.tmps.getD 3 undef = .int .i64 er) (hd : a.defers = [])
    (hc : RowV W g 70 [v0, v1, v2, v3, v4, v5]) (hR : R (.returned (.tuple #[.agg #[v0, v1, v2, v3, v4, v5], .int .i64 er])) W) : bodyPost Try.prog Try.f44 R .ret a W := by
  refine bodyPost_ret (v := .tuple #[.agg #[v0, v1, v2, v3, v4, v5], .int .i64 er]) ?_ hd hR
  obtain ⟨c0, c1, c2, c3, c4, c5, -⟩ := rowInit hc
  simp only [Array.getD_eq_getD_getElem?] at h2 h3
  simp [results, Try.results44, go_sem, h2, h3, asAddr, c0, c1, c2, c3, c4, c5]

set_option maxRecDepth 100000 in
set_option maxHeartbeats 16000000 in
theorem rgetInit_any (v : Value) (ch : Chk) (w : World) (h : ChkV w v ch) (hl : ch.b.length ≤ 1000000) :
    Calls Try.prog 44 #[v] w fun e w' => ∃ s, e = .returned (.tuple #[(initGet ch).1.vals s, .int .i64 (initGet ch).2]) ∧ Own w' w.heap.size 5 s (initGet ch).1.ck ∧ Below w.heap.size w w' := by
  obtain ⟨s, rfl, hrd⟩ := h
  have HV := hid hrd
  obtain ⟨p, c, rfl, hlc, hcm, hpn, hcell⟩ := hrd
  unfold maxLen at hcm
  clear hcell hpn
  obtain ⟨kc, fc, bc⟩ := ch
  simp only at *
  have hn0 := numAt_lt bc 0 4
  have hn1 := numAt_lt bc 4 4
  have hn2 := numAt_lt bc 8 2
  have hn3 := numAt_lt bc 10 2
  have hn4 := numAt_lt bc 12 4
  have hn5 := numAt_lt bc 18 2
  obtain ⟨x0, hx0⟩ : ∃ x, x = numAt bc 0 4 := ⟨_, rfl⟩
  obtain ⟨x1, hx1⟩ : ∃ x, x = numAt bc 4 4 := ⟨_, rfl⟩
  obtain ⟨x2, hx2⟩ : ∃ x, x = numAt bc 8 2 := ⟨_, rfl⟩
  obtain ⟨x3, hx3⟩ : ∃ x, x = numAt bc 10 2 := ⟨_, rfl⟩
  obtain ⟨x4, hx4⟩ : ∃ x, x = numAt bc 12 4 := ⟨_, rfl⟩
  obtain ⟨x5, hx5⟩ : ∃ x, x = numAt bc 18 2 := ⟨_, rfl⟩
  rw [← hx0] at hn0
  rw [← hx1] at hn1
  rw [← hx2] at hn2
  rw [← hx3] at hn3
  rw [← hx4] at hn4
  rw [← hx5] at hn5
  have HX0 := hid hx0
  have HX1 := hid hx1
  have HX2 := hid hx2
  have HX3 := hid hx3
  have HX4 := hid hx4
  have HX5 := hid hx5
  have HDO0 := hid (show initOf ⟨kc, fc, bc⟩ = ⟨x0, x1, x2, x3, x4, if kc = 2 then initCk bc else []⟩ by rw [initOf, hx0, hx1, hx2, hx3, hx4])
  have HCKD := hid (show initCk bc = cutAt bc 20 ((x5 : Int) - 4) by rw [initCk, hx5])
  obtain ⟨res, hres⟩ : ∃ r, r = initGet ⟨kc, fc, bc⟩ := ⟨_, rfl⟩
  rw [← hres]
  have HRES := hid hres
  have HW0 := hid (show IntKind.u32.wrap (x0 : Int) = (x0 : Int) by rw [wrap_u32_lt]; omega)
  have HW1 := hid (show IntKind.u32.wrap (x1 : Int) = (x1 : Int) by rw [wrap_u32_lt]; omega)
  have HW2 := hid (show IntKind.u16.wrap (x2 : Int) = (x2 : Int) by rw [IntKind.wrap_u16]; omega)
  have HW3 := hid (show IntKind.u16.wrap (x3 : Int) = (x3 : Int) by rw [IntKind.wrap_u16]; omega)
  have HW4 := hid (show IntKind.u32.wrap (x4 : Int) = (x4 : Int) by rw [wrap_u32_lt]; omega)
  obtain ⟨W0, hW0⟩ : ∃ W0, W0 = w.alloc (.cells #[.int .u8 (kc.toNat : Int), .int .u8 (fc.toNat : Int), .slice p bc.length c] 28 (0, 0)) := ⟨_, rfl⟩
  have hs0 : W0.heap.size = w.heap.size + 1 := by rw [hW0]; simp
  obtain ⟨W, hW⟩ : ∃ W, W = W0.alloc (.cells #[.int .u32 0, .int .u32 0, .int .u16 0, .int .u16 0, .int .u32 0, .slice none 0 0] 70 (0, 0)) := ⟨_, rfl⟩
  have HC := hid (show RowV W w.heap.size 28 [.int .u8 (kc.toNat : Int), .int .u8 (fc.toNat : Int), .slice p bc.length c] by rw [hW, hW0]; exact (RowV.new w 28 _).alloc _)
  have HT := hid (show RowV W (w.heap.size + 1) 70 [.int .u32 0, .int .u32 0, .int .u16 0, .int .u16 0, .int .u32 0, .slice none 0 0] by rw [hW, ← hs0]; exact RowV.new W0 70 _)
  have G0 := hid (show Below w.heap.size w W by rw [hW, hW0]; exact ((Below.refl _ _).alloc (Nat.le_refl _) _).alloc (by simp) _)
  have hs1 : W.heap.size = w.heap.size + 2 := by rw [hW]; simp [hs0]
  rw [hW0] at hW
  have HE := hid hW
  clear hW hW0 hs0 hx0 hx1 hx2 hx3 hx4 hx5 hres
  have hkb := byte_lt kc
  have hfb := byte_lt fc
  have KC2 := hid (HC.out.at 2 (by simp))
  simp only [List.getElem_cons_succ, List.getElem_cons_zero] at KC2
  by_cases k1 : kc = 1
  · have n1 : ((kc.toNat : Int) != 1) = false := by rw [bne, kind_eq kc 1 1 rfl, k1]; rfl
    have e2 : ((kc.toNat : Int) == 2) = false := by rw [kind_eq kc 2 2 rfl, k1]; rfl
    by_cases h16 : bc.length < 16
    · have HRS := hid (show res = (.zero, 7) by rw [HRES.out]; exact initGet_short _ h16)
      have e1 : (bc.length : Int) < 16 := by omega
      clear k1
      go_enter Try.func44, Try.ntmps44
      go_wp2_with fail
      rw [← HE.out]
      refine rgetInit_ret (.int .u32 0) (.int .u32 0) (.int .u16 0) (.int .u16 0) (.int .u32 0) (.slice none 0 0) 7 rfl rfl rfl HT.out ⟨.slice none 0 0, by rw [HRS.out]; rfl, ?_, G0.out⟩
      rw [HRS.out]
      exact Own.nil _ _ _
    · have e1 : ¬ (bc.length : Int) < 16 := by omega
      have HRG := hid (HRES.out.trans (initGet_fin ⟨kc, fc, bc⟩ (.inl k1)))
      have HDO := hid (show initOf ⟨kc, fc, bc⟩ = ⟨x0, x1, x2, x3, x4, []⟩ by rw [HDO0.out, if_neg (fun e => absurd (k1.symm.trans e) (by decide))])
      have HBL := hid (show ([] : List UInt8).length ≤ 1000000 by simp)
      clear k1
      go_enter Try.func44, Try.ntmps44
      go_wp2_with fail
      rw [← HE.out]
      refine wp_region_tail 22 [Is (.pointer (some ⟨w.heap.size, 2, none⟩)), Is (.slice p bc.length c), Is (.int .u64 (x0 : Int)), Is (.int .u32 (x0 : Int)), Is (.pointer (some ⟨w.heap.size, 2, none⟩)), Is (.slice p bc.length c), Is (.int .u64 (x1 : Int)), Is (.int .u32 (x1 : Int)), Is (.pointer (some ⟨w.heap.size, 2, none⟩)), Is (.slice p bc.length c), Is (.int .u64 (x2 : Int)), Is (.int .u16 (x2 : Int)), Is (.pointer (some ⟨w.heap.size, 2, none⟩)), Is (.slice p bc.length c), Is (.int .u64 (x3 : Int)), Is (.int .u16 (x3 : Int)), Is (.pointer (some ⟨w.heap.size, 2, none⟩)), Is (.slice p bc.length c), Is (.int .u64 (x4 : Int)), Is (.int .u32 (x4 : Int)), Is (.agg #[.int .u32 (x0 : Int), .int .u32 (x1 : Int), .int .u16 (x2 : Int), .int .u16 (x3 : Int), .int .u32 (x4 : Int), .slice none 0 0]), NewF W.heap.size 70 [.int .u32 0, .int .u32 0, .int .u16 0, .int .u16 0, .int .u32 0, .slice none 0 0]] (by kernel_rfl) (by kernel_rfl) (by kernel_rfl) (by kernel_rfl) (by kernel_rfl) (by kernel_rfl) ?_ ?_ ?_
      · simp only [StabAll, Is.gr, RdF.gr, OwnF.gr, AnyF.gr, NewF.gr, and_self]
      · rename_i Kk hKk; clear hKk Kk
        simp only [List.take_succ_cons, List.take_zero, AllOps, List.map_cons, List.map_nil, depsOf, List.filterMap_cons, List.filterMap_nil, Region.binds, depFacts, guardF, reduceIte, List.getD_eq_getElem?_getD, List.getElem?_cons_succ, List.getElem?_cons_zero, Option.getD_some, factAt, and_true]
        refine ⟨?_, ?_, ?_, ?_, ?_, ?_, ?_, ?_, ?_, ?_, ?_, ?_, ?_, ?_, ?_, ?_, ?_, ?_, ?_, ?_, ?_, ?_⟩
        all_goals intro ρ wv hρ hR hd
        all_goals try simp only [Is] at hd
        · exact opOk_val (v := .pointer (some ⟨w.heap.size, 2, none⟩)) (w' := wv) (by simp [execOp, go_sem, hρ.1.const, hρ.1.func, hd, (hρ.2 1 rfl)]) ⟨rfl, GrR.refl _⟩
        · (have h0 := cell?_of_below hR KC2.out; exact opOk_val (v := .slice p bc.length c) (w' := wv) (by simp [execOp, go_sem, hd, h0]) ⟨rfl, GrR.refl _⟩)
        · exact opOk_call hρ.1 rfl rfl Try.func54 (by kernel_rfl) rfl (by simp [hd, hρ.1.const, hρ.1.func]) ((bnumber_any _ bc 0 4 _ _ rfl rfl (by omega) _ ((HV.out.mono G0.out).mono hR) (by omega)).mono fun e w' ⟨h1, h2⟩ => ⟨_, h1, (by rw [HX0.out]; rfl), h2⟩)
        · exact opOk_val (v := .int .u32 (x0 : Int)) (w' := wv) (by simp [execOp, go_sem, hρ.1.const, hρ.1.func, hd, HW0.out]) ⟨rfl, GrR.refl _⟩
        · exact opOk_val (v := .pointer (some ⟨w.heap.size, 2, none⟩)) (w' := wv) (by simp [execOp, go_sem, hρ.1.const, hρ.1.func, hd, (hρ.2 1 rfl)]) ⟨rfl, GrR.refl _⟩
        · (have h0 := cell?_of_below hR KC2.out; exact opOk_val (v := .slice p bc.length c) (w' := wv) (by simp [execOp, go_sem, hd, h0]) ⟨rfl, GrR.refl _⟩)
        · exact opOk_call hρ.1 rfl rfl Try.func54 (by kernel_rfl) rfl (by simp [hd, hρ.1.const, hρ.1.func]) ((bnumber_any _ bc 4 4 _ _ rfl rfl (by omega) _ ((HV.out.mono G0.out).mono hR) (by omega)).mono fun e w' ⟨h1, h2⟩ => ⟨_, h1, (by rw [HX1.out]; rfl), h2⟩)
        · exact opOk_val (v := .int .u32 (x1 : Int)) (w' := wv) (by simp [execOp, go_sem, hρ.1.const, hρ.1.func, hd, HW1.out]) ⟨rfl, GrR.refl _⟩
        · exact opOk_val (v := .pointer (some ⟨w.heap.size, 2, none⟩)) (w' := wv) (by simp [execOp, go_sem, hρ.1.const, hρ.1.func, hd, (hρ.2 1 rfl)]) ⟨rfl, GrR.refl _⟩
        · (have h0 := cell?_of_below hR KC2.out; exact opOk_val (v := .slice p bc.length c) (w' := wv) (by simp [execOp, go_sem, hd, h0]) ⟨rfl, GrR.refl _⟩)
        · exact opOk_call hρ.1 rfl rfl Try.func54 (by kernel_rfl) rfl (by simp [hd, hρ.1.const, hρ.1.func]) ((bnumber_any _ bc 8 2 _ _ rfl rfl (by omega) _ ((HV.out.mono G0.out).mono hR) (by omega)).mono fun e w' ⟨h1, h2⟩ => ⟨_, h1, (by rw [HX2.out]; rfl), h2⟩)
        · exact opOk_val (v := .int .u16 (x2 : Int)) (w' := wv) (by simp [execOp, go_sem, hρ.1.const, hρ.1.func, hd, HW2.out]) ⟨rfl, GrR.refl _⟩
        · exact opOk_val (v := .pointer (some ⟨w.heap.size, 2, none⟩)) (w' := wv) (by simp [execOp, go_sem, hρ.1.const, hρ.1.func, hd, (hρ.2 1 rfl)]) ⟨rfl, GrR.refl _⟩
        · (have h0 := cell?_of_below hR KC2.out; exact opOk_val (v := .slice p bc.length c) (w' := wv) (by simp [execOp, go_sem, hd, h0]) ⟨rfl, GrR.refl _⟩)
        · exact opOk_call hρ.1 rfl rfl Try.func54 (by kernel_rfl) rfl (by simp [hd, hρ.1.const, hρ.1.func]) ((bnumber_any _ bc 10 2 _ _ rfl rfl (by omega) _ ((HV.out.mono G0.out).mono hR) (by omega)).mono fun e w' ⟨h1, h2⟩ => ⟨_, h1, (by rw [HX3.out]; rfl), h2⟩)
        · exact opOk_val (v := .int .u16 (x3 : Int)) (w' := wv) (by simp [execOp, go_sem, hρ.1.const, hρ.1.func, hd, HW3.out]) ⟨rfl, GrR.refl _⟩
        · exact opOk_val (v := .pointer (some ⟨w.heap.size, 2, none⟩)) (w' := wv) (by simp [execOp, go_sem, hρ.1.const, hρ.1.func, hd, (hρ.2 1 rfl)]) ⟨rfl, GrR.refl _⟩
        · (have h0 := cell?_of_below hR KC2.out; exact opOk_val (v := .slice p bc.length c) (w' := wv) (by simp [execOp, go_sem, hd, h0]) ⟨rfl, GrR.refl _⟩)
        · exact opOk_call hρ.1 rfl rfl Try.func54 (by kernel_rfl) rfl (by simp [hd, hρ.1.const, hρ.1.func]) ((bnumber_any _ bc 12 4 _ _ rfl rfl (by omega) _ ((HV.out.mono G0.out).mono hR) (by omega)).mono fun e w' ⟨h1, h2⟩ => ⟨_, h1, (by rw [HX4.out]; rfl), h2⟩)
        · exact opOk_val (v := .int .u32 (x4 : Int)) (w' := wv) (by simp [execOp, go_sem, hρ.1.const, hρ.1.func, hd, HW4.out]) ⟨rfl, GrR.refl _⟩
        · exact opOk_val (v := .agg #[.int .u32 (x0 : Int), .int .u32 (x1 : Int), .int .u16 (x2 : Int), .int .u16 (x3 : Int), .int .u32 (x4 : Int), .slice none 0 0]) (w' := wv) (by simp [execOp, go_sem, hρ.1.const, hρ.1.func, hd]) ⟨rfl, GrR.refl _⟩
        · exact opOk_val (v := .pointer (some ⟨wv.heap.size, 0, none⟩)) (w' := wv.alloc (.cells #[.int .u32 0, .int .u32 0, .int .u16 0, .int .u16 0, .int .u32 0, .slice none 0 0] 70 (0, 0))) (by simp [execOp, go_sem]) ⟨⟨_, rfl, hR.size, RowV.new wv 70 [.int .u32 0, .int .u32 0, .int .u16 0, .int .u16 0, .int .u32 0, .slice none 0 0]⟩, (Below.refl _ _).alloc (Nat.le_refl _) _⟩
      · intro vals wv hR hall
        have i20 := hall 20 (by omega)
        have i21 := hall 21 (by omega)
        simp only [factAt, Is, NewF, List.getD_eq_getElem?_getD, List.getElem?_cons_succ, List.getElem?_cons_zero, Option.getD_some] at i20 i21
        clear hall
        obtain ⟨hh, h21, hge, hrow⟩ := i21
        simp only [List.take_succ_cons, List.take_zero, List.drop_succ_cons, List.drop_zero, fillFrom, Act.put, i20, h21, List.setIfInBounds_toArray, List.set_cons_zero, List.set_cons_succ, Nat.zero_add, Nat.reduceAdd]
        obtain ⟨w1, hw1⟩ : ∃ x, x = wv := ⟨_, rfl⟩
        subst hw1
        have HRW := hid hrow
        obtain ⟨i0, i1, i2, i3, i4, i5, -⟩ := rowInit HRW.out
        have y0 := HRW.out.frozen 0
        have y1 := HRW.out.frozen 1
        have y2 := HRW.out.frozen 2
        have y3 := HRW.out.frozen 3
        have y4 := HRW.out.frozen 4
        have y5 := HRW.out.frozen 5
        obtain ⟨w2, hw2⟩ : ∃ x, x = ((((((w1.setCell ⟨hh, 0, none⟩ (.int .u32 (x0 : Int))).setCell ⟨hh, 1, none⟩ (.int .u32 (x1 : Int))).setCell ⟨hh, 2, none⟩ (.int .u16 (x2 : Int))).setCell ⟨hh, 3, none⟩ (.int .u16 (x3 : Int))).setCell ⟨hh, 4, none⟩ (.int .u32 (x4 : Int))).setCell ⟨hh, 5, none⟩ (.slice none 0 0)) := ⟨_, rfl⟩
        have HRW2 := hid (show RowV w2 hh 70 [.int .u32 (x0 : Int), .int .u32 (x1 : Int), .int .u16 (x2 : Int), .int .u16 (x3 : Int), .int .u32 (x4 : Int), .slice none 0 0] by rw [hw2]; exact ((((((HRW.out.store 0 (.int .u32 (x0 : Int))).store 1 (.int .u32 (x1 : Int))).store 2 (.int .u16 (x2 : Int))).store 3 (.int .u16 (x3 : Int))).store 4 (.int .u32 (x4 : Int))).store 5 (.slice none 0 0)))
        have g2 : w1.grownBy w2 (some hh) := by rw [hw2]; exact gb_set (gb_set (gb_set (gb_set (gb_set (gb_set (gb_refl _ _) 0 _) 1 _) 2 _) 3 _) 4 _) 5 _
        have gq : Below W.heap.size W w2 := hR.trans (gb_below g2 hge hR.size)
        have HC2 := hid (HC.out.mono gq)
        have HT2 := hid (HT.out.mono gq)
        have G2 := hid (gr_trans G0.out gq)
        have SZ2 := hid gq.size
        have HE2 := hid hw2
        have hh2 : w.heap.size + 2 ≤ hh := by omega
        obtain ⟨q0, q1, q2⟩ := HC2.out.three
        rw [hw2] at q0 q1 q2
        clear hw2 g2 gq hR i20 h21 hrow
        go_wp2_with fail
        rw [← HE2.out]
        clear i0 i1 i2 i3 i4 i5 y0 y1 y2 y3 y4 y5 q0 q1 q2
        have HO2 := hid (Own.nil w2 W.heap.size 5)
        have KI0 := hid (HRW2.out.at 0 (by simp))
        have KI2 := hid (HRW2.out.at 2 (by simp))
        have KI3 := hid (HRW2.out.at 3 (by simp))
        have KK0 := hid (HC2.out.at 0 (by simp))
        simp only [List.getElem_cons_succ, List.getElem_cons_zero] at KI0 KI2 KI3 KK0
        obtain ⟨q, hq⟩ : ∃ q, q = chkEq (InitD.chk kc ⟨x0, x1, x2, x3, x4, []⟩) ⟨kc, fc, bc⟩ := ⟨_, rfl⟩
        have HQ := hid hq
        have HRF := hid (show res = if initB ⟨x0, x1, x2, x3, x4, []⟩ = true ∧ q = true then (⟨x0, x1, x2, x3, x4, []⟩, 0) else (.zero, 7) by
          rw [HRG.out, HDO.out, hq, chkEq_dec]
          by_cases e : InitD.chk kc ⟨x0, x1, x2, x3, x4, []⟩ = ⟨kc, fc, bc⟩ <;> simp [e])
        clear hq
        by_cases z0 : x0 = 0
        · have za := z0
          have HZ0 := hid (show ((x0 : Int) == 0) = true by rw [z0]; rfl)
          refine wp_region_gr [Is (.pointer (some ⟨hh, 0, none⟩)), Is (.int .u32 (x0 : Int)), Is (.bool true), Is (.bool true), AnyF, AnyF, AnyF, Is (.bool true), Is (.bool true), AnyF, AnyF, AnyF, Is (.bool true), Is (.bool true), AnyF, AnyF, AnyF, AnyF, AnyF, AnyF, AnyF, Is (.bool true)] (by kernel_rfl) (by kernel_rfl) (by kernel_rfl) ?_ ?_ ?_
          · simp only [StabAll, Is.gr, RdF.gr, OwnF.gr, AnyF.gr, and_self]
          · rename_i Kk hKk; clear hKk Kk
            simp only [AllOps, List.map_cons, List.map_nil, depsOf, List.filterMap_cons, List.filterMap_nil, Region.binds, depFacts, guardF, reduceIte, List.getD_eq_getElem?_getD, List.getElem?_cons_succ, List.getElem?_cons_zero, Option.getD_some, factAt, and_true]
            refine ⟨?_, ?_, ?_, ?_, ?_, ?_, ?_, ?_, ?_, ?_, ?_, ?_, ?_, ?_, ?_, ?_, ?_, ?_, ?_, ?_, ?_, ?_⟩
            all_goals intro ρ wv hρ hR hd
            all_goals try simp only [Is] at hd
            · exact opOk_val (v := .pointer (some ⟨hh, 0, none⟩)) (w' := wv) (by simp [execOp, go_sem, hρ.1.const, hρ.1.func, hd, (hρ.2 4 rfl)]) ⟨rfl, GrR.refl _⟩
            · (have h0 := cell?_of_below hR KI0.out; exact opOk_val (v := .int .u32 (x0 : Int)) (w' := wv) (by simp [execOp, go_sem, hd, h0]) ⟨rfl, GrR.refl _⟩)
            · exact opOk_val (v := .bool true) (w' := wv) (by simp [execOp, go_sem, hρ.1.const, hρ.1.func, hd, HZ0.out]) ⟨rfl, GrR.refl _⟩
            · exact opOk_move (.inl rfl) ⟨by simp only [Is]; (first | exact hρ.2 70 rfl | exact hd | exact hd.1 | exact hd.2 | simp [hd]), GrR.refl _⟩
            · exact ⟨fun hg => absurd hg (by simp [hd]), fun _ => trivial⟩
            · exact ⟨fun hg => absurd hg (by simp [hd]), fun _ => trivial⟩
            · exact ⟨fun hg => absurd hg (by simp [hd]), fun _ => trivial⟩
            · exact opOk_val (v := .bool true) (w' := wv) (by simp [execOp, go_sem, hρ.1.const, hρ.1.func, hd]) ⟨rfl, GrR.refl _⟩
            · exact opOk_move (.inl rfl) ⟨by simp only [Is]; (first | exact hρ.2 75 rfl | exact hd | exact hd.1 | exact hd.2 | simp [hd]), GrR.refl _⟩
            · exact ⟨fun hg => absurd hg (by simp [hd]), fun _ => trivial⟩
            · exact ⟨fun hg => absurd hg (by simp [hd]), fun _ => trivial⟩
            · exact ⟨fun hg => absurd hg (by simp [hd]), fun _ => trivial⟩
            · exact opOk_val (v := .bool true) (w' := wv) (by simp [execOp, go_sem, hρ.1.const, hρ.1.func, hd]) ⟨rfl, GrR.refl _⟩
            · exact opOk_move (.inl rfl) ⟨by simp only [Is]; (first | exact hρ.2 80 rfl | exact hd | exact hd.1 | exact hd.2 | simp [hd]), GrR.refl _⟩
            · exact ⟨fun hg => absurd hg (by simp [hd]), fun _ => trivial⟩
            · exact ⟨fun hg => absurd hg (by simp [hd]), fun _ => trivial⟩
            · exact ⟨fun hg => absurd hg (by simp [hd]), fun _ => trivial⟩
            · exact ⟨fun hg => absurd hg (by simp [hd]), fun _ => trivial⟩
            · exact ⟨fun hg => absurd hg (by simp [hd]), fun _ => trivial⟩
            · exact ⟨fun hg => absurd hg (by simp [hd]), fun _ => trivial⟩
            · exact ⟨fun hg => absurd hg (by simp [hd]), fun _ => trivial⟩
            · exact opOk_val (v := .bool true) (w' := wv) (by simp [execOp, go_sem, hρ.1.const, hρ.1.func, hd]) ⟨rfl, GrR.refl _⟩
          · intro vals wv hR hall
            have hend := hall 21 (by simp)
            simp only [factAt, Is, List.getD_eq_getElem?_getD, List.getElem?_cons_succ, List.getElem?_cons_zero, Option.getD_some] at hend
            clear hall
            simp only [fillFrom, Act.put, hend, List.setIfInBounds_toArray, List.set_cons_zero, List.set_cons_succ]
            obtain ⟨w9, hw9⟩ : ∃ x, x = wv := ⟨_, rfl⟩
            subst hw9
            have HT9 := hid (HT2.out.mono hR)
            have HRW9 := hid (HRW2.out.mono hR)
            have HO9 := hid (HO2.out.mono hR)
            have G9 := hid (gr_trans G2.out hR)
            clear hR hend
            obtain ⟨j0, j1, j2, j3, j4, j5, -⟩ := rowInit HT9.out
            have y0 := HT9.out.frozen 0
            have y1 := HT9.out.frozen 1
            have y2 := HT9.out.frozen 2
            have y3 := HT9.out.frozen 3
            have y4 := HT9.out.frozen 4
            have y5 := HT9.out.frozen 5
            have HRS := hid (show res = (.zero, 7) by
              rw [HRF.out, if_neg]
              intro h
              have h1 := h.1
              simp [initB, za] at h1)
            go_wp2_with fail
            refine rgetInit_ret (.int .u32 0) (.int .u32 0) (.int .u16 0) (.int .u16 0) (.int .u32 0) (.slice none 0 0) 7 rfl rfl rfl ((((((HT9.out.store 0 (.int .u32 0)).store 1 (.int .u32 0)).store 2 (.int .u16 0)).store 3 (.int .u16 0)).store 4 (.int .u32 0)).store 5 (.slice none 0 0)) ⟨.slice none 0 0, by rw [HRS.out]; rfl, ?_, ((((((G9.out.setCell (by simp; try omega) _).setCell (by simp; try omega) _).setCell (by simp; try omega) _).setCell (by simp; try omega) _).setCell (by simp; try omega) _).setCell (by simp; try omega) _)⟩
            rw [HRS.out]
            exact Own.nil _ _ _
        · have HZ0 := hid (show ((x0 : Int) == 0) = false by simp; exact z0)
          by_cases z2 : x2 = 0
          · have za := z2
            have HZ2 := hid (show ((x2 : Int) == 0) = true by rw [z2]; rfl)
            refine wp_region_gr [Is (.pointer (some ⟨hh, 0, none⟩)), Is (.int .u32 (x0 : Int)), Is (.bool false), Is (.bool false), Is (.pointer (some ⟨hh, 2, none⟩)), Is (.int .u16 (x2 : Int)), Is (.bool true), Is (.bool true), Is (.bool true), AnyF, AnyF, AnyF, Is (.bool true), Is (.bool true), AnyF, AnyF, AnyF, AnyF, AnyF, AnyF, AnyF, Is (.bool true)] (by kernel_rfl) (by kernel_rfl) (by kernel_rfl) ?_ ?_ ?_
            · simp only [StabAll, Is.gr, RdF.gr, OwnF.gr, AnyF.gr, and_self]
            · rename_i Kk hKk; clear hKk Kk
              simp only [AllOps, List.map_cons, List.map_nil, depsOf, List.filterMap_cons, List.filterMap_nil, Region.binds, depFacts, guardF, reduceIte, List.getD_eq_getElem?_getD, List.getElem?_cons_succ, List.getElem?_cons_zero, Option.getD_some, factAt, and_true]
              refine ⟨?_, ?_, ?_, ?_, ?_, ?_, ?_, ?_, ?_, ?_, ?_, ?_, ?_, ?_, ?_, ?_, ?_, ?_, ?_, ?_, ?_, ?_⟩
              all_goals intro ρ wv hρ hR hd
              all_goals try simp only [Is] at hd
              · exact opOk_val (v := .pointer (some ⟨hh, 0, none⟩)) (w' := wv) (by simp [execOp, go_sem, hρ.1.const, hρ.1.func, hd, (hρ.2 4 rfl)]) ⟨rfl, GrR.refl _⟩
              · (have h0 := cell?_of_below hR KI0.out; exact opOk_val (v := .int .u32 (x0 : Int)) (w' := wv) (by simp [execOp, go_sem, hd, h0]) ⟨rfl, GrR.refl _⟩)
              · exact opOk_val (v := .bool false) (w' := wv) (by simp [execOp, go_sem, hρ.1.const, hρ.1.func, hd, HZ0.out]) ⟨rfl, GrR.refl _⟩
              · exact opOk_move (.inl rfl) ⟨by simp only [Is]; (first | exact hρ.2 70 rfl | exact hd | exact hd.1 | exact hd.2 | simp [hd]), GrR.refl _⟩
              · refine ⟨fun _ => ?_, fun hg => absurd (by simp [hd]) hg⟩; exact opOk_val (v := .pointer (some ⟨hh, 2, none⟩)) (w' := wv) (by simp [execOp, go_sem, hρ.1.const, hρ.1.func, hd, (hρ.2 4 rfl)]) ⟨rfl, GrR.refl _⟩
              · refine ⟨fun _ => ?_, fun hg => absurd (by simp [hd]) hg⟩; (have h0 := cell?_of_below hR KI2.out; exact opOk_val (v := .int .u16 (x2 : Int)) (w' := wv) (by simp [execOp, go_sem, hd, h0]) ⟨rfl, GrR.refl _⟩)
              · refine ⟨fun _ => ?_, fun hg => absurd (by simp [hd]) hg⟩; exact opOk_val (v := .bool true) (w' := wv) (by simp [execOp, go_sem, hρ.1.const, hρ.1.func, hd, HZ2.out]) ⟨rfl, GrR.refl _⟩
              · exact opOk_val (v := .bool true) (w' := wv) (by simp [execOp, go_sem, hρ.1.const, hρ.1.func, hd]) ⟨rfl, GrR.refl _⟩
              · exact opOk_move (.inl rfl) ⟨by simp only [Is]; (first | exact hρ.2 75 rfl | exact hd | exact hd.1 | exact hd.2 | simp [hd]), GrR.refl _⟩
              · exact ⟨fun hg => absurd hg (by simp [hd]), fun _ => trivial⟩
              · exact ⟨fun hg => absurd hg (by simp [hd]), fun _ => trivial⟩
              · exact ⟨fun hg => absurd hg (by simp [hd]), fun _ => trivial⟩
              · exact opOk_val (v := .bool true) (w' := wv) (by simp [execOp, go_sem, hρ.1.const, hρ.1.func, hd]) ⟨rfl, GrR.refl _⟩
              · exact opOk_move (.inl rfl) ⟨by simp only [Is]; (first | exact hρ.2 80 rfl | exact hd | exact hd.1 | exact hd.2 | simp [hd]), GrR.refl _⟩
              · exact ⟨fun hg => absurd hg (by simp [hd]), fun _ => trivial⟩
              · exact ⟨fun hg => absurd hg (by simp [hd]), fun _ => trivial⟩
              · exact ⟨fun hg => absurd hg (by simp [hd]), fun _ => trivial⟩
              · exact ⟨fun hg => absurd hg (by simp [hd]), fun _ => trivial⟩
              · exact ⟨fun hg => absurd hg (by simp [hd]), fun _ => trivial⟩
              · exact ⟨fun hg => absurd hg (by simp [hd]), fun _ => trivial⟩
              · exact ⟨fun hg => absurd hg (by simp [hd]), fun _ => trivial⟩
              · exact opOk_val (v := .bool true) (w' := wv) (by simp [execOp, go_sem, hρ.1.const, hρ.1.func, hd]) ⟨rfl, GrR.refl _⟩
            · intro vals wv hR hall
              have hend := hall 21 (by simp)
              simp only [factAt, Is, List.getD_eq_getElem?_getD, List.getElem?_cons_succ, List.getElem?_cons_zero, Option.getD_some] at hend
              clear hall
              simp only [fillFrom, Act.put, hend, List.setIfInBounds_toArray, List.set_cons_zero, List.set_cons_succ]
              obtain ⟨w9, hw9⟩ : ∃ x, x = wv := ⟨_, rfl⟩
              subst hw9
              have HT9 := hid (HT2.out.mono hR)
              have HRW9 := hid (HRW2.out.mono hR)
              have HO9 := hid (HO2.out.mono hR)
              have G9 := hid (gr_trans G2.out hR)
              clear hR hend
              obtain ⟨j0, j1, j2, j3, j4, j5, -⟩ := rowInit HT9.out
              have y0 := HT9.out.frozen 0
              have y1 := HT9.out.frozen 1
              have y2 := HT9.out.frozen 2
              have y3 := HT9.out.frozen 3
              have y4 := HT9.out.frozen 4
              have y5 := HT9.out.frozen 5
              have HRS := hid (show res = (.zero, 7) by
                rw [HRF.out, if_neg]
                intro h
                have h1 := h.1
                simp [initB, za] at h1)
              go_wp2_with fail
              refine rgetInit_ret (.int .u32 0) (.int .u32 0) (.int .u16 0) (.int .u16 0) (.int .u32 0) (.slice none 0 0) 7 rfl rfl rfl ((((((HT9.out.store 0 (.int .u32 0)).store 1 (.int .u32 0)).store 2 (.int .u16 0)).store 3 (.int .u16 0)).store 4 (.int .u32 0)).store 5 (.slice none 0 0)) ⟨.slice none 0 0, by rw [HRS.out]; rfl, ?_, ((((((G9.out.setCell (by simp; try omega) _).setCell (by simp; try omega) _).setCell (by simp; try omega) _).setCell (by simp; try omega) _).setCell (by simp; try omega) _).setCell (by simp; try omega) _)⟩
              rw [HRS.out]
              exact Own.nil _ _ _
          · have HZ2 := hid (show ((x2 : Int) == 0) = false by simp; exact z2)
            by_cases z3 : x3 = 0
            · have za := z3
              have HZ3 := hid (show ((x3 : Int) == 0) = true by rw [z3]; rfl)
              refine wp_region_gr [Is (.pointer (some ⟨hh, 0, none⟩)), Is (.int .u32 (x0 : Int)), Is (.bool false), Is (.bool false), Is (.pointer (some ⟨hh, 2, none⟩)), Is (.int .u16 (x2 : Int)), Is (.bool false), Is (.bool false), Is (.bool false), Is (.pointer (some ⟨hh, 3, none⟩)), Is (.int .u16 (x3 : Int)), Is (.bool true), Is (.bool true), Is (.bool true), AnyF, AnyF, AnyF, AnyF, AnyF, AnyF, AnyF, Is (.bool true)] (by kernel_rfl) (by kernel_rfl) (by kernel_rfl) ?_ ?_ ?_
              · simp only [StabAll, Is.gr, RdF.gr, OwnF.gr, AnyF.gr, and_self]
              · rename_i Kk hKk; clear hKk Kk
                simp only [AllOps, List.map_cons, List.map_nil, depsOf, List.filterMap_cons, List.filterMap_nil, Region.binds, depFacts, guardF, reduceIte, List.getD_eq_getElem?_getD, List.getElem?_cons_succ, List.getElem?_cons_zero, Option.getD_some, factAt, and_true]
                refine ⟨?_, ?_, ?_, ?_, ?_, ?_, ?_, ?_, ?_, ?_, ?_, ?_, ?_, ?_, ?_, ?_, ?_, ?_, ?_, ?_, ?_, ?_⟩
                all_goals intro ρ wv hρ hR hd
                all_goals try simp only [Is] at hd
                · exact opOk_val (v := .pointer (some ⟨hh, 0, none⟩)) (w' := wv) (by simp [execOp, go_sem, hρ.1.const, hρ.1.func, hd, (hρ.2 4 rfl)]) ⟨rfl, GrR.refl _⟩
                · (have h0 := cell?_of_below hR KI0.out; exact opOk_val (v := .int .u32 (x0 : Int)) (w' := wv) (by simp [execOp, go_sem, hd, h0]) ⟨rfl, GrR.refl _⟩)
                · exact opOk_val (v := .bool false) (w' := wv) (by simp [execOp, go_sem, hρ.1.const, hρ.1.func, hd, HZ0.out]) ⟨rfl, GrR.refl _⟩
                · exact opOk_move (.inl rfl) ⟨by simp only [Is]; (first | exact hρ.2 70 rfl | exact hd | exact hd.1 | exact hd.2 | simp [hd]), GrR.refl _⟩
                · refine ⟨fun _ => ?_, fun hg => absurd (by simp [hd]) hg⟩; exact opOk_val (v := .pointer (some ⟨hh, 2, none⟩)) (w' := wv) (by simp [execOp, go_sem, hρ.1.const, hρ.1.func, hd, (hρ.2 4 rfl)]) ⟨rfl, GrR.refl _⟩
                · refine ⟨fun _ => ?_, fun hg => absurd (by simp [hd]) hg⟩; (have h0 := cell?_of_below hR KI2.out; exact opOk_val (v := .int .u16 (x2 : Int)) (w' := wv) (by simp [execOp, go_sem, hd, h0]) ⟨rfl, GrR.refl _⟩)
                · refine ⟨fun _ => ?_, fun hg => absurd (by simp [hd]) hg⟩; exact opOk_val (v := .bool false) (w' := wv) (by simp [execOp, go_sem, hρ.1.const, hρ.1.func, hd, HZ2.out]) ⟨rfl, GrR.refl _⟩
                · exact opOk_val (v := .bool false) (w' := wv) (by simp [execOp, go_sem, hρ.1.const, hρ.1.func, hd]) ⟨rfl, GrR.refl _⟩
                · exact opOk_move (.inl rfl) ⟨by simp only [Is]; (first | exact hρ.2 75 rfl | exact hd | exact hd.1 | exact hd.2 | simp [hd]), GrR.refl _⟩
                · refine ⟨fun _ => ?_, fun hg => absurd (by simp [hd]) hg⟩; exact opOk_val (v := .pointer (some ⟨hh, 3, none⟩)) (w' := wv) (by simp [execOp, go_sem, hρ.1.const, hρ.1.func, hd, (hρ.2 4 rfl)]) ⟨rfl, GrR.refl _⟩
                · refine ⟨fun _ => ?_, fun hg => absurd (by simp [hd]) hg⟩; (have h0 := cell?_of_below hR KI3.out; exact opOk_val (v := .int .u16 (x3 : Int)) (w' := wv) (by simp [execOp, go_sem, hd, h0]) ⟨rfl, GrR.refl _⟩)
                · refine ⟨fun _ => ?_, fun hg => absurd (by simp [hd]) hg⟩; exact opOk_val (v := .bool true) (w' := wv) (by simp [execOp, go_sem, hρ.1.const, hρ.1.func, hd, HZ3.out]) ⟨rfl, GrR.refl _⟩
                · exact opOk_val (v := .bool true) (w' := wv) (by simp [execOp, go_sem, hρ.1.const, hρ.1.func, hd]) ⟨rfl, GrR.refl _⟩
                · exact opOk_move (.inl rfl) ⟨by simp only [Is]; (first | exact hρ.2 80 rfl | exact hd | exact hd.1 | exact hd.2 | simp [hd]), GrR.refl _⟩
                · exact ⟨fun hg => absurd hg (by simp [hd]), fun _ => trivial⟩
                · exact ⟨fun hg => absurd hg (by simp [hd]), fun _ => trivial⟩
                · exact ⟨fun hg => absurd hg (by simp [hd]), fun _ => trivial⟩
                · exact ⟨fun hg => absurd hg (by simp [hd]), fun _ => trivial⟩
                · exact ⟨fun hg => absurd hg (by simp [hd]), fun _ => trivial⟩
                · exact ⟨fun hg => absurd hg (by simp [hd]), fun _ => trivial⟩
                · exact ⟨fun hg => absurd hg (by simp [hd]), fun _ => trivial⟩
                · exact opOk_val (v := .bool true) (w' := wv) (by simp [execOp, go_sem, hρ.1.const, hρ.1.func, hd]) ⟨rfl, GrR.refl _⟩
              · intro vals wv hR hall
                have hend := hall 21 (by simp)
                simp only [factAt, Is, List.getD_eq_getElem?_getD, List.getElem?_cons_succ, List.getElem?_cons_zero, Option.getD_some] at hend
                clear hall
                simp only [fillFrom, Act.put, hend, List.setIfInBounds_toArray, List.set_cons_zero, List.set_cons_succ]
                obtain ⟨w9, hw9⟩ : ∃ x, x = wv := ⟨_, rfl⟩
                subst hw9
                have HT9 := hid (HT2.out.mono hR)
                have HRW9 := hid (HRW2.out.mono hR)
                have HO9 := hid (HO2.out.mono hR)
                have G9 := hid (gr_trans G2.out hR)
                clear hR hend
                obtain ⟨j0, j1, j2, j3, j4, j5, -⟩ := rowInit HT9.out
                have y0 := HT9.out.frozen 0
                have y1 := HT9.out.frozen 1
                have y2 := HT9.out.frozen 2
                have y3 := HT9.out.frozen 3
                have y4 := HT9.out.frozen 4
                have y5 := HT9.out.frozen 5
                have HRS := hid (show res = (.zero, 7) by
                  rw [HRF.out, if_neg]
                  intro h
                  have h1 := h.1
                  simp [initB, za] at h1)
                go_wp2_with fail
                refine rgetInit_ret (.int .u32 0) (.int .u32 0) (.int .u16 0) (.int .u16 0) (.int .u32 0) (.slice none 0 0) 7 rfl rfl rfl ((((((HT9.out.store 0 (.int .u32 0)).store 1 (.int .u32 0)).store 2 (.int .u16 0)).store 3 (.int .u16 0)).store 4 (.int .u32 0)).store 5 (.slice none 0 0)) ⟨.slice none 0 0, by rw [HRS.out]; rfl, ?_, ((((((G9.out.setCell (by simp; try omega) _).setCell (by simp; try omega) _).setCell (by simp; try omega) _).setCell (by simp; try omega) _).setCell (by simp; try omega) _).setCell (by simp; try omega) _)⟩
                rw [HRS.out]
                exact Own.nil _ _ _
            · have HZ3 := hid (show ((x3 : Int) == 0) = false by simp; exact z3)
              refine wp_region_gr [Is (.pointer (some ⟨hh, 0, none⟩)), Is (.int .u32 (x0 : Int)), Is (.bool false), Is (.bool false), Is (.pointer (some ⟨hh, 2, none⟩)), Is (.int .u16 (x2 : Int)), Is (.bool false), Is (.bool false), Is (.bool false), Is (.pointer (some ⟨hh, 3, none⟩)), Is (.int .u16 (x3 : Int)), Is (.bool false), Is (.bool false), Is (.bool false), Is (.pointer (some ⟨w.heap.size, 0, none⟩)), Is (.int .u8 (kc.toNat : Int)), Is (.agg ([.int .u32 (x0 : Int), .int .u32 (x1 : Int), .int .u16 (x2 : Int), .int .u16 (x3 : Int), .int .u32 (x4 : Int), .slice none 0 0]).toArray), ChkF (InitD.chk kc ⟨x0, x1, x2, x3, x4, []⟩), Is (.agg ([.int .u8 (kc.toNat : Int), .int .u8 (fc.toNat : Int), .slice p bc.length c]).toArray), Is (.bool q), Is (.bool (!q)), Is (.bool (!q))] (by kernel_rfl) (by kernel_rfl) (by kernel_rfl) ?_ ?_ ?_
              · simp only [StabAll, Is.gr, RdF.gr, OwnF.gr, AnyF.gr, ChkF.gr, and_self]
              · rename_i Kk hKk; clear hKk Kk
                simp only [AllOps, List.map_cons, List.map_nil, depsOf, List.filterMap_cons, List.filterMap_nil, Region.binds, depFacts, guardF, reduceIte, List.getD_eq_getElem?_getD, List.getElem?_cons_succ, List.getElem?_cons_zero, Option.getD_some, factAt, and_true]
                refine ⟨?_, ?_, ?_, ?_, ?_, ?_, ?_, ?_, ?_, ?_, ?_, ?_, ?_, ?_, ?_, ?_, ?_, ?_, ?_, ?_, ?_, ?_⟩
                all_goals intro ρ wv hρ hR hd
                all_goals try simp only [Is] at hd
                · exact opOk_val (v := .pointer (some ⟨hh, 0, none⟩)) (w' := wv) (by simp [execOp, go_sem, hρ.1.const, hρ.1.func, hd, (hρ.2 4 rfl)]) ⟨rfl, GrR.refl _⟩
                · (have h0 := cell?_of_below hR KI0.out; exact opOk_val (v := .int .u32 (x0 : Int)) (w' := wv) (by simp [execOp, go_sem, hd, h0]) ⟨rfl, GrR.refl _⟩)
                · exact opOk_val (v := .bool false) (w' := wv) (by simp [execOp, go_sem, hρ.1.const, hρ.1.func, hd, HZ0.out]) ⟨rfl, GrR.refl _⟩
                · exact opOk_move (.inl rfl) ⟨by simp only [Is]; (first | exact hρ.2 70 rfl | exact hd | exact hd.1 | exact hd.2 | simp [hd]), GrR.refl _⟩
                · refine ⟨fun _ => ?_, fun hg => absurd (by simp [hd]) hg⟩; exact opOk_val (v := .pointer (some ⟨hh, 2, none⟩)) (w' := wv) (by simp [execOp, go_sem, hρ.1.const, hρ.1.func, hd, (hρ.2 4 rfl)]) ⟨rfl, GrR.refl _⟩
                · refine ⟨fun _ => ?_, fun hg => absurd (by simp [hd]) hg⟩; (have h0 := cell?_of_below hR KI2.out; exact opOk_val (v := .int .u16 (x2 : Int)) (w' := wv) (by simp [execOp, go_sem, hd, h0]) ⟨rfl, GrR.refl _⟩)
                · refine ⟨fun _ => ?_, fun hg => absurd (by simp [hd]) hg⟩; exact opOk_val (v := .bool false) (w' := wv) (by simp [execOp, go_sem, hρ.1.const, hρ.1.func, hd, HZ2.out]) ⟨rfl, GrR.refl _⟩
                · exact opOk_val (v := .bool false) (w' := wv) (by simp [execOp, go_sem, hρ.1.const, hρ.1.func, hd]) ⟨rfl, GrR.refl _⟩
                · exact opOk_move (.inl rfl) ⟨by simp only [Is]; (first | exact hρ.2 75 rfl | exact hd | exact hd.1 | exact hd.2 | simp [hd]), GrR.refl _⟩
                · refine ⟨fun _ => ?_, fun hg => absurd (by simp [hd]) hg⟩; exact opOk_val (v := .pointer (some ⟨hh, 3, none⟩)) (w' := wv) (by simp [execOp, go_sem, hρ.1.const, hρ.1.func, hd, (hρ.2 4 rfl)]) ⟨rfl, GrR.refl _⟩
                · refine ⟨fun _ => ?_, fun hg => absurd (by simp [hd]) hg⟩; (have h0 := cell?_of_below hR KI3.out; exact opOk_val (v := .int .u16 (x3 : Int)) (w' := wv) (by simp [execOp, go_sem, hd, h0]) ⟨rfl, GrR.refl _⟩)
                · refine ⟨fun _ => ?_, fun hg => absurd (by simp [hd]) hg⟩; exact opOk_val (v := .bool false) (w' := wv) (by simp [execOp, go_sem, hρ.1.const, hρ.1.func, hd, HZ3.out]) ⟨rfl, GrR.refl _⟩
                · exact opOk_val (v := .bool false) (w' := wv) (by simp [execOp, go_sem, hρ.1.const, hρ.1.func, hd]) ⟨rfl, GrR.refl _⟩
                · exact opOk_move (.inl rfl) ⟨by simp only [Is]; (first | exact hρ.2 80 rfl | exact hd | exact hd.1 | exact hd.2 | simp [hd]), GrR.refl _⟩
                · refine ⟨fun _ => ?_, fun hg => absurd (by simp [hd]) hg⟩; exact opOk_val (v := .pointer (some ⟨w.heap.size, 0, none⟩)) (w' := wv) (by simp [execOp, go_sem, hρ.1.const, hρ.1.func, hd, (hρ.2 1 rfl)]) ⟨rfl, GrR.refl _⟩
                · refine ⟨fun _ => ?_, fun hg => absurd (by simp [hd]) hg⟩; (have h0 := cell?_of_below hR KK0.out; exact opOk_val (v := .int .u8 (kc.toNat : Int)) (w' := wv) (by simp [execOp, go_sem, hd, h0]) ⟨rfl, GrR.refl _⟩)
                · refine ⟨fun _ => ?_, fun hg => absurd (by simp [hd]) hg⟩; exact opOk_loadRow rfl (hh) (by first | exact hρ.2 _ rfl | simp [hd]) _ ([.int .u32 (x0 : Int), .int .u32 (x1 : Int), .int .u16 (x2 : Int), .int .u16 (x3 : Int), .int .u32 (x4 : Int), .slice none 0 0]) _ (HRW2.out.mono hR) Try.underlying70 rfl (by kernel_rfl) ⟨rfl, GrR.refl _⟩
                · refine ⟨fun _ => ?_, fun hg => absurd (by simp [hd]) hg⟩; exact opOk_call hρ.1 rfl rfl Try.func45 (by kernel_rfl) rfl (by simp [hd, hρ.1.const, hρ.1.func]) ((rputInit_any kc _ ⟨x0, x1, x2, x3, x4, []⟩ ⟨by omega, by omega, by omega, by omega, by omega⟩ _ ⟨_, rfl, HO2.out.rd.mono hR⟩ HBL.out).mono fun e w' ⟨s, h1, h2, h3⟩ => ⟨_, h1, ⟨s, rfl, h2.rd⟩, h3⟩)
                · refine ⟨fun _ => ?_, fun hg => absurd (by simp [hd]) hg⟩; exact opOk_loadRow rfl (w.heap.size) (by first | exact hρ.2 _ rfl | simp [hd]) _ ([.int .u8 (kc.toNat : Int), .int .u8 (fc.toNat : Int), .slice p bc.length c]) _ (HC2.out.mono hR) Try.underlying28 rfl (by kernel_rfl) ⟨rfl, GrR.refl _⟩
                · refine ⟨fun _ => ?_, fun hg => absurd (by simp [hd]) hg⟩; exact opOk_call hρ.1 rfl rfl Try.func18 (by kernel_rfl) rfl (by simp [hd, hρ.1.const, hρ.1.func]) ((chkSame_any (ρ (.tmp 85)) _ (InitD.chk kc ⟨x0, x1, x2, x3, x4, []⟩) ⟨kc, fc, bc⟩ _ hd.1 ⟨_, rfl, (HV.out.mono G2.out).mono hR⟩).mono fun e w' ⟨h1, h2⟩ => ⟨_, h1, (by rw [HQ.out]; rfl), h2⟩)
                · refine ⟨fun _ => ?_, fun hg => absurd (by simp [hd]) hg⟩; exact opOk_val (v := .bool (!q)) (w' := wv) (by simp [execOp, go_sem, hρ.1.const, hρ.1.func, hd]) ⟨rfl, GrR.refl _⟩
                · exact opOk_val (v := .bool (!q)) (w' := wv) (by simp [execOp, go_sem, hρ.1.const, hρ.1.func, hd]) ⟨rfl, GrR.refl _⟩
              · intro vals wv hR hall
                have hend := hall 21 (by simp)
                simp only [factAt, Is, List.getD_eq_getElem?_getD, List.getElem?_cons_succ, List.getElem?_cons_zero, Option.getD_some] at hend
                clear hall
                simp only [fillFrom, Act.put, hend, List.setIfInBounds_toArray, List.set_cons_zero, List.set_cons_succ]
                obtain ⟨w9, hw9⟩ : ∃ x, x = wv := ⟨_, rfl⟩
                subst hw9
                have HT9 := hid (HT2.out.mono hR)
                have HRW9 := hid (HRW2.out.mono hR)
                have HO9 := hid (HO2.out.mono hR)
                have G9 := hid (gr_trans G2.out hR)
                clear hR hend
                obtain ⟨j0, j1, j2, j3, j4, j5, -⟩ := rowInit HT9.out
                have y0 := HT9.out.frozen 0
                have y1 := HT9.out.frozen 1
                have y2 := HT9.out.frozen 2
                have y3 := HT9.out.frozen 3
                have y4 := HT9.out.frozen 4
                have y5 := HT9.out.frozen 5
                cases q
                · have HRS := hid (show res = (.zero, 7) by
                    rw [HRF.out, if_neg]
                    intro h
                    exact absurd h.2 (by decide))
                  simp only [Bool.not_false]
                  go_wp2_with fail
                  refine rgetInit_ret (.int .u32 0) (.int .u32 0) (.int .u16 0) (.int .u16 0) (.int .u32 0) (.slice none 0 0) 7 rfl rfl rfl ((((((HT9.out.store 0 (.int .u32 0)).store 1 (.int .u32 0)).store 2 (.int .u16 0)).store 3 (.int .u16 0)).store 4 (.int .u32 0)).store 5 (.slice none 0 0)) ⟨.slice none 0 0, by rw [HRS.out]; rfl, ?_, ((((((G9.out.setCell (by simp; try omega) _).setCell (by simp; try omega) _).setCell (by simp; try omega) _).setCell (by simp; try omega) _).setCell (by simp; try omega) _).setCell (by simp; try omega) _)⟩
                  rw [HRS.out]
                  exact Own.nil _ _ _
                · have HRS := hid (show res = (⟨x0, x1, x2, x3, x4, []⟩, 0) by
                    rw [HRF.out, if_pos]
                    exact ⟨by simp [initB, z0, z2, z3], rfl⟩)
                  simp only [Bool.not_true]
                  obtain ⟨i0, i1, i2, i3, i4, i5, -⟩ := rowInit HRW9.out
                  have hne : hh ≠ w.heap.size + 1 := by omega
                  go_wp2_with fail
                  refine rgetInit_ret (.int .u32 (x0 : Int)) (.int .u32 (x1 : Int)) (.int .u16 (x2 : Int)) (.int .u16 (x3 : Int)) (.int .u32 (x4 : Int)) (.slice none 0 0) 0 rfl rfl rfl ((((((HT9.out.store 0 (.int .u32 (x0 : Int))).store 1 (.int .u32 (x1 : Int))).store 2 (.int .u16 (x2 : Int))).store 3 (.int .u16 (x3 : Int))).store 4 (.int .u32 (x4 : Int))).store 5 (.slice none 0 0)) ⟨.slice none 0 0, by rw [HRS.out]; rfl, ?_, ((((((G9.out.setCell (by simp; try omega) _).setCell (by simp; try omega) _).setCell (by simp; try omega) _).setCell (by simp; try omega) _).setCell (by simp; try omega) _).setCell (by simp; try omega) _)⟩
                  rw [HRS.out]
                  show Own _ _ _ _ []
                  exact (HO9.out.keep (r := some (w.heap.size + 1)) (gb_set (gb_set (gb_set (gb_set (gb_set (gb_set (gb_refl _ _) 0 _) 1 _) 2 _) 3 _) 4 _) 5 _) (fun k hk e => by have := HO9.out.ge k hk; simp at e; omega)).base (show w.heap.size ≤ W.heap.size by omega)
  · have n1 : ((kc.toNat : Int) != 1) = true := by rw [bne, kind_eq kc 1 1 rfl, decide_eq_false k1]; rfl
    by_cases k2 : kc = 2
    · have n2 : ((kc.toNat : Int) != 2) = false := by rw [bne, kind_eq kc 2 2 rfl, k2]; rfl
      have e2 : ((kc.toNat : Int) == 2) = true := by rw [kind_eq kc 2 2 rfl, k2]; rfl
      by_cases h16 : bc.length < 16
      · have HRS := hid (show res = (.zero, 7) by rw [HRES.out]; exact initGet_short _ h16)
        have e1 : (bc.length : Int) < 16 := by omega
        clear k1 k2
        go_enter Try.func44, Try.ntmps44
        go_wp2_with fail
        rw [← HE.out]
        refine rgetInit_ret (.int .u32 0) (.int .u32 0) (.int .u16 0) (.int .u16 0) (.int .u32 0) (.slice none 0 0) 7 rfl rfl rfl HT.out ⟨.slice none 0 0, by rw [HRS.out]; rfl, ?_, G0.out⟩
        rw [HRS.out]
        exact Own.nil _ _ _
      · have e1 : ¬ (bc.length : Int) < 16 := by omega
        obtain ⟨y, hy⟩ : ∃ y : Int, y = (x5 : Int) - 4 := ⟨_, rfl⟩
        have hy5 : IntKind.i64.wrap ((x5 : Int) - 4) = y := by rw [IntKind.wrap_i64]; omega
        have hyb : -4 ≤ y ∧ y < 65536 := by omega
        have HDY := hid (show initOf ⟨kc, fc, bc⟩ = ⟨x0, x1, x2, x3, x4, cutAt bc 20 y⟩ by rw [HDO0.out, if_pos k2, HCKD.out, hy])
        have HK1 := hid k1
        have HK2 := hid k2
        clear hy k1 k2
        go_enter Try.func44, Try.ntmps44
        go_wp2_with fail
        rw [← HE.out]
        refine wp_region_tail 22 [Is (.pointer (some ⟨w.heap.size, 2, none⟩)), Is (.slice p bc.length c), Is (.int .u64 (x0 : Int)), Is (.int .u32 (x0 : Int)), Is (.pointer (some ⟨w.heap.size, 2, none⟩)), Is (.slice p bc.length c), Is (.int .u64 (x1 : Int)), Is (.int .u32 (x1 : Int)), Is (.pointer (some ⟨w.heap.size, 2, none⟩)), Is (.slice p bc.length c), Is (.int .u64 (x2 : Int)), Is (.int .u16 (x2 : Int)), Is (.pointer (some ⟨w.heap.size, 2, none⟩)), Is (.slice p bc.length c), Is (.int .u64 (x3 : Int)), Is (.int .u16 (x3 : Int)), Is (.pointer (some ⟨w.heap.size, 2, none⟩)), Is (.slice p bc.length c), Is (.int .u64 (x4 : Int)), Is (.int .u32 (x4 : Int)), Is (.agg #[.int .u32 (x0 : Int), .int .u32 (x1 : Int), .int .u16 (x2 : Int), .int .u16 (x3 : Int), .int .u32 (x4 : Int), .slice none 0 0]), NewF W.heap.size 70 [.int .u32 0, .int .u32 0, .int .u16 0, .int .u16 0, .int .u32 0, .slice none 0 0]] (by kernel_rfl) (by kernel_rfl) (by kernel_rfl) (by kernel_rfl) (by kernel_rfl) (by kernel_rfl) ?_ ?_ ?_
        · simp only [StabAll, Is.gr, RdF.gr, OwnF.gr, AnyF.gr, NewF.gr, and_self]
        · rename_i Kk hKk; clear hKk Kk
          simp only [List.take_succ_cons, List.take_zero, AllOps, List.map_cons, List.map_nil, depsOf, List.filterMap_cons, List.filterMap_nil, Region.binds, depFacts, guardF, reduceIte, List.getD_eq_getElem?_getD, List.getElem?_cons_succ, List.getElem?_cons_zero, Option.getD_some, factAt, and_true]
          refine ⟨?_, ?_, ?_, ?_, ?_, ?_, ?_, ?_, ?_, ?_, ?_, ?_, ?_, ?_, ?_, ?_, ?_, ?_, ?_, ?_, ?_, ?_⟩
          all_goals intro ρ wv hρ hR hd
          all_goals try simp only [Is] at hd
          · exact opOk_val (v := .pointer (some ⟨w.heap.size, 2, none⟩)) (w' := wv) (by simp [execOp, go_sem, hρ.1.const, hρ.1.func, hd, (hρ.2 1 rfl)]) ⟨rfl, GrR.refl _⟩
          · (have h0 := cell?_of_below hR KC2.out; exact opOk_val (v := .slice p bc.length c) (w' := wv) (by simp [execOp, go_sem, hd, h0]) ⟨rfl, GrR.refl _⟩)
          · exact opOk_call hρ.1 rfl rfl Try.func54 (by kernel_rfl) rfl (by simp [hd, hρ.1.const, hρ.1.func]) ((bnumber_any _ bc 0 4 _ _ rfl rfl (by omega) _ ((HV.out.mono G0.out).mono hR) (by omega)).mono fun e w' ⟨h1, h2⟩ => ⟨_, h1, (by rw [HX0.out]; rfl), h2⟩)
          · exact opOk_val (v := .int .u32 (x0 : Int)) (w' := wv) (by simp [execOp, go_sem, hρ.1.const, hρ.1.func, hd, HW0.out]) ⟨rfl, GrR.refl _⟩
          · exact opOk_val (v := .pointer (some ⟨w.heap.size, 2, none⟩)) (w' := wv) (by simp [execOp, go_sem, hρ.1.const, hρ.1.func, hd, (hρ.2 1 rfl)]) ⟨rfl, GrR.refl _⟩
          · (have h0 := cell?_of_below hR KC2.out; exact opOk_val (v := .slice p bc.length c) (w' := wv) (by simp [execOp, go_sem, hd, h0]) ⟨rfl, GrR.refl _⟩)
          · exact opOk_call hρ.1 rfl rfl Try.func54 (by kernel_rfl) rfl (by simp [hd, hρ.1.const, hρ.1.func]) ((bnumber_any _ bc 4 4 _ _ rfl rfl (by omega) _ ((HV.out.mono G0.out).mono hR) (by omega)).mono fun e w' ⟨h1, h2⟩ => ⟨_, h1, (by rw [HX1.out]; rfl), h2⟩)
          · exact opOk_val (v := .int .u32 (x1 : Int)) (w' := wv) (by simp [execOp, go_sem, hρ.1.const, hρ.1.func, hd, HW1.out]) ⟨rfl, GrR.refl _⟩
          · exact opOk_val (v := .pointer (some ⟨w.heap.size, 2, none⟩)) (w' := wv) (by simp [execOp, go_sem, hρ.1.const, hρ.1.func, hd, (hρ.2 1 rfl)]) ⟨rfl, GrR.refl _⟩
          · (have h0 := cell?_of_below hR KC2.out; exact opOk_val (v := .slice p bc.length c) (w' := wv) (by simp [execOp, go_sem, hd, h0]) ⟨rfl, GrR.refl _⟩)
          · exact opOk_call hρ.1 rfl rfl Try.func54 (by kernel_rfl) rfl (by simp [hd, hρ.1.const, hρ.1.func]) ((bnumber_any _ bc 8 2 _ _ rfl rfl (by omega) _ ((HV.out.mono G0.out).mono hR) (by omega)).mono fun e w' ⟨h1, h2⟩ => ⟨_, h1, (by rw [HX2.out]; rfl), h2⟩)
          · exact opOk_val (v := .int .u16 (x2 : Int)) (w' := wv) (by simp [execOp, go_sem, hρ.1.const, hρ.1.func, hd, HW2.out]) ⟨rfl, GrR.refl _⟩
          · exact opOk_val (v := .pointer (some ⟨w.heap.size, 2, none⟩)) (w' := wv) (by simp [execOp, go_sem, hρ.1.const, hρ.1.func, hd, (hρ.2 1 rfl)]) ⟨rfl, GrR.refl _⟩
          · (have h0 := cell?_of_below hR KC2.out; exact opOk_val (v := .slice p bc.length c) (w' := wv) (by simp [execOp, go_sem, hd, h0]) ⟨rfl, GrR.refl _⟩)
          · exact opOk_call hρ.1 rfl rfl Try.func54 (by kernel_rfl) rfl (by simp [hd, hρ.1.const, hρ.1.func]) ((bnumber_any _ bc 10 2 _ _ rfl rfl (by omega) _ ((HV.out.mono G0.out).mono hR) (by omega)).mono fun e w' ⟨h1, h2⟩ => ⟨_, h1, (by rw [HX3.out]; rfl), h2⟩)
          · exact opOk_val (v := .int .u16 (x3 : Int)) (w' := wv) (by simp [execOp, go_sem, hρ.1.const, hρ.1.func, hd, HW3.out]) ⟨rfl, GrR.refl _⟩
          · exact opOk_val (v := .pointer (some ⟨w.heap.size, 2, none⟩)) (w' := wv) (by simp [execOp, go_sem, hρ.1.const, hρ.1.func, hd, (hρ.2 1 rfl)]) ⟨rfl, GrR.refl _⟩
          · (have h0 := cell?_of_below hR KC2.out; exact opOk_val (v := .slice p bc.length c) (w' := wv) (by simp [execOp, go_sem, hd, h0]) ⟨rfl, GrR.refl _⟩)
          · exact opOk_call hρ.1 rfl rfl Try.func54 (by kernel_rfl) rfl (by simp [hd, hρ.1.const, hρ.1.func]) ((bnumber_any _ bc 12 4 _ _ rfl rfl (by omega) _ ((HV.out.mono G0.out).mono hR) (by omega)).mono fun e w' ⟨h1, h2⟩ => ⟨_, h1, (by rw [HX4.out]; rfl), h2⟩)
          · exact opOk_val (v := .int .u32 (x4 : Int)) (w' := wv) (by simp [execOp, go_sem, hρ.1.const, hρ.1.func, hd, HW4.out]) ⟨rfl, GrR.refl _⟩
          · exact opOk_val (v := .agg #[.int .u32 (x0 : Int), .int .u32 (x1 : Int), .int .u16 (x2 : Int), .int .u16 (x3 : Int), .int .u32 (x4 : Int), .slice none 0 0]) (w' := wv) (by simp [execOp, go_sem, hρ.1.const, hρ.1.func, hd]) ⟨rfl, GrR.refl _⟩
          · exact opOk_val (v := .pointer (some ⟨wv.heap.size, 0, none⟩)) (w' := wv.alloc (.cells #[.int .u32 0, .int .u32 0, .int .u16 0, .int .u16 0, .int .u32 0, .slice none 0 0] 70 (0, 0))) (by simp [execOp, go_sem]) ⟨⟨_, rfl, hR.size, RowV.new wv 70 [.int .u32 0, .int .u32 0, .int .u16 0, .int .u16 0, .int .u32 0, .slice none 0 0]⟩, (Below.refl _ _).alloc (Nat.le_refl _) _⟩
        · intro vals wv hR hall
          have i20 := hall 20 (by omega)
          have i21 := hall 21 (by omega)
          simp only [factAt, Is, NewF, List.getD_eq_getElem?_getD, List.getElem?_cons_succ, List.getElem?_cons_zero, Option.getD_some] at i20 i21
          clear hall
          obtain ⟨hh, h21, hge, hrow⟩ := i21
          simp only [List.take_succ_cons, List.take_zero, List.drop_succ_cons, List.drop_zero, fillFrom, Act.put, i20, h21, List.setIfInBounds_toArray, List.set_cons_zero, List.set_cons_succ, Nat.zero_add, Nat.reduceAdd]
          obtain ⟨w1, hw1⟩ : ∃ x, x = wv := ⟨_, rfl⟩
          subst hw1
          have HRW := hid hrow
          obtain ⟨i0, i1, i2, i3, i4, i5, -⟩ := rowInit HRW.out
          have y0 := HRW.out.frozen 0
          have y1 := HRW.out.frozen 1
          have y2 := HRW.out.frozen 2
          have y3 := HRW.out.frozen 3
          have y4 := HRW.out.frozen 4
          have y5 := HRW.out.frozen 5
          obtain ⟨w2, hw2⟩ : ∃ x, x = ((((((w1.setCell ⟨hh, 0, none⟩ (.int .u32 (x0 : Int))).setCell ⟨hh, 1, none⟩ (.int .u32 (x1 : Int))).setCell ⟨hh, 2, none⟩ (.int .u16 (x2 : Int))).setCell ⟨hh, 3, none⟩ (.int .u16 (x3 : Int))).setCell ⟨hh, 4, none⟩ (.int .u32 (x4 : Int))).setCell ⟨hh, 5, none⟩ (.slice none 0 0)) := ⟨_, rfl⟩
          have HRW2 := hid (show RowV w2 hh 70 [.int .u32 (x0 : Int), .int .u32 (x1 : Int), .int .u16 (x2 : Int), .int .u16 (x3 : Int), .int .u32 (x4 : Int), .slice none 0 0] by rw [hw2]; exact ((((((HRW.out.store 0 (.int .u32 (x0 : Int))).store 1 (.int .u32 (x1 : Int))).store 2 (.int .u16 (x2 : Int))).store 3 (.int .u16 (x3 : Int))).store 4 (.int .u32 (x4 : Int))).store 5 (.slice none 0 0)))
          have g2 : w1.grownBy w2 (some hh) := by rw [hw2]; exact gb_set (gb_set (gb_set (gb_set (gb_set (gb_set (gb_refl _ _) 0 _) 1 _) 2 _) 3 _) 4 _) 5 _
          have gq : Below W.heap.size W w2 := hR.trans (gb_below g2 hge hR.size)
          have HC2 := hid (HC.out.mono gq)
          have HT2 := hid (HT.out.mono gq)
          have G2 := hid (gr_trans G0.out gq)
          have SZ2 := hid gq.size
          have HE2 := hid hw2
          have hh2 : w.heap.size + 2 ≤ hh := by omega
          obtain ⟨q0, q1, q2⟩ := HC2.out.three
          rw [hw2] at q0 q1 q2
          clear hw2 g2 gq hR i20 h21 hrow
          go_wp2_with fail
          rw [← HE2.out]
          clear i0 i1 i2 i3 i4 i5 y0 y1 y2 y3 y4 y5 q0 q1 q2
          refine (bnumber_any _ bc 18 2 _ _ rfl rfl (by omega) _ (HV.out.mono G2.out) (by omega)).mono ?_
          rintro e w3 ⟨rfl, hb3⟩
          rw [← HX5.out]
          have HC3 := hid (HC2.out.mono hb3)
          have HT3 := hid (HT2.out.mono hb3)
          have HRW3 := hid (HRW2.out.mono hb3)
          have G3 := hid (gr_trans G2.out hb3)
          have SZ3 := hid (Nat.le_trans SZ2.out hb3.size)
          clear hb3
          obtain ⟨q0, q1, q2⟩ := HC3.out.three
          go_wp2_with fail
          clear q0 q1 q2
          by_cases hin : 0 ≤ y ∧ 20 + y ≤ bc.length
          · obtain ⟨m, rfl⟩ : ∃ m : Nat, y = (m : Int) := ⟨y.toNat, by omega⟩
            refine (refCut_ok _ bc 20 m _ (HV.out.mono G3.out) (by omega) (by omega)).mono ?_
            rintro e w4 ⟨v4, rfl, ho4, hb4⟩
            obtain ⟨bk, hbk⟩ : ∃ l, l = (bc.drop 20).take m := ⟨_, rfl⟩
            have HKL := hid (show bk.length = m by rw [hbk, List.length_take, List.length_drop]; omega)
            have HCA := hid (show cutAt bc 20 (m : Int) = bk by rw [cutAt, if_pos (by omega), hbk]; simp)
            rw [← hbk] at ho4
            obtain ⟨pk, nk, ck, rfl⟩ := ho4.rd.form
            have HO4 := hid ho4
            have HC4 := hid (HC3.out.mono hb4)
            have HT4 := hid (HT3.out.mono hb4)
            have HRW4 := hid (HRW3.out.mono hb4)
            have G4 := hid (gr_trans G3.out hb4)
            clear ho4 hb4 hbk
            by_cases hm : m = 0
            · have hm1 : (m : Int) < 1 := by omega
              have HRS := hid (show res = (.zero, 7) by rw [HRES.out]; exact initGet_ck _ HK1.out (by rw [HDY.out, HCA.out]; show bk.length = 0; rw [HKL.out, hm]))
              obtain ⟨j0, j1, j2, j3, j4, j5, -⟩ := rowInit HT4.out
              have y0 := HT4.out.frozen 0
              have y1 := HT4.out.frozen 1
              have y2 := HT4.out.frozen 2
              have y3 := HT4.out.frozen 3
              have y4 := HT4.out.frozen 4
              have y5 := HT4.out.frozen 5
              go_wp2_with fail
              refine rgetInit_ret (.int .u32 0) (.int .u32 0) (.int .u16 0) (.int .u16 0) (.int .u32 0) (.slice none 0 0) 7 rfl rfl rfl ((((((HT4.out.store 0 (.int .u32 0)).store 1 (.int .u32 0)).store 2 (.int .u16 0)).store 3 (.int .u16 0)).store 4 (.int .u32 0)).store 5 (.slice none 0 0)) ⟨.slice none 0 0, by rw [HRS.out]; rfl, ?_, ((((((G4.out.setCell (by simp; try omega) _).setCell (by simp; try omega) _).setCell (by simp; try omega) _).setCell (by simp; try omega) _).setCell (by simp; try omega) _).setCell (by simp; try omega) _)⟩
              rw [HRS.out]
              exact Own.nil _ _ _
            · have hm1 : ¬ (m : Int) < 1 := by omega
              have HRG := hid (HRES.out.trans (initGet_fin ⟨kc, fc, bc⟩ (.inr ⟨HK2.out, by rw [HDY.out, HCA.out]; show 0 < bk.length; rw [HKL.out]; omega⟩)))
              have HDO := hid (show initOf ⟨kc, fc, bc⟩ = ⟨x0, x1, x2, x3, x4, bk⟩ by rw [HDY.out, HCA.out])
              have HBL := hid (show bk.length ≤ 1000000 by rw [HKL.out]; omega)
              have t5 := HRW4.out.at 5 (by simp)
              simp only [List.getElem_cons_succ, List.getElem_cons_zero] at t5
              have u5 := HRW4.out.frozen 5
              obtain ⟨w5, hw5⟩ : ∃ x, x = w4.setCell ⟨hh, 5, none⟩ (.slice pk nk ck) := ⟨_, rfl⟩
              have HRW5 := hid (show RowV w5 hh 70 [.int .u32 (x0 : Int), .int .u32 (x1 : Int), .int .u16 (x2 : Int), .int .u16 (x3 : Int), .int .u32 (x4 : Int), .slice pk nk ck] by rw [hw5]; exact HRW4.out.store 5 _)
              have g5 : w4.grownBy w5 (some hh) := by rw [hw5]; exact gb_set (gb_refl _ _) 5 _
              have HC5 := hid (HC4.out.grown g5 (fun e => by simp at e; omega))
              have HT5 := hid (HT4.out.grown g5 (fun e => by simp at e; omega))
              have HO5 := hid ((HO4.out.keep g5 (HO4.out.neV HRW4.out (by decide))).base SZ3.out)
              have G5 := hid (show Below w.heap.size w w5 by rw [hw5]; exact G4.out.setCell (by show w.heap.size ≤ hh; omega) _)
              have HE5 := hid hw5
              clear hw5 g5
              go_wp2_with fail
              rw [← HE5.out]
              clear t5 u5
              have KI0 := hid (HRW5.out.at 0 (by simp))
              have KI2 := hid (HRW5.out.at 2 (by simp))
              have KI3 := hid (HRW5.out.at 3 (by simp))
              have KK0 := hid (HC5.out.at 0 (by simp))
              simp only [List.getElem_cons_succ, List.getElem_cons_zero] at KI0 KI2 KI3 KK0
              obtain ⟨q, hq⟩ : ∃ q, q = chkEq (InitD.chk kc ⟨x0, x1, x2, x3, x4, bk⟩) ⟨kc, fc, bc⟩ := ⟨_, rfl⟩
              have HQ := hid hq
              have HRF := hid (show res = if initB ⟨x0, x1, x2, x3, x4, bk⟩ = true ∧ q = true then (⟨x0, x1, x2, x3, x4, bk⟩, 0) else (.zero, 7) by
                rw [HRG.out, HDO.out, hq, chkEq_dec]
                by_cases e : InitD.chk kc ⟨x0, x1, x2, x3, x4, bk⟩ = ⟨kc, fc, bc⟩ <;> simp [e])
              clear hq
              by_cases z0 : x0 = 0
              · have za := z0
                have HZ0 := hid (show ((x0 : Int) == 0) = true by rw [z0]; rfl)
                refine wp_region_gr [Is (.pointer (some ⟨hh, 0, none⟩)), Is (.int .u32 (x0 : Int)), Is (.bool true), Is (.bool true), AnyF, AnyF, AnyF, Is (.bool true), Is (.bool true), AnyF, AnyF, AnyF, Is (.bool true), Is (.bool true), AnyF, AnyF, AnyF, AnyF, AnyF, AnyF, AnyF, Is (.bool true)] (by kernel_rfl) (by kernel_rfl) (by kernel_rfl) ?_ ?_ ?_
                · simp only [StabAll, Is.gr, RdF.gr, OwnF.gr, AnyF.gr, and_self]
                · rename_i Kk hKk; clear hKk Kk
                  simp only [AllOps, List.map_cons, List.map_nil, depsOf, List.filterMap_cons, List.filterMap_nil, Region.binds, depFacts, guardF, reduceIte, List.getD_eq_getElem?_getD, List.getElem?_cons_succ, List.getElem?_cons_zero, Option.getD_some, factAt, and_true]
                  refine ⟨?_, ?_, ?_, ?_, ?_, ?_, ?_, ?_, ?_, ?_, ?_, ?_, ?_, ?_, ?_, ?_, ?_, ?_, ?_, ?_, ?_, ?_⟩
                  all_goals intro ρ wv hρ hR hd
                  all_goals try simp only [Is] at hd
                  · exact opOk_val (v := .pointer (some ⟨hh, 0, none⟩)) (w' := wv) (by simp [execOp, go_sem, hρ.1.const, hρ.1.func, hd, (hρ.2 4 rfl)]) ⟨rfl, GrR.refl _⟩
                  · (have h0 := cell?_of_below hR KI0.out; exact opOk_val (v := .int .u32 (x0 : Int)) (w' := wv) (by simp [execOp, go_sem, hd, h0]) ⟨rfl, GrR.refl _⟩)
                  · exact opOk_val (v := .bool true) (w' := wv) (by simp [execOp, go_sem, hρ.1.const, hρ.1.func, hd, HZ0.out]) ⟨rfl, GrR.refl _⟩
                  · exact opOk_move (.inl rfl) ⟨by simp only [Is]; (first | exact hρ.2 70 rfl | exact hd | exact hd.1 | exact hd.2 | simp [hd]), GrR.refl _⟩
                  · exact ⟨fun hg => absurd hg (by simp [hd]), fun _ => trivial⟩
                  · exact ⟨fun hg => absurd hg (by simp [hd]), fun _ => trivial⟩
                  · exact ⟨fun hg => absurd hg (by simp [hd]), fun _ => trivial⟩
                  · exact opOk_val (v := .bool true) (w' := wv) (by simp [execOp, go_sem, hρ.1.const, hρ.1.func, hd]) ⟨rfl, GrR.refl _⟩
                  · exact opOk_move (.inl rfl) ⟨by simp only [Is]; (first | exact hρ.2 75 rfl | exact hd | exact hd.1 | exact hd.2 | simp [hd]), GrR.refl _⟩
                  · exact ⟨fun hg => absurd hg (by simp [hd]), fun _ => trivial⟩
                  · exact ⟨fun hg => absurd hg (by simp [hd]), fun _ => trivial⟩
                  · exact ⟨fun hg => absurd hg (by simp [hd]), fun _ => trivial⟩
                  · exact opOk_val (v := .bool true) (w' := wv) (by simp [execOp, go_sem, hρ.1.const, hρ.1.func, hd]) ⟨rfl, GrR.refl _⟩
                  · exact opOk_move (.inl rfl) ⟨by simp only [Is]; (first | exact hρ.2 80 rfl | exact hd | exact hd.1 | exact hd.2 | simp [hd]), GrR.refl _⟩
                  · exact ⟨fun hg => absurd hg (by simp [hd]), fun _ => trivial⟩
                  · exact ⟨fun hg => absurd hg (by simp [hd]), fun _ => trivial⟩
                  · exact ⟨fun hg => absurd hg (by simp [hd]), fun _ => trivial⟩
                  · exact ⟨fun hg => absurd hg (by simp [hd]), fun _ => trivial⟩
                  · exact ⟨fun hg => absurd hg (by simp [hd]), fun _ => trivial⟩
                  · exact ⟨fun hg => absurd hg (by simp [hd]), fun _ => trivial⟩
                  · exact ⟨fun hg => absurd hg (by simp [hd]), fun _ => trivial⟩
                  · exact opOk_val (v := .bool true) (w' := wv) (by simp [execOp, go_sem, hρ.1.const, hρ.1.func, hd]) ⟨rfl, GrR.refl _⟩
                · intro vals wv hR hall
                  have hend := hall 21 (by simp)
                  simp only [factAt, Is, List.getD_eq_getElem?_getD, List.getElem?_cons_succ, List.getElem?_cons_zero, Option.getD_some] at hend
                  clear hall
                  simp only [fillFrom, Act.put, hend, List.setIfInBounds_toArray, List.set_cons_zero, List.set_cons_succ]
                  obtain ⟨w9, hw9⟩ : ∃ x, x = wv := ⟨_, rfl⟩
                  subst hw9
                  have HT9 := hid (HT5.out.mono hR)
                  have HRW9 := hid (HRW5.out.mono hR)
                  have HO9 := hid (HO5.out.mono hR)
                  have G9 := hid (gr_trans G5.out hR)
                  clear hR hend
                  obtain ⟨j0, j1, j2, j3, j4, j5, -⟩ := rowInit HT9.out
                  have y0 := HT9.out.frozen 0
                  have y1 := HT9.out.frozen 1
                  have y2 := HT9.out.frozen 2
                  have y3 := HT9.out.frozen 3
                  have y4 := HT9.out.frozen 4
                  have y5 := HT9.out.frozen 5
                  have HRS := hid (show res = (.zero, 7) by
                    rw [HRF.out, if_neg]
                    intro h
                    have h1 := h.1
                    simp [initB, za] at h1)
                  go_wp2_with fail
                  refine rgetInit_ret (.int .u32 0) (.int .u32 0) (.int .u16 0) (.int .u16 0) (.int .u32 0) (.slice none 0 0) 7 rfl rfl rfl ((((((HT9.out.store 0 (.int .u32 0)).store 1 (.int .u32 0)).store 2 (.int .u16 0)).store 3 (.int .u16 0)).store 4 (.int .u32 0)).store 5 (.slice none 0 0)) ⟨.slice none 0 0, by rw [HRS.out]; rfl, ?_, ((((((G9.out.setCell (by simp; try omega) _).setCell (by simp; try omega) _).setCell (by simp; try omega) _).setCell (by simp; try omega) _).setCell (by simp; try omega) _).setCell (by simp; try omega) _)⟩
                  rw [HRS.out]
                  exact Own.nil _ _ _
              · have HZ0 := hid (show ((x0 : Int) == 0) = false by simp; exact z0)
                by_cases z2 : x2 = 0
                · have za := z2
                  have HZ2 := hid (show ((x2 : Int) == 0) = true by rw [z2]; rfl)
                  refine wp_region_gr [Is (.pointer (some ⟨hh, 0, none⟩)), Is (.int .u32 (x0 : Int)), Is (.bool false), Is (.bool false), Is (.pointer (some ⟨hh, 2, none⟩)), Is (.int .u16 (x2 : Int)), Is (.bool true), Is (.bool true), Is (.bool true), AnyF, AnyF, AnyF, Is (.bool true), Is (.bool true), AnyF, AnyF, AnyF, AnyF, AnyF, AnyF, AnyF, Is (.bool true)] (by kernel_rfl) (by kernel_rfl) (by kernel_rfl) ?_ ?_ ?_
                  · simp only [StabAll, Is.gr, RdF.gr, OwnF.gr, AnyF.gr, and_self]
                  · rename_i Kk hKk; clear hKk Kk
                    simp only [AllOps, List.map_cons, List.map_nil, depsOf, List.filterMap_cons, List.filterMap_nil, Region.binds, depFacts, guardF, reduceIte, List.getD_eq_getElem?_getD, List.getElem?_cons_succ, List.getElem?_cons_zero, Option.getD_some, factAt, and_true]
                    refine ⟨?_, ?_, ?_, ?_, ?_, ?_, ?_, ?_, ?_, ?_, ?_, ?_, ?_, ?_, ?_, ?_, ?_, ?_, ?_, ?_, ?_, ?_⟩
                    all_goals intro ρ wv hρ hR hd
                    all_goals try simp only [Is] at hd
                    · exact opOk_val (v := .pointer (some ⟨hh, 0, none⟩)) (w' := wv) (by simp [execOp, go_sem, hρ.1.const, hρ.1.func, hd, (hρ.2 4 rfl)]) ⟨rfl, GrR.refl _⟩
                    · (have h0 := cell?_of_below hR KI0.out; exact opOk_val (v := .int .u32 (x0 : Int)) (w' := wv) (by simp [execOp, go_sem, hd, h0]) ⟨rfl, GrR.refl _⟩)
                    · exact opOk_val (v := .bool false) (w' := wv) (by simp [execOp, go_sem, hρ.1.const, hρ.1.func, hd, HZ0.out]) ⟨rfl, GrR.refl _⟩
                    · exact opOk_move (.inl rfl) ⟨by simp only [Is]; (first | exact hρ.2 70 rfl | exact hd | exact hd.1 | exact hd.2 | simp [hd]), GrR.refl _⟩
                    · refine ⟨fun _ => ?_, fun hg => absurd (by simp [hd]) hg⟩; exact opOk_val (v := .pointer (some ⟨hh, 2, none⟩)) (w' := wv) (by simp [execOp, go_sem, hρ.1.const, hρ.1.func, hd, (hρ.2 4 rfl)]) ⟨rfl, GrR.refl _⟩
                    · refine ⟨fun _ => ?_, fun hg => absurd (by simp [hd]) hg⟩; (have h0 := cell?_of_below hR KI2.out; exact opOk_val (v := .int .u16 (x2 : Int)) (w' := wv) (by simp [execOp, go_sem, hd, h0]) ⟨rfl, GrR.refl _⟩)
                    · refine ⟨fun _ => ?_, fun hg => absurd (by simp [hd]) hg⟩; exact opOk_val (v := .bool true) (w' := wv) (by simp [execOp, go_sem, hρ.1.const, hρ.1.func, hd, HZ2.out]) ⟨rfl, GrR.refl _⟩
                    · exact opOk_val (v := .bool true) (w' := wv) (by simp [execOp, go_sem, hρ.1.const, hρ.1.func, hd]) ⟨rfl, GrR.refl _⟩
                    · exact opOk_move (.inl rfl) ⟨by simp only [Is]; (first | exact hρ.2 75 rfl | exact hd | exact hd.1 | exact hd.2 | simp [hd]), GrR.refl _⟩
                    · exact ⟨fun hg => absurd hg (by simp [hd]), fun _ => trivial⟩
                    · exact ⟨fun hg => absurd hg (by simp [hd]), fun _ => trivial⟩
                    · exact ⟨fun hg => absurd hg (by simp [hd]), fun _ => trivial⟩
                    · exact opOk_val (v := .bool true) (w' := wv) (by simp [execOp, go_sem, hρ.1.const, hρ.1.func, hd]) ⟨rfl, GrR.refl _⟩
                    · exact opOk_move (.inl rfl) ⟨by simp only [Is]; (first | exact hρ.2 80 rfl | exact hd | exact hd.1 | exact hd.2 | simp [hd]), GrR.refl _⟩
                    · exact ⟨fun hg => absurd hg (by simp [hd]), fun _ => trivial⟩
                    · exact ⟨fun hg => absurd hg (by simp [hd]), fun _ => trivial⟩
                    · exact ⟨fun hg => absurd hg (by simp [hd]), fun _ => trivial⟩
                    · exact ⟨fun hg => absurd hg (by simp [hd]), fun _ => trivial⟩
                    · exact ⟨fun hg => absurd hg (by simp [hd]), fun _ => trivial⟩
                    · exact ⟨fun hg => absurd hg (by simp [hd]), fun _ => trivial⟩
                    · exact ⟨fun hg => absurd hg (by simp [hd]), fun _ => trivial⟩
                    · exact opOk_val (v := .bool true) (w' := wv) (by simp [execOp, go_sem, hρ.1.const, hρ.1.func, hd]) ⟨rfl, GrR.refl _⟩
                  · intro vals wv hR hall
                    have hend := hall 21 (by simp)
                    simp only [factAt, Is, List.getD_eq_getElem?_getD, List.getElem?_cons_succ, List.getElem?_cons_zero, Option.getD_some] at hend
                    clear hall
                    simp only [fillFrom, Act.put, hend, List.setIfInBounds_toArray, List.set_cons_zero, List.set_cons_succ]
                    obtain ⟨w9, hw9⟩ : ∃ x, x = wv := ⟨_, rfl⟩
                    subst hw9
                    have HT9 := hid (HT5.out.mono hR)
                    have HRW9 := hid (HRW5.out.mono hR)
                    have HO9 := hid (HO5.out.mono hR)
                    have G9 := hid (gr_trans G5.out hR)
                    clear hR hend
                    obtain ⟨j0, j1, j2, j3, j4, j5, -⟩ := rowInit HT9.out
                    have y0 := HT9.out.frozen 0
                    have y1 := HT9.out.frozen 1
                    have y2 := HT9.out.frozen 2
                    have y3 := HT9.out.frozen 3
                    have y4 := HT9.out.frozen 4
                    have y5 := HT9.out.frozen 5
                    have HRS := hid (show res = (.zero, 7) by
                      rw [HRF.out, if_neg]
                      intro h
                      have h1 := h.1
                      simp [initB, za] at h1)
                    go_wp2_with fail
                    refine rgetInit_ret (.int .u32 0) (.int .u32 0) (.int .u16 0) (.int .u16 0) (.int .u32 0) (.slice none 0 0) 7 rfl rfl rfl ((((((HT9.out.store 0 (.int .u32 0)).store 1 (.int .u32 0)).store 2 (.int .u16 0)).store 3 (.int .u16 0)).store 4 (.int .u32 0)).store 5 (.slice none 0 0)) ⟨.slice none 0 0, by rw [HRS.out]; rfl, ?_, ((((((G9.out.setCell (by simp; try omega) _).setCell (by simp; try omega) _).setCell (by simp; try omega) _).setCell (by simp; try omega) _).setCell (by simp; try omega) _).setCell (by simp; try omega) _)⟩
                    rw [HRS.out]
                    exact Own.nil _ _ _
                · have HZ2 := hid (show ((x2 : Int) == 0) = false by simp; exact z2)
                  by_cases z3 : x3 = 0
                  · have za := z3
                    have HZ3 := hid (show ((x3 : Int) == 0) = true by rw [z3]; rfl)
                    refine wp_region_gr [Is (.pointer (some ⟨hh, 0, none⟩)), Is (.int .u32 (x0 : Int)), Is (.bool false), Is (.bool false), Is (.pointer (some ⟨hh, 2, none⟩)), Is (.int .u16 (x2 : Int)), Is (.bool false), Is (.bool false), Is (.bool false), Is (.pointer (some ⟨hh, 3, none⟩)), Is (.int .u16 (x3 : Int)), Is (.bool true), Is (.bool true), Is (.bool true), AnyF, AnyF, AnyF, AnyF, AnyF, AnyF, AnyF, Is (.bool true)] (by kernel_rfl) (by kernel_rfl) (by kernel_rfl) ?_ ?_ ?_
                    · simp only [StabAll, Is.gr, RdF.gr, OwnF.gr, AnyF.gr, and_self]
                    · rename_i Kk hKk; clear hKk Kk
                      simp only [AllOps, List.map_cons, List.map_nil, depsOf, List.filterMap_cons, List.filterMap_nil, Region.binds, depFacts, guardF, reduceIte, List.getD_eq_getElem?_getD, List.getElem?_cons_succ, List.getElem?_cons_zero, Option.getD_some, factAt, and_true]
                      refine ⟨?_, ?_, ?_, ?_, ?_, ?_, ?_, ?_, ?_, ?_, ?_, ?_, ?_, ?_, ?_, ?_, ?_, ?_, ?_, ?_, ?_, ?_⟩
                      all_goals intro ρ wv hρ hR hd
                      all_goals try simp only [Is] at hd
                      · exact opOk_val (v := .pointer (some ⟨hh, 0, none⟩)) (w' := wv) (by simp [execOp, go_sem, hρ.1.const, hρ.1.func, hd, (hρ.2 4 rfl)]) ⟨rfl, GrR.refl _⟩
                      · (have h0 := cell?_of_below hR KI0.out; exact opOk_val (v := .int .u32 (x0 : Int)) (w' := wv) (by simp [execOp, go_sem, hd, h0]) ⟨rfl, GrR.refl _⟩)
                      · exact opOk_val (v := .bool false) (w' := wv) (by simp [execOp, go_sem, hρ.1.const, hρ.1.func, hd, HZ0.out]) ⟨rfl, GrR.refl _⟩
                      · exact opOk_move (.inl rfl) ⟨by simp only [Is]; (first | exact hρ.2 70 rfl | exact hd | exact hd.1 | exact hd.2 | simp [hd]), GrR.refl _⟩
                      · refine ⟨fun _ => ?_, fun hg => absurd (by simp [hd]) hg⟩; exact opOk_val (v := .pointer (some ⟨hh, 2, none⟩)) (w' := wv) (by simp [execOp, go_sem, hρ.1.const, hρ.1.func, hd, (hρ.2 4 rfl)]) ⟨rfl, GrR.refl _⟩
                      · refine ⟨fun _ => ?_, fun hg => absurd (by simp [hd]) hg⟩; (have h0 := cell?_of_below hR KI2.out; exact opOk_val (v := .int .u16 (x2 : Int)) (w' := wv) (by simp [execOp, go_sem, hd, h0]) ⟨rfl, GrR.refl _⟩)
                      · refine ⟨fun _ => ?_, fun hg => absurd (by simp [hd]) hg⟩; exact opOk_val (v := .bool false) (w' := wv) (by simp [execOp, go_sem, hρ.1.const, hρ.1.func, hd, HZ2.out]) ⟨rfl, GrR.refl _⟩
                      · exact opOk_val (v := .bool false) (w' := wv) (by simp [execOp, go_sem, hρ.1.const, hρ.1.func, hd]) ⟨rfl, GrR.refl _⟩
                      · exact opOk_move (.inl rfl) ⟨by simp only [Is]; (first | exact hρ.2 75 rfl | exact hd | exact hd.1 | exact hd.2 | simp [hd]), GrR.refl _⟩
                      · refine ⟨fun _ => ?_, fun hg => absurd (by simp [hd]) hg⟩; exact opOk_val (v := .pointer (some ⟨hh, 3, none⟩)) (w' := wv) (by simp [execOp, go_sem, hρ.1.const, hρ.1.func, hd, (hρ.2 4 rfl)]) ⟨rfl, GrR.refl _⟩
                      · refine ⟨fun _ => ?_, fun hg => absurd (by simp [hd]) hg⟩; (have h0 := cell?_of_below hR KI3.out; exact opOk_val (v := .int .u16 (x3 : Int)) (w' := wv) (by simp [execOp, go_sem, hd, h0]) ⟨rfl, GrR.refl _⟩)
                      · refine ⟨fun _ => ?_, fun hg => absurd (by simp [hd]) hg⟩; exact opOk_val (v := .bool true) (w' := wv) (by simp [execOp, go_sem, hρ.1.const, hρ.1.func, hd, HZ3.out]) ⟨rfl, GrR.refl _⟩
                      · exact opOk_val (v := .bool true) (w' := wv) (by simp [execOp, go_sem, hρ.1.const, hρ.1.func, hd]) ⟨rfl, GrR.refl _⟩
                      · exact opOk_move (.inl rfl) ⟨by simp only [Is]; (first | exact hρ.2 80 rfl | exact hd | exact hd.1 | exact hd.2 | simp [hd]), GrR.refl _⟩
                      · exact ⟨fun hg => absurd hg (by simp [hd]), fun _ => trivial⟩
                      · exact ⟨fun hg => absurd hg (by simp [hd]), fun _ => trivial⟩
                      · exact ⟨fun hg => absurd hg (by simp [hd]), fun _ => trivial⟩
                      · exact ⟨fun hg => absurd hg (by simp [hd]), fun _ => trivial⟩
                      · exact ⟨fun hg => absurd hg (by simp [hd]), fun _ => trivial⟩
                      · exact ⟨fun hg => absurd hg (by simp [hd]), fun _ => trivial⟩
                      · exact ⟨fun hg => absurd hg (by simp [hd]), fun _ => trivial⟩
                      · exact opOk_val (v := .bool true) (w' := wv) (by simp [execOp, go_sem, hρ.1.const, hρ.1.func, hd]) ⟨rfl, GrR.refl _⟩
                    · intro vals wv hR hall
                      have hend := hall 21 (by simp)
                      simp only [factAt, Is, List.getD_eq_getElem?_getD, List.getElem?_cons_succ, List.getElem?_cons_zero, Option.getD_some] at hend
                      clear hall
                      simp only [fillFrom, Act.put, hend, List.setIfInBounds_toArray, List.set_cons_zero, List.set_cons_succ]
                      obtain ⟨w9, hw9⟩ : ∃ x, x = wv := ⟨_, rfl⟩
                      subst hw9
                      have HT9 := hid (HT5.out.mono hR)
                      have HRW9 := hid (HRW5.out.mono hR)
                      have HO9 := hid (HO5.out.mono hR)
                      have G9 := hid (gr_trans G5.out hR)
                      clear hR hend
                      obtain ⟨j0, j1, j2, j3, j4, j5, -⟩ := rowInit HT9.out
                      have y0 := HT9.out.frozen 0
                      have y1 := HT9.out.frozen 1
                      have y2 := HT9.out.frozen 2
                      have y3 := HT9.out.frozen 3
                      have y4 := HT9.out.frozen 4
                      have y5 := HT9.out.frozen 5
                      have HRS := hid (show res = (.zero, 7) by
                        rw [HRF.out, if_neg]
                        intro h
                        have h1 := h.1
                        simp [initB, za] at h1)
                      go_wp2_with fail
                      refine rgetInit_ret (.int .u32 0) (.int .u32 0) (.int .u16 0) (.int .u16 0) (.int .u32 0) (.slice none 0 0) 7 rfl rfl rfl ((((((HT9.out.store 0 (.int .u32 0)).store 1 (.int .u32 0)).store 2 (.int .u16 0)).store 3 (.int .u16 0)).store 4 (.int .u32 0)).store 5 (.slice none 0 0)) ⟨.slice none 0 0, by rw [HRS.out]; rfl, ?_, ((((((G9.out.setCell (by simp; try omega) _).setCell (by simp; try omega) _).setCell (by simp; try omega) _).setCell (by simp; try omega) _).setCell (by simp; try omega) _).setCell (by simp; try omega) _)⟩
                      rw [HRS.out]
                      exact Own.nil _ _ _
                  · have HZ3 := hid (show ((x3 : Int) == 0) = false by simp; exact z3)
                    refine wp_region_gr [Is (.pointer (some ⟨hh, 0, none⟩)), Is (.int .u32 (x0 : Int)), Is (.bool false), Is (.bool false), Is (.pointer (some ⟨hh, 2, none⟩)), Is (.int .u16 (x2 : Int)), Is (.bool false), Is (.bool false), Is (.bool false), Is (.pointer (some ⟨hh, 3, none⟩)), Is (.int .u16 (x3 : Int)), Is (.bool false), Is (.bool false), Is (.bool false), Is (.pointer (some ⟨w.heap.size, 0, none⟩)), Is (.int .u8 (kc.toNat : Int)), Is (.agg ([.int .u32 (x0 : Int), .int .u32 (x1 : Int), .int .u16 (x2 : Int), .int .u16 (x3 : Int), .int .u32 (x4 : Int), .slice pk nk ck]).toArray), ChkF (InitD.chk kc ⟨x0, x1, x2, x3, x4, bk⟩), Is (.agg ([.int .u8 (kc.toNat : Int), .int .u8 (fc.toNat : Int), .slice p bc.length c]).toArray), Is (.bool q), Is (.bool (!q)), Is (.bool (!q))] (by kernel_rfl) (by kernel_rfl) (by kernel_rfl) ?_ ?_ ?_
                    · simp only [StabAll, Is.gr, RdF.gr, OwnF.gr, AnyF.gr, ChkF.gr, and_self]
                    · rename_i Kk hKk; clear hKk Kk
                      simp only [AllOps, List.map_cons, List.map_nil, depsOf, List.filterMap_cons, List.filterMap_nil, Region.binds, depFacts, guardF, reduceIte, List.getD_eq_getElem?_getD, List.getElem?_cons_succ, List.getElem?_cons_zero, Option.getD_some, factAt, and_true]
                      refine ⟨?_, ?_, ?_, ?_, ?_, ?_, ?_, ?_, ?_, ?_, ?_, ?_, ?_, ?_, ?_, ?_, ?_, ?_, ?_, ?_, ?_, ?_⟩
                      all_goals intro ρ wv hρ hR hd
                      all_goals try simp only [Is] at hd
                      · exact opOk_val (v := .pointer (some ⟨hh, 0, none⟩)) (w' := wv) (by simp [execOp, go_sem, hρ.1.const, hρ.1.func, hd, (hρ.2 4 rfl)]) ⟨rfl, GrR.refl _⟩
                      · (have h0 := cell?_of_below hR KI0.out; exact opOk_val (v := .int .u32 (x0 : Int)) (w' := wv) (by simp [execOp, go_sem, hd, h0]) ⟨rfl, GrR.refl _⟩)
                      · exact opOk_val (v := .bool false) (w' := wv) (by simp [execOp, go_sem, hρ.1.const, hρ.1.func, hd, HZ0.out]) ⟨rfl, GrR.refl _⟩
                      · exact opOk_move (.inl rfl) ⟨by simp only [Is]; (first | exact hρ.2 70 rfl | exact hd | exact hd.1 | exact hd.2 | simp [hd]), GrR.refl _⟩
                      · refine ⟨fun _ => ?_, fun hg => absurd (by simp [hd]) hg⟩; exact opOk_val (v := .pointer (some ⟨hh, 2, none⟩)) (w' := wv) (by simp [execOp, go_sem, hρ.1.const, hρ.1.func, hd, (hρ.2 4 rfl)]) ⟨rfl, GrR.refl _⟩
                      · refine ⟨fun _ => ?_, fun hg => absurd (by simp [hd]) hg⟩; (have h0 := cell?_of_below hR KI2.out; exact opOk_val (v := .int .u16 (x2 : Int)) (w' := wv) (by simp [execOp, go_sem, hd, h0]) ⟨rfl, GrR.refl _⟩)
                      · refine ⟨fun _ => ?_, fun hg => absurd (by simp [hd]) hg⟩; exact opOk_val (v := .bool false) (w' := wv) (by simp [execOp, go_sem, hρ.1.const, hρ.1.func, hd, HZ2.out]) ⟨rfl, GrR.refl _⟩
                      · exact opOk_val (v := .bool false) (w' := wv) (by simp [execOp, go_sem, hρ.1.const, hρ.1.func, hd]) ⟨rfl, GrR.refl _⟩
                      · exact opOk_move (.inl rfl) ⟨by simp only [Is]; (first | exact hρ.2 75 rfl | exact hd | exact hd.1 | exact hd.2 | simp [hd]), GrR.refl _⟩
                      · refine ⟨fun _ => ?_, fun hg => absurd (by simp [hd]) hg⟩; exact opOk_val (v := .pointer (some ⟨hh, 3, none⟩)) (w' := wv) (by simp [execOp, go_sem, hρ.1.const, hρ.1.func, hd, (hρ.2 4 rfl)]) ⟨rfl, GrR.refl _⟩
                      · refine ⟨fun _ => ?_, fun hg => absurd (by simp [hd]) hg⟩; (have h0 := cell?_of_below hR KI3.out; exact opOk_val (v := .int .u16 (x3 : Int)) (w' := wv) (by simp [execOp, go_sem, hd, h0]) ⟨rfl, GrR.refl _⟩)
                      · refine ⟨fun _ => ?_, fun hg => absurd (by simp [hd]) hg⟩; exact opOk_val (v := .bool false) (w' := wv) (by simp [execOp, go_sem, hρ.1.const, hρ.1.func, hd, HZ3.out]) ⟨rfl, GrR.refl _⟩
                      · exact opOk_val (v := .bool false) (w' := wv) (by simp [execOp, go_sem, hρ.1.const, hρ.1.func, hd]) ⟨rfl, GrR.refl _⟩
                      · exact opOk_move (.inl rfl) ⟨by simp only [Is]; (first | exact hρ.2 80 rfl | exact hd | exact hd.1 | exact hd.2 | simp [hd]), GrR.refl _⟩
                      · refine ⟨fun _ => ?_, fun hg => absurd (by simp [hd]) hg⟩; exact opOk_val (v := .pointer (some ⟨w.heap.size, 0, none⟩)) (w' := wv) (by simp [execOp, go_sem, hρ.1.const, hρ.1.func, hd, (hρ.2 1 rfl)]) ⟨rfl, GrR.refl _⟩
                      · refine ⟨fun _ => ?_, fun hg => absurd (by simp [hd]) hg⟩; (have h0 := cell?_of_below hR KK0.out; exact opOk_val (v := .int .u8 (kc.toNat : Int)) (w' := wv) (by simp [execOp, go_sem, hd, h0]) ⟨rfl, GrR.refl _⟩)
                      · refine ⟨fun _ => ?_, fun hg => absurd (by simp [hd]) hg⟩; exact opOk_loadRow rfl (hh) (by first | exact hρ.2 _ rfl | simp [hd]) _ ([.int .u32 (x0 : Int), .int .u32 (x1 : Int), .int .u16 (x2 : Int), .int .u16 (x3 : Int), .int .u32 (x4 : Int), .slice pk nk ck]) _ (HRW5.out.mono hR) Try.underlying70 rfl (by kernel_rfl) ⟨rfl, GrR.refl _⟩
                      · refine ⟨fun _ => ?_, fun hg => absurd (by simp [hd]) hg⟩; exact opOk_call hρ.1 rfl rfl Try.func45 (by kernel_rfl) rfl (by simp [hd, hρ.1.const, hρ.1.func]) ((rputInit_any kc _ ⟨x0, x1, x2, x3, x4, bk⟩ ⟨by omega, by omega, by omega, by omega, by omega⟩ _ ⟨_, rfl, HO5.out.rd.mono hR⟩ HBL.out).mono fun e w' ⟨s, h1, h2, h3⟩ => ⟨_, h1, ⟨s, rfl, h2.rd⟩, h3⟩)
                      · refine ⟨fun _ => ?_, fun hg => absurd (by simp [hd]) hg⟩; exact opOk_loadRow rfl (w.heap.size) (by first | exact hρ.2 _ rfl | simp [hd]) _ ([.int .u8 (kc.toNat : Int), .int .u8 (fc.toNat : Int), .slice p bc.length c]) _ (HC5.out.mono hR) Try.underlying28 rfl (by kernel_rfl) ⟨rfl, GrR.refl _⟩
                      · refine ⟨fun _ => ?_, fun hg => absurd (by simp [hd]) hg⟩; exact opOk_call hρ.1 rfl rfl Try.func18 (by kernel_rfl) rfl (by simp [hd, hρ.1.const, hρ.1.func]) ((chkSame_any (ρ (.tmp 85)) _ (InitD.chk kc ⟨x0, x1, x2, x3, x4, bk⟩) ⟨kc, fc, bc⟩ _ hd.1 ⟨_, rfl, (HV.out.mono G5.out).mono hR⟩).mono fun e w' ⟨h1, h2⟩ => ⟨_, h1, (by rw [HQ.out]; rfl), h2⟩)
                      · refine ⟨fun _ => ?_, fun hg => absurd (by simp [hd]) hg⟩; exact opOk_val (v := .bool (!q)) (w' := wv) (by simp [execOp, go_sem, hρ.1.const, hρ.1.func, hd]) ⟨rfl, GrR.refl _⟩
                      · exact opOk_val (v := .bool (!q)) (w' := wv) (by simp [execOp, go_sem, hρ.1.const, hρ.1.func, hd]) ⟨rfl, GrR.refl _⟩
                    · intro vals wv hR hall
                      have hend := hall 21 (by simp)
                      simp only [factAt, Is, List.getD_eq_getElem?_getD, List.getElem?_cons_succ, List.getElem?_cons_zero, Option.getD_some] at hend
                      clear hall
                      simp only [fillFrom, Act.put, hend, List.setIfInBounds_toArray, List.set_cons_zero, List.set_cons_succ]
                      obtain ⟨w9, hw9⟩ : ∃ x, x = wv := ⟨_, rfl⟩
                      subst hw9
                      have HT9 := hid (HT5.out.mono hR)
                      have HRW9 := hid (HRW5.out.mono hR)
                      have HO9 := hid (HO5.out.mono hR)
                      have G9 := hid (gr_trans G5.out hR)
                      clear hR hend
                      obtain ⟨j0, j1, j2, j3, j4, j5, -⟩ := rowInit HT9.out
                      have y0 := HT9.out.frozen 0
                      have y1 := HT9.out.frozen 1
                      have y2 := HT9.out.frozen 2
                      have y3 := HT9.out.frozen 3
                      have y4 := HT9.out.frozen 4
                      have y5 := HT9.out.frozen 5
                      cases q
                      · have HRS := hid (show res = (.zero, 7) by
                          rw [HRF.out, if_neg]
                          intro h
                          exact absurd h.2 (by decide))
                        simp only [Bool.not_false]
                        go_wp2_with fail
                        refine rgetInit_ret (.int .u32 0) (.int .u32 0) (.int .u16 0) (.int .u16 0) (.int .u32 0) (.slice none 0 0) 7 rfl rfl rfl ((((((HT9.out.store 0 (.int .u32 0)).store 1 (.int .u32 0)).store 2 (.int .u16 0)).store 3 (.int .u16 0)).store 4 (.int .u32 0)).store 5 (.slice none 0 0)) ⟨.slice none 0 0, by rw [HRS.out]; rfl, ?_, ((((((G9.out.setCell (by simp; try omega) _).setCell (by simp; try omega) _).setCell (by simp; try omega) _).setCell (by simp; try omega) _).setCell (by simp; try omega) _).setCell (by simp; try omega) _)⟩
                        rw [HRS.out]
                        exact Own.nil _ _ _
                      · have HRS := hid (show res = (⟨x0, x1, x2, x3, x4, bk⟩, 0) by
                          rw [HRF.out, if_pos]
                          exact ⟨by simp [initB, z0, z2, z3], rfl⟩)
                        simp only [Bool.not_true]
                        obtain ⟨i0, i1, i2, i3, i4, i5, -⟩ := rowInit HRW9.out
                        have hne : hh ≠ w.heap.size + 1 := by omega
                        go_wp2_with fail
                        refine rgetInit_ret (.int .u32 (x0 : Int)) (.int .u32 (x1 : Int)) (.int .u16 (x2 : Int)) (.int .u16 (x3 : Int)) (.int .u32 (x4 : Int)) (.slice pk nk ck) 0 rfl rfl rfl ((((((HT9.out.store 0 (.int .u32 (x0 : Int))).store 1 (.int .u32 (x1 : Int))).store 2 (.int .u16 (x2 : Int))).store 3 (.int .u16 (x3 : Int))).store 4 (.int .u32 (x4 : Int))).store 5 (.slice pk nk ck)) ⟨.slice pk nk ck, by rw [HRS.out]; rfl, ?_, ((((((G9.out.setCell (by simp; try omega) _).setCell (by simp; try omega) _).setCell (by simp; try omega) _).setCell (by simp; try omega) _).setCell (by simp; try omega) _).setCell (by simp; try omega) _)⟩
                        rw [HRS.out]
                        show Own _ _ _ _ bk
                        exact (HO9.out.keep (r := some (w.heap.size + 1)) (gb_set (gb_set (gb_set (gb_set (gb_set (gb_set (gb_refl _ _) 0 _) 1 _) 2 _) 3 _) 4 _) 5 _) (fun k hk e => by have := HO9.out.ge k hk; simp at e; omega)).base (show w.heap.size ≤ W.heap.size by omega)
          · have HRS := hid (show res = (.zero, 7) by rw [HRES.out]; exact initGet_ck _ HK1.out (by rw [HDY.out]; show (cutAt bc 20 y).length = 0; rw [cutAt, if_neg (by omega)]; rfl))
            refine (refCut_no _ bc 20 y _ (HV.out.mono G3.out) (by unfold withinB; simp; omega)).mono ?_
            rintro e w4 ⟨rfl, rfl⟩
            obtain ⟨j0, j1, j2, j3, j4, j5, -⟩ := rowInit HT3.out
            have y0 := HT3.out.frozen 0
            have y1 := HT3.out.frozen 1
            have y2 := HT3.out.frozen 2
            have y3 := HT3.out.frozen 3
            have y4 := HT3.out.frozen 4
            have y5 := HT3.out.frozen 5
            go_wp2_with fail
            refine rgetInit_ret (.int .u32 0) (.int .u32 0) (.int .u16 0) (.int .u16 0) (.int .u32 0) (.slice none 0 0) 7 rfl rfl rfl ((((((HT3.out.store 0 (.int .u32 0)).store 1 (.int .u32 0)).store 2 (.int .u16 0)).store 3 (.int .u16 0)).store 4 (.int .u32 0)).store 5 (.slice none 0 0)) ⟨.slice none 0 0, by rw [HRS.out]; rfl, ?_, ((((((G3.out.setCell (by simp; try omega) _).setCell (by simp; try omega) _).setCell (by simp; try omega) _).setCell (by simp; try omega) _).setCell (by simp; try omega) _).setCell (by simp; try omega) _)⟩
            rw [HRS.out]
            exact Own.nil _ _ _
    · have n2 : ((kc.toNat : Int) != 2) = true := by rw [bne, kind_eq kc 2 2 rfl, decide_eq_false k2]; rfl
      have HRS := hid (show res = (.zero, 7) by rw [HRES.out]; exact initGet_kind _ k1 k2)
      clear k1 k2
      go_enter Try.func44, Try.ntmps44
      go_wp2_with fail
      rw [← HE.out]
      refine rgetInit_ret (.int .u32 0) (.int .u32 0) (.int .u16 0) (.int .u16 0) (.int .u32 0) (.slice none 0 0) 7 rfl rfl rfl HT.out ⟨.slice none 0 0, by rw [HRS.out]; rfl, ?_, G0.out⟩
      rw [HRS.out]
      exact Own.nil _ _ _
end Go.Proofs.Ytfiblhdejglpaaa

/- BodiesInit: the walk of the law. Conditions: none but what the row reads. -/
import Derived.Test.YtfiblhdejglpaaaBodRefGetI
import Derived.Test.YtfiblhdejglpaaaBodRoom
import Derived.Test.YtfiblhdejglpaaaBodWorks
import Derived.Test.YtfiblhdejglpaaaBodSame
import Derived.Test.YtfiblhdejglpaaaBodOpen
import Derived.Test.YtfiblhdejglpaaaBodApart4
import Derived.Test.YtfiblhdejglpaaaBaseE
import Derived.Test.YtfiblhdejglpaaaBaseC
set_option linter.unusedSimpArgs false
set_option linter.unusedVariables false
namespace Go.Proofs.Ytfiblhdejglpaaa
open Go.RowKit Go.FL Go.ChangeShapes

set_option maxRecDepth 100000 in
set_option maxHeartbeats 8000000 in
theorem bodiesInit_walk {w : World} (a : Int) (ha : (Lit.int .u8 a).wf = true) {v u : Value} (x : InitD) (hx : InitL w (match v with | .agg cs => cs.toList | _ => []) x) (ch : Chk) (h : ChkAt w u ch) :
    Calls Try.prog 8 #[.int .u8 a, v, u] w fun e w' => e = .returned (.bool true) ∧ Below w.heap.size w w' := by
  have HCH := hid (show ChkV w u ch from h)
  obtain ⟨kd, rfl⟩ := u8_of a ha
  have kdb := byte_lt kd
  clear ha
  obtain ⟨⟨s2, hv2, hrd2⟩, hwd⟩ := hx
  obtain ⟨s, rfl, hrd⟩ := h
  have HV := hid hrd
  have HV2 := hid hrd2
  have HWD := hid hwd
  obtain ⟨p, c, rfl, hlc, hcm, hpn, hcell⟩ := hrd
  obtain ⟨pd, cd, rfl, hld, hdm, hdn, hdcell⟩ := hrd2
  unfold maxLen at hcm hdm
  clear hcell hdcell hwd
  obtain ⟨kc, fc, bc⟩ := ch
  obtain ⟨dt, ds, dn, du, df, db⟩ := x
  simp only at *
  obtain ⟨cs, rfl⟩ : ∃ cs, v = .agg cs := by
    cases v <;> simp at hv2
    exact ⟨_, rfl⟩
  simp only [Value.agg.injEq, Array.toArray_toList] at hv2
  subst hv2
  obtain ⟨nd, hnd⟩ : ∃ n, n = db.length := ⟨_, rfl⟩
  have HND := hid hnd
  rw [← hnd] at HV2 hld ⊢
  have HDA := hid (show InitAt w (.agg #[.int .u32 (dt : Int), .int .u32 (ds : Int), .int .u16 (dn : Int), .int .u16 (du : Int), .int .u32 (df : Int), .slice pd nd cd]) ⟨dt, ds, dn, du, df, db⟩ from ⟨_, rfl, HV2.out⟩)
  obtain ⟨xd, xe, hxd⟩ : ∃ a b, initGet ⟨kc, fc, bc⟩ = (a, b) := ⟨_, _, rfl⟩
  obtain ⟨xt, xs, xn, xu, xf, xb⟩ := xd
  have HX := hid hxd
  obtain ⟨W0, hW0⟩ : ∃ W, W = w.alloc (.cells #[.int .u32 (dt : Int), .int .u32 (ds : Int), .int .u16 (dn : Int), .int .u16 (du : Int), .int .u32 (df : Int), .slice pd nd cd] 70 (0, 0)) := ⟨_, rfl⟩
  have hs0 : W0.heap.size = w.heap.size + 1 := by rw [hW0]; simp
  obtain ⟨W, hW⟩ : ∃ W, W = W0.alloc (.cells #[.int .u8 (kc.toNat : Int), .int .u8 (fc.toNat : Int), .slice p bc.length c] 28 (0, 0)) := ⟨_, rfl⟩
  have HD0 := hid (show RowV W w.heap.size 70 [.int .u32 (dt : Int), .int .u32 (ds : Int), .int .u16 (dn : Int), .int .u16 (du : Int), .int .u32 (df : Int), .slice pd nd cd] by rw [hW, hW0]; exact (RowV.new w _ _).alloc _)
  have HC0 := hid (show RowV W (w.heap.size + 1) 28 [.int .u8 (kc.toNat : Int), .int .u8 (fc.toNat : Int), .slice p bc.length c] by rw [hW, ← hs0]; exact RowV.new W0 _ _)
  have G0 := hid (show Below w.heap.size w W by rw [hW, hW0]; exact ((Below.refl _ _).alloc (Nat.le_refl _) _).alloc (by simp) _)
  have S0 := hid (show W.heap.size = w.heap.size + 2 by rw [hW]; simp [hs0])
  obtain ⟨k0, k1, k2⟩ := HC0.out.three
  rw [hW0] at hW
  rw [hW] at k0 k1 k2
  have HE := hid hW
  clear hW hW0 hs0 hxd hnd hdn hpn
  go_enter Try.func8, Try.ntmps8
  go_wp2_with fail
  rw [← HE.out]
  refine (large_any _ ⟨kc, fc, bc⟩ _ (HCH.out.mono G0.out)).mono ?_
  rintro e w1 ⟨rfl, hb1⟩
  simp only
  have HC1 := hid (HC0.out.mono hb1)
  have HD1 := hid (HD0.out.mono hb1)
  have G1 := hid (gr_trans G0.out hb1)
  have S1 := hid (show w.heap.size + 2 ≤ w1.heap.size by have := S0.out; have := hb1.size; omega)
  clear hb1 k0 k1 k2
  by_cases hl : 8192 < bc.length
  · rw [decide_eq_true hl]
    go_wp2_with fail
    refine (works_any _).mono ?_
    rintro e w2 ⟨rfl, hb2⟩
    go_wp2_with fail
    go_ret
    exact ⟨rfl, gr_trans G1.out hb2⟩
  · rw [decide_eq_false hl]
    have HL := hid (show bc.length ≤ 1000000 by omega)
    clear hl
    obtain ⟨i0, i1, i2, i3, i4, i5, -⟩ := rowInit HD1.out
    by_cases h2 : 8192 < nd
    · have e1 : (8192 : Int) < (nd : Int) := by omega
      go_wp2_with fail
      refine (works_any _).mono ?_
      rintro e w2 ⟨rfl, hb2⟩
      go_wp2_with fail
      go_ret
      exact ⟨rfl, gr_trans G1.out hb2⟩
    · have e1 : ¬ (8192 : Int) < (nd : Int) := by omega
      have hnl : nd ≤ 8192 := by omega
      have hlb := HL.out
      clear h2
      obtain ⟨W3, hW3⟩ : ∃ W, W = w1.alloc (.cells #[.int .u32 (dt : Int), .int .u32 (ds : Int), .int .u16 (dn : Int), .int .u16 (du : Int), .int .u32 (df : Int), .slice pd nd cd] 70 (0, 0)) := ⟨_, rfl⟩
      have g3 : Below w1.heap.size w1 W3 := by rw [hW3]; exact (Below.refl _ _).alloc (Nat.le_refl _) _
      have HI3 := hid (show RowV W3 w1.heap.size 70 [.int .u32 (dt : Int), .int .u32 (ds : Int), .int .u16 (dn : Int), .int .u16 (du : Int), .int .u32 (df : Int), .slice pd nd cd] by rw [hW3]; exact RowV.new w1 _ _)
      have HD3 := hid (HD1.out.mono g3)
      have HC3 := hid (HC1.out.mono g3)
      have G3 := hid (gr_trans G1.out g3)
      have S3 := hid (show W3.heap.size = w1.heap.size + 1 by rw [hW3]; simp)
      have HE3 := hid hW3
      have t6 := HD3.out.at 5 (by simp)
      simp only [List.getElem_cons_succ, List.getElem_cons_zero] at t6
      rw [hW3] at t6
      clear hW3 g3
      go_wp2_with fail
      rw [← HE3.out]
      clear i0 i1 i2 i3 i4 i5 t6
      refine (roomy_any _ db _ (HV2.out.mono G3.out) (by rw [← HND.out]; omega)).mono ?_
      rintro e w4 ⟨v4, rfl, hr4, hb4⟩
      obtain ⟨pr, nr, cr, rfl⟩ := hr4.rd.form
      have HIR4 := hid hr4
      have HD4 := hid (HD3.out.mono hb4)
      have HC4 := hid (HC3.out.mono hb4)
      have HI4 := hid (HI3.out.mono hb4)
      have G4 := hid (gr_trans G3.out hb4)
      have S4 := hid hb4.size
      clear hr4 hb4
      obtain ⟨i0, i1, i2, i3, i4, i5, -⟩ := rowInit HI4.out
      have y6 := HI4.out.frozen 5
      obtain ⟨W5, hW5⟩ : ∃ W, W = w4.setCell ⟨w1.heap.size, 5, none⟩ (.slice pr nr cr) := ⟨_, rfl⟩
      have HI5 := hid (show RowV W5 w1.heap.size 70 [.int .u32 (dt : Int), .int .u32 (ds : Int), .int .u16 (dn : Int), .int .u16 (du : Int), .int .u32 (df : Int), .slice pr nr cr] by rw [hW5]; exact HI4.out.store 5 _)
      have g5 : w4.grownBy W5 (some w1.heap.size) := by rw [hW5]; exact gb_set (gb_refl _ _) 5 _
      have HIR5 := hid (HIR4.out.keep g5 (HIR4.out.ne HI4.out (by decide)))
      have HD5 := hid (HD4.out.grown g5 (fun e => by have := S1.out; simp at e; omega))
      have HC5 := hid (HC4.out.grown g5 (fun e => by have := S1.out; simp at e; omega))
      have G5 := hid (show Below w.heap.size w W5 by rw [hW5]; exact G4.out.setCell (by have := S1.out; show w.heap.size ≤ w1.heap.size; omega) _)
      have S5 := hid (show W5.heap.size = w4.heap.size by rw [hW5]; simp [World.setCell])
      have HE5 := hid hW5
      obtain ⟨j0, j1, j2, j3, j4, j5, -⟩ := rowInit HI5.out
      rw [hW5] at j0 j1 j2 j3 j4 j5
      clear hW5 g5
      go_wp2_with fail
      rw [← HE5.out]
      clear i0 i1 i2 i3 i4 i5 y6 j0 j1 j2 j3 j4 j5
      refine (putInit_any kd _ ⟨dt, ds, dn, du, df, db⟩ HWD.out _ ⟨_, rfl, HIR5.out.rd⟩ (by show db.length ≤ _; rw [← HND.out]; omega)).mono ?_
      rintro e w6 ⟨s6, rfl, ho6, hb6⟩
      rw [show (InitD.chk kd ⟨dt, ds, dn, du, df, db⟩).k = kd from rfl, show ((InitD.chk kd ⟨dt, ds, dn, du, df, db⟩).f.toNat : Int) = 0 from rfl]
      obtain ⟨pp, cp, rfl, -, -, -, -⟩ := ho6.rd
      obtain ⟨np, hnp⟩ : ∃ n, n = (InitD.chk kd ⟨dt, ds, dn, du, df, db⟩).b.length := ⟨_, rfl⟩
      rw [← hnp] at ho6 ⊢
      have HKO6 := hid ho6
      clear hnp
      have HD6 := hid (HD5.out.mono hb6)
      have HC6 := hid (HC5.out.mono hb6)
      have HI6 := hid (HI5.out.mono hb6)
      have HIR6 := hid (HIR5.out.mono hb6)
      have G6 := hid (gr_trans G5.out hb6)
      have S6 := hid hb6.size
      have A56 := hid (show Below W5.heap.size W5 w6 from hb6)
      obtain ⟨W7, hW7⟩ : ∃ W, W = w6.alloc (.cells #[.int .u8 (kd.toNat : Int), .int .u8 0, .slice pp np cp] 28 (0, 0)) := ⟨_, rfl⟩
      have g7 : Below w6.heap.size w6 W7 := by rw [hW7]; exact (Below.refl _ _).alloc (Nat.le_refl _) _
      have HK7 := hid (show RowV W7 w6.heap.size 28 [.int .u8 (kd.toNat : Int), .int .u8 0, .slice pp np cp] by rw [hW7]; exact RowV.new w6 _ _)
      have HKO7 := hid (HKO6.out.mono g7)
      have HD7 := hid (HD6.out.mono g7)
      have HC7 := hid (HC6.out.mono g7)
      have HI7 := hid (HI6.out.mono g7)
      have HIR7 := hid (HIR6.out.mono g7)
      have G7 := hid (gr_trans G6.out g7)
      have S7 := hid g7.size
      have A57 := hid (gr_trans A56.out g7)
      have A67 := hid g7
      have HE7 := hid hW7
      clear hW7 g7 ho6 hb6
      have KC0 := hid (HC7.out.at 0 (by simp))
      have KC1 := hid (HC7.out.at 1 (by simp))
      have KC2 := hid (HC7.out.at 2 (by simp))
      simp only [List.getElem_cons_succ, List.getElem_cons_zero] at KC0 KC1 KC2
      go_wp2_with fail
      rw [← HE7.out]
      refine wp_region_tail 9 [Is (.pointer (some ⟨w.heap.size + 1, 0, none⟩)), Is (.int .u8 (kc.toNat : Int)), Is (.pointer (some ⟨w.heap.size + 1, 1, none⟩)), Is (.int .u8 (fc.toNat : Int)), Is (.pointer (some ⟨w.heap.size + 1, 2, none⟩)), Is (.slice p bc.length c), RoomF W7.heap.size bc, QF W7.heap.size kc fc bc, NewF W7.heap.size 28 [.int .u8 0, .int .u8 0, .slice none 0 0]] (by kernel_rfl) (by kernel_rfl) (by kernel_rfl) (by kernel_rfl) (by kernel_rfl) (by kernel_rfl) ?_ ?_ ?_
      · simp only [StabAll, Is.gr, RdF.gr, OwnF.gr, AnyF.gr, NewF.gr, RoomF.gr, QF.gr, and_self]
      · rename_i Kk hKk; clear hKk Kk
        simp only [List.take_succ_cons, List.take_zero, AllOps, List.map_cons, List.map_nil, depsOf, List.filterMap_cons, List.filterMap_nil, Region.binds, depFacts, guardF, reduceIte, List.getD_eq_getElem?_getD, List.getElem?_cons_succ, List.getElem?_cons_zero, Option.getD_some, factAt, and_true]
        refine ⟨?_, ?_, ?_, ?_, ?_, ?_, ?_, ?_, ?_⟩
        all_goals intro ρ wv hρ hR hd
        all_goals try simp only [Is] at hd
        · exact opOk_val (v := .pointer (some ⟨w.heap.size + 1, 0, none⟩)) (w' := wv) (by simp [execOp, go_sem, hρ.1.const, hρ.1.func, hd, (hρ.2 5 rfl)]) ⟨rfl, GrR.refl _⟩
        · (have h0 := cell?_of_below hR KC0.out; exact opOk_val (v := .int .u8 (kc.toNat : Int)) (w' := wv) (by simp [execOp, go_sem, hd, h0]) ⟨rfl, GrR.refl _⟩)
        · exact opOk_val (v := .pointer (some ⟨w.heap.size + 1, 1, none⟩)) (w' := wv) (by simp [execOp, go_sem, hρ.1.const, hρ.1.func, hd, (hρ.2 5 rfl)]) ⟨rfl, GrR.refl _⟩
        · (have h0 := cell?_of_below hR KC1.out; exact opOk_val (v := .int .u8 (fc.toNat : Int)) (w' := wv) (by simp [execOp, go_sem, hd, h0]) ⟨rfl, GrR.refl _⟩)
        · exact opOk_val (v := .pointer (some ⟨w.heap.size + 1, 2, none⟩)) (w' := wv) (by simp [execOp, go_sem, hρ.1.const, hρ.1.func, hd, (hρ.2 5 rfl)]) ⟨rfl, GrR.refl _⟩
        · (have h0 := cell?_of_below hR KC2.out; exact opOk_val (v := .slice p bc.length c) (w' := wv) (by simp [execOp, go_sem, hd, h0]) ⟨rfl, GrR.refl _⟩)
        · exact opOk_call hρ.1 rfl rfl Try.func14 (by kernel_rfl) rfl (by simp [hd, hρ.1.const, hρ.1.func]) ((roomy_any _ bc _ ((HV.out.mono G7.out).mono hR) (by omega)).mono fun e w' ⟨v', h1, h2, h3⟩ => ⟨_, h1, h2.base hR.size, h3⟩)
        · (have hr : RoomF W7.heap.size bc (ρ (.tmp 37)) wv := (by first | exact hd.2.2 | exact hd.1 | exact hd.2.1); obtain ⟨g9, h91, h92, h93, h94⟩ := hr; exact opOk_val (v := .agg #[.int .u8 (kc.toNat : Int), .int .u8 (fc.toNat : Int), .slice (some ⟨g9, 0, none⟩) bc.length (bc.length + 16)]) (w' := wv) (by simp [execOp, go_sem, hd, h92]) ⟨⟨_, rfl, g9, h91, rfl, h93, h94⟩, GrR.refl _⟩)
        · exact opOk_val (v := .pointer (some ⟨wv.heap.size, 0, none⟩)) (w' := wv.alloc (.cells #[.int .u8 0, .int .u8 0, .slice none 0 0] 28 (0, 0))) (by simp [execOp, go_sem]) ⟨⟨_, rfl, hR.size, RowV.new wv 28 [.int .u8 0, .int .u8 0, .slice none 0 0]⟩, (Below.refl _ _).alloc (Nat.le_refl _) _⟩
      · intro vals wv hR hall
        have i7 := hall 7 (by omega)
        have i8 := hall 8 (by omega)
        simp only [factAt, QF, NewF, List.getD_eq_getElem?_getD, List.getElem?_cons_succ, List.getElem?_cons_zero, Option.getD_some] at i7 i8
        clear hall
        obtain ⟨sq, hq7, hroom⟩ := i7
        obtain ⟨hh, hq8, hge, hrow⟩ := i8
        obtain ⟨pq, nq, cq, rfl⟩ := hroom.rd.form
        simp only [List.take_succ_cons, List.take_zero, List.drop_succ_cons, List.drop_zero, fillFrom, Act.put, hq7, hq8, List.setIfInBounds_toArray, List.set_cons_zero, List.set_cons_succ, Nat.zero_add, Nat.reduceAdd]
        obtain ⟨wq, hwq⟩ : ∃ x, x = wv := ⟨_, rfl⟩
        subst hwq
        have HRW := hid hrow
        have HRM := hid hroom
        obtain ⟨i0, i1, i2⟩ := HRW.out.three
        have y0 := HRW.out.frozen 0
        have y1 := HRW.out.frozen 1
        have y2 := HRW.out.frozen 2
        obtain ⟨WQ, hWQ⟩ : ∃ x, x = (((wq.setCell ⟨hh, 0, none⟩ (.int .u8 (kc.toNat : Int))).setCell ⟨hh, 1, none⟩ (.int .u8 (fc.toNat : Int))).setCell ⟨hh, 2, none⟩ (.slice pq nq cq)) := ⟨_, rfl⟩
        have HQ := hid (show RowV WQ hh 28 [.int .u8 (kc.toNat : Int), .int .u8 (fc.toNat : Int), .slice pq nq cq] by rw [hWQ]; exact ((HRW.out.store 0 (.int .u8 (kc.toNat : Int))).store 1 (.int .u8 (fc.toNat : Int))).store 2 (.slice pq nq cq))
        have g2 : wq.grownBy WQ (some hh) := by rw [hWQ]; exact gb_set (gb_set (gb_set (gb_refl _ _) 0 _) 1 _) 2 _
        have HRQ := hid (HRM.out.keep g2 (HRM.out.ne HRW.out (by decide)))
        have GQ := hid (show Below W7.heap.size W7 WQ from hR.trans (gb_below g2 hge hR.size))
        have HEQ := hid hWQ
        clear hWQ g2 hq7 hq8 hroom hrow hR
        obtain ⟨q0, q1, q2⟩ := HQ.out.three
        rw [HEQ.out] at q0 q1 q2
        clear KC0 KC1 KC2
        go_wp2_with fail
        rw [← HEQ.out]
        clear i0 i1 i2 y0 y1 y2 q0 q1 q2
        have HQ8 := HQ
        have HRQ8 := HRQ
        have HD8 := hid (HD7.out.mono GQ.out)
        have HC8 := hid (HC7.out.mono GQ.out)
        have HI8 := hid (HI7.out.mono GQ.out)
        have HIR8 := hid (HIR7.out.mono GQ.out)
        have HK8 := hid (HK7.out.mono GQ.out)
        have HKO8 := hid (HKO7.out.mono GQ.out)
        have G8 := hid (gr_trans G7.out GQ.out)
        have SQ := hid GQ.out.size
        have A58 := hid (gr_trans A57.out GQ.out)
        have A68 := hid (gr_trans A67.out GQ.out)
        clear HQ HRQ
        refine (getInit_any _ ⟨kc, fc, bc⟩ _ ⟨_, rfl, HRQ8.out.rd⟩ HL.out).mono ?_
        rw [HX.out]
        rintro e w9 ⟨s9, rfl, ho9, hb9⟩
        simp only [InitD.vals]
        obtain ⟨px, nx, cx, rfl⟩ := ho9.rd.form
        have HXO9 := hid ho9
        have HD9 := hid (HD8.out.mono hb9)
        have HC9 := hid (HC8.out.mono hb9)
        have HI9 := hid (HI8.out.mono hb9)
        have HIR9 := hid (HIR8.out.mono hb9)
        have HK9 := hid (HK8.out.mono hb9)
        have HKO9 := hid (HKO8.out.mono hb9)
        have HQ9 := hid (HQ8.out.mono hb9)
        have HRQ9 := hid (HRQ8.out.mono hb9)
        have G9 := hid (gr_trans G8.out hb9)
        have A59 := hid (gr_trans A58.out hb9)
        have A69 := hid (gr_trans A68.out hb9)
        have AQ9 := hid (show Below WQ.heap.size WQ w9 from hb9)
        clear ho9 hb9
        obtain ⟨Wx, hWx⟩ : ∃ W, W = w9.alloc (.cells #[.int .u32 (xt : Int), .int .u32 (xs : Int), .int .u16 (xn : Int), .int .u16 (xu : Int), .int .u32 (xf : Int), .slice px nx cx] 70 (0, 0)) := ⟨_, rfl⟩
        have gx : Below w9.heap.size w9 Wx := by rw [hWx]; exact (Below.refl _ _).alloc (Nat.le_refl _) _
        have HXRx := hid (show RowV Wx w9.heap.size 70 [.int .u32 (xt : Int), .int .u32 (xs : Int), .int .u16 (xn : Int), .int .u16 (xu : Int), .int .u32 (xf : Int), .slice px nx cx] by rw [hWx]; exact RowV.new w9 _ _)
        have HDx := hid (HD9.out.mono gx)
        have HCx := hid (HC9.out.mono gx)
        have HIx := hid (HI9.out.mono gx)
        have HIRx := hid (HIR9.out.mono gx)
        have HKx := hid (HK9.out.mono gx)
        have HKOx := hid (HKO9.out.mono gx)
        have HQx := hid (HQ9.out.mono gx)
        have HRQx := hid (HRQ9.out.mono gx)
        have HXOx := hid (HXO9.out.mono gx)
        have Gx := hid (gr_trans G9.out gx)
        have A5x := hid (gr_trans A59.out gx)
        have A6x := hid (gr_trans A69.out gx)
        have AQx := hid (gr_trans AQ9.out gx)
        have A9x := hid gx
        have HEx := hid hWx
        obtain ⟨k0, k1, k2⟩ := HCx.out.three
        rw [hWx] at k0 k1 k2
        clear hWx gx
        go_wp2_with fail
        rw [← HEx.out]
        clear k0 k1 k2
        refine (rgetInit_any _ ⟨kc, fc, bc⟩ _ (HCH.out.mono Gx.out) HL.out).mono ?_
        rw [HX.out]
        rintro e w10 ⟨s10, rfl, ho10, hb10⟩
        simp only [InitD.vals]
        obtain ⟨py, ny, cy, rfl⟩ := ho10.rd.form
        have HYO10 := hid ho10
        have HD10 := hid (HDx.out.mono hb10)
        have HC10 := hid (HCx.out.mono hb10)
        have HI10 := hid (HIx.out.mono hb10)
        have HIR10 := hid (HIRx.out.mono hb10)
        have HK10 := hid (HKx.out.mono hb10)
        have HKO10 := hid (HKOx.out.mono hb10)
        have HQ10 := hid (HQx.out.mono hb10)
        have HRQ10 := hid (HRQx.out.mono hb10)
        have HXO10 := hid (HXOx.out.mono hb10)
        have HXR10 := hid (HXRx.out.mono hb10)
        have G10 := hid (gr_trans Gx.out hb10)
        have A510 := hid (gr_trans A5x.out hb10)
        have A610 := hid (gr_trans A6x.out hb10)
        have AQ10 := hid (gr_trans AQx.out hb10)
        have A910 := hid (gr_trans A9x.out hb10)
        clear ho10 hb10
        obtain ⟨Wy, hWy⟩ : ∃ W, W = w10.alloc (.cells #[.int .u32 (xt : Int), .int .u32 (xs : Int), .int .u16 (xn : Int), .int .u16 (xu : Int), .int .u32 (xf : Int), .slice py ny cy] 70 (0, 0)) := ⟨_, rfl⟩
        have gy : Below w10.heap.size w10 Wy := by rw [hWy]; exact (Below.refl _ _).alloc (Nat.le_refl _) _
        have HYR11 := hid (show RowV Wy w10.heap.size 70 [.int .u32 (xt : Int), .int .u32 (xs : Int), .int .u16 (xn : Int), .int .u16 (xu : Int), .int .u32 (xf : Int), .slice py ny cy] by rw [hWy]; exact RowV.new w10 _ _)
        have HD11 := hid (HD10.out.mono gy)
        have HC11 := hid (HC10.out.mono gy)
        have HI11 := hid (HI10.out.mono gy)
        have HIR11 := hid (HIR10.out.mono gy)
        have HK11 := hid (HK10.out.mono gy)
        have HKO11 := hid (HKO10.out.mono gy)
        have HQ11 := hid (HQ10.out.mono gy)
        have HRQ11 := hid (HRQ10.out.mono gy)
        have HXO11 := hid (HXO10.out.mono gy)
        have HXR11 := hid (HXR10.out.mono gy)
        have HYO11 := hid (HYO10.out.mono gy)
        have G11 := hid (gr_trans G10.out gy)
        have A511 := hid (gr_trans A510.out gy)
        have A611 := hid (gr_trans A610.out gy)
        have AQ11 := hid (gr_trans AQ10.out gy)
        have A911 := hid (gr_trans A910.out gy)
        have HEy := hid hWy
        clear hWy gy
        have KI5 := hid (HI11.out.at 5 (by simp))
        have KD5 := hid (HD11.out.at 5 (by simp))
        have KQ2 := hid (HQ11.out.at 2 (by simp))
        have KC2 := hid (HC11.out.at 2 (by simp))
        simp only [List.getElem_cons_succ, List.getElem_cons_zero] at KI5 KD5 KQ2 KC2
        go_wp2_with fail
        rw [← HEy.out]
        refine wp_region_gr [Is (.agg ([.int .u8 (kd.toNat : Int), .int .u8 0, .slice pp np cp]).toArray), Is (.int .u8 (kd.toNat : Int)), Is (.agg ([.int .u32 (dt : Int), .int .u32 (ds : Int), .int .u16 (dn : Int), .int .u16 (du : Int), .int .u32 (df : Int), .slice pd nd cd]).toArray), ChkF (InitD.chk kd ⟨dt, ds, dn, du, df, db⟩), Is (.bool true), Is (.bool false), Is (.bool false), Is (.pointer (some ⟨w1.heap.size, 5, none⟩)), Is (.slice pr nr cr), Is (.pointer (some ⟨w.heap.size, 5, none⟩)), Is (.slice pd nd cd), Is (.bool true), Is (.bool false), Is (.bool false), Is (.bool false), Is (.pointer (some ⟨hh, 2, none⟩)), Is (.slice pq nq cq), Is (.pointer (some ⟨w.heap.size + 1, 2, none⟩)), Is (.slice p bc.length c), Is (.bool true), Is (.bool false), Is (.bool false)] (by kernel_rfl) (by kernel_rfl) (by kernel_rfl) ?_ ?_ ?_
        · simp only [StabAll, Is.gr, RdF.gr, OwnF.gr, AnyF.gr, ChkF.gr, and_self]
        · rename_i Kk hKk; clear hKk Kk
          simp only [AllOps, List.map_cons, List.map_nil, depsOf, List.filterMap_cons, List.filterMap_nil, Region.binds, depFacts, guardF, reduceIte, List.getD_eq_getElem?_getD, List.getElem?_cons_succ, List.getElem?_cons_zero, Option.getD_some, factAt, and_true]
          refine ⟨?_, ?_, ?_, ?_, ?_, ?_, ?_, ?_, ?_, ?_, ?_, ?_, ?_, ?_, ?_, ?_, ?_, ?_, ?_, ?_, ?_, ?_⟩
          all_goals intro ρ wv hρ hR hd
          all_goals try simp only [Is] at hd
          · exact opOk_loadRow rfl (w6.heap.size) (by first | exact hρ.2 _ rfl | simp [hd]) _ ([.int .u8 (kd.toNat : Int), .int .u8 0, .slice pp np cp]) _ (HK11.out.mono hR) Try.underlying28 rfl (by kernel_rfl) ⟨rfl, GrR.refl _⟩
          · exact opOk_move (.inl rfl) ⟨by simp only [Is]; (first | exact hρ.2 0 rfl | exact hd | exact hd.1 | exact hd.2 | simp [hd]), GrR.refl _⟩
          · exact opOk_loadRow rfl (w.heap.size) (by first | exact hρ.2 _ rfl | simp [hd]) _ ([.int .u32 (dt : Int), .int .u32 (ds : Int), .int .u16 (dn : Int), .int .u16 (du : Int), .int .u32 (df : Int), .slice pd nd cd]) _ (HD11.out.mono hR) Try.underlying70 rfl (by kernel_rfl) ⟨rfl, GrR.refl _⟩
          · exact opOk_call hρ.1 rfl rfl Try.func45 (by kernel_rfl) rfl (by simp [hd, hρ.1.const, hρ.1.func]) ((rputInit_any kd _ ⟨dt, ds, dn, du, df, db⟩ HWD.out _ ((HDA.out.mono G11.out).mono hR) (by show db.length ≤ _; rw [← HND.out]; omega)).mono fun e w' ⟨s, h1, h2, h3⟩ => ⟨_, h1, ⟨s, rfl, h2.rd⟩, h3⟩)
          · exact opOk_call hρ.1 rfl rfl Try.func18 (by kernel_rfl) rfl (by simp [hd, hρ.1.const, hρ.1.func]) ((chkSame_yes (.agg #[.int .u8 (kd.toNat : Int), .int .u8 0, .slice pp np cp]) (ρ (.tmp 52)) (InitD.chk kd ⟨dt, ds, dn, du, df, db⟩) _ ⟨.slice pp np cp, rfl, HKO11.out.rd.mono hR⟩ (by first | exact hd.2 | exact hd.1 | exact hd.2.1)).mono fun e w' ⟨h1, h2⟩ => ⟨_, h1, rfl, h2⟩)
          · exact opOk_val (v := .bool false) (w' := wv) (by simp [execOp, go_sem, hρ.1.const, hρ.1.func, hd]) ⟨rfl, GrR.refl _⟩
          · exact opOk_move (.inl rfl) ⟨by simp only [Is]; (first | exact hρ.2 54 rfl | exact hd | exact hd.1 | exact hd.2 | simp [hd]), GrR.refl _⟩
          · refine ⟨fun _ => ?_, fun hg => absurd (by simp [hd]) hg⟩; exact opOk_val (v := .pointer (some ⟨w1.heap.size, 5, none⟩)) (w' := wv) (by simp [execOp, go_sem, hρ.1.const, hρ.1.func, hd, (hρ.2 7 rfl)]) ⟨rfl, GrR.refl _⟩
          · refine ⟨fun _ => ?_, fun hg => absurd (by simp [hd]) hg⟩; (have h0 := cell?_of_below hR KI5.out; exact opOk_val (v := .slice pr nr cr) (w' := wv) (by simp [execOp, go_sem, hd, h0]) ⟨rfl, GrR.refl _⟩)
          · refine ⟨fun _ => ?_, fun hg => absurd (by simp [hd]) hg⟩; exact opOk_val (v := .pointer (some ⟨w.heap.size, 5, none⟩)) (w' := wv) (by simp [execOp, go_sem, hρ.1.const, hρ.1.func, hd, (hρ.2 4 rfl)]) ⟨rfl, GrR.refl _⟩
          · refine ⟨fun _ => ?_, fun hg => absurd (by simp [hd]) hg⟩; (have h0 := cell?_of_below hR KD5.out; exact opOk_val (v := .slice pd nd cd) (w' := wv) (by simp [execOp, go_sem, hd, h0]) ⟨rfl, GrR.refl _⟩)
          · refine ⟨fun _ => ?_, fun hg => absurd (by simp [hd]) hg⟩; exact opOk_call hρ.1 rfl rfl Try.func20 (by kernel_rfl) rfl (by simp [hd, hρ.1.const, hρ.1.func]) ((kept_gr _ _ db _ _ (HIR11.out.mono hR) ((HV2.out.mono G11.out).mono hR)).mono fun e w' ⟨h1, h2⟩ => ⟨_, h1, rfl, h2⟩)
          · refine ⟨fun _ => ?_, fun hg => absurd (by simp [hd]) hg⟩; exact opOk_val (v := .bool false) (w' := wv) (by simp [execOp, go_sem, hρ.1.const, hρ.1.func, hd]) ⟨rfl, GrR.refl _⟩
          · exact opOk_val (v := .bool false) (w' := wv) (by simp [execOp, go_sem, hρ.1.const, hρ.1.func, hd]) ⟨rfl, GrR.refl _⟩
          · exact opOk_move (.inl rfl) ⟨by simp only [Is]; (first | exact hρ.2 62 rfl | exact hd | exact hd.1 | exact hd.2 | simp [hd]), GrR.refl _⟩
          · refine ⟨fun _ => ?_, fun hg => absurd (by simp [hd]) hg⟩; exact opOk_val (v := .pointer (some ⟨hh, 2, none⟩)) (w' := wv) (by simp [execOp, go_sem, hρ.1.const, hρ.1.func, hd, (hρ.2 9 rfl)]) ⟨rfl, GrR.refl _⟩
          · refine ⟨fun _ => ?_, fun hg => absurd (by simp [hd]) hg⟩; (have h0 := cell?_of_below hR KQ2.out; exact opOk_val (v := .slice pq nq cq) (w' := wv) (by simp [execOp, go_sem, hd, h0]) ⟨rfl, GrR.refl _⟩)
          · refine ⟨fun _ => ?_, fun hg => absurd (by simp [hd]) hg⟩; exact opOk_val (v := .pointer (some ⟨w.heap.size + 1, 2, none⟩)) (w' := wv) (by simp [execOp, go_sem, hρ.1.const, hρ.1.func, hd, (hρ.2 5 rfl)]) ⟨rfl, GrR.refl _⟩
          · refine ⟨fun _ => ?_, fun hg => absurd (by simp [hd]) hg⟩; (have h0 := cell?_of_below hR KC2.out; exact opOk_val (v := .slice p bc.length c) (w' := wv) (by simp [execOp, go_sem, hd, h0]) ⟨rfl, GrR.refl _⟩)
          · refine ⟨fun _ => ?_, fun hg => absurd (by simp [hd]) hg⟩; exact opOk_call hρ.1 rfl rfl Try.func20 (by kernel_rfl) rfl (by simp [hd, hρ.1.const, hρ.1.func]) ((kept_gr _ _ bc _ _ (HRQ11.out.mono hR) ((HV.out.mono G11.out).mono hR)).mono fun e w' ⟨h1, h2⟩ => ⟨_, h1, rfl, h2⟩)
          · refine ⟨fun _ => ?_, fun hg => absurd (by simp [hd]) hg⟩; exact opOk_val (v := .bool false) (w' := wv) (by simp [execOp, go_sem, hρ.1.const, hρ.1.func, hd]) ⟨rfl, GrR.refl _⟩
          · exact opOk_val (v := .bool false) (w' := wv) (by simp [execOp, go_sem, hρ.1.const, hρ.1.func, hd]) ⟨rfl, GrR.refl _⟩
        · intro vals wv hR hall
          have hend := hall 21 (by simp)
          simp only [factAt, Is, List.getD_eq_getElem?_getD, List.getElem?_cons_succ, List.getElem?_cons_zero, Option.getD_some] at hend
          clear hall
          simp only [fillFrom, Act.put, hend, List.setIfInBounds_toArray, List.set_cons_zero, List.set_cons_succ]
          obtain ⟨w12, hw12⟩ : ∃ x, x = wv := ⟨_, rfl⟩
          subst hw12
          have HI12 := hid (HI11.out.mono hR)
          have HK12 := hid (HK11.out.mono hR)
          have HKO12 := hid (HKO11.out.mono hR)
          have HQ12 := hid (HQ11.out.mono hR)
          have HIR12 := hid (HIR11.out.mono hR)
          have HRQ12 := hid (HRQ11.out.mono hR)
          have HXO12 := hid (HXO11.out.mono hR)
          have HXR12 := hid (HXR11.out.mono hR)
          have HYO12 := hid (HYO11.out.mono hR)
          have HYR12 := hid (HYR11.out.mono hR)
          have G12 := hid (gr_trans G11.out hR)
          have A512 := hid (gr_trans A511.out hR)
          have A612 := hid (gr_trans A611.out hR)
          have AQ12 := hid (gr_trans AQ11.out hR)
          have A912 := hid (gr_trans A911.out hR)
          clear hR hend
          obtain ⟨i0, i1, i2, i3, i4, i5, -⟩ := rowInit HXR12.out
          obtain ⟨j0, j1, j2, j3, j4, j5, -⟩ := rowInit HYR12.out
          go_wp2_with fail
          clear i0 i1 i2 i3 i4 i5 j0 j1 j2 j3 j4 j5
          refine (sameInit_yes _ _ ⟨xt, xs, xn, xu, xf, xb⟩ _ ⟨_, rfl, HXO12.out.rd⟩ ⟨_, rfl, HYO12.out.rd⟩).mono ?_
          rintro e w13 ⟨rfl, hb13⟩
          have HI13 := hid (HI12.out.mono hb13)
          have HK13 := hid (HK12.out.mono hb13)
          have HQ13 := hid (HQ12.out.mono hb13)
          have HXR13 := hid (HXR12.out.mono hb13)
          have G13 := hid (gr_trans G12.out hb13)
          have A513 := hid (gr_trans A512.out hb13)
          have A613 := hid (gr_trans A612.out hb13)
          have AQ13 := hid (gr_trans AQ12.out hb13)
          have A913 := hid (gr_trans A912.out hb13)
          clear hb13
          obtain ⟨i0, i1, i2, i3, i4, i5, -⟩ := rowInit HI13.out
          obtain ⟨j0, j1, j2, j3, j4, j5, -⟩ := rowInit HXR13.out
          obtain ⟨k0, k1, k2⟩ := HK13.out.three
          obtain ⟨q0, q1, q2⟩ := HQ13.out.three
          have HLS := hid (rdV_new w13 24 [.slice pp np cp, .slice pr nr cr, .slice px nx cx, .slice pq nq cq] 4 #[.slice pp np cp, .slice pr nr cr, .slice px nx cx, .slice pq nq cq] rfl rfl (by unfold maxLen; omega))
          have GA := hid (show Below w13.heap.size w13 (w13.alloc (.cells #[.slice pp np cp, .slice pr nr cr, .slice px nx cx, .slice pq nq cq] 24 (0, 0))) from (Below.refl _ _).alloc (Nat.le_refl _) _)
          go_wp2_with fail
          clear i0 i1 i2 i3 i4 i5 j0 j1 j2 j3 j4 j5 k0 k1 k2 q0 q1 q2
          have z4 := S4.out
          have z5 := S5.out
          have z6 := S6.out
          have z7 := S7.out
          have zq := SQ.out
          refine (apart4 HLS.out HKO6.out HIR5.out.own HXO9.out HRQ8.out.own (gr_trans A613.out GA.out) (gr_trans A513.out GA.out) (gr_trans A913.out GA.out) (gr_trans AQ13.out GA.out) (Nat.le_refl _) (by omega) (by omega) (by omega) (by omega) (Nat.le_refl _)).mono ?_
          clear z4 z5 z6 z7 zq
          rintro e w14 ⟨rfl, hb14⟩
          have G14 := hid (gr_trans G13.out (gr_trans GA.out hb14))
          clear hb14
          go_wp2_with fail
          refine (works_any _).mono ?_
          rintro e w15 ⟨rfl, hb15⟩
          go_wp2_with fail
          go_ret
          exact ⟨rfl, gr_trans G14.out hb15⟩
end Go.Proofs.Ytfiblhdejglpaaa

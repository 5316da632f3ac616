/- BodiesPlain: the walk of the law. Conditions: none but what the row reads. -/
import Derived.Test.YtfiblhdejglpaaaBodRefGets
import Derived.Test.YtfiblhdejglpaaaBodRoom
import Derived.Test.YtfiblhdejglpaaaBodWorks
import Derived.Test.YtfiblhdejglpaaaBodPlainOpen
import Derived.Test.YtfiblhdejglpaaaBaseE
import Derived.Test.YtfiblhdejglpaaaBaseC
namespace Go.Proofs.Ytfiblhdejglpaaa
open Go.RowKit Go.FL Go.ChangeShapes

set_option maxRecDepth 100000 in
set_option maxHeartbeats 4000000 in
theorem bodiesPlain_walk {w : World} {v u : Value} (x : PlainD) (hx : PlainAt v x) (ch : Chk) (h : ChkAt w u ch) :
    Calls Try.prog 6 #[v, u] w fun e w' => e = .returned (.bool true) ∧ Below w.heap.size w w' := by
  have HCH := hid (show ChkV w u ch from h)
  obtain ⟨rfl, hcum⟩ := hx
  obtain ⟨s, rfl, hrd⟩ := h
  have HV := hid hrd
  obtain ⟨p, c, rfl, hlc, hcm, hpn, hcell⟩ := hrd
  unfold maxLen at hcm
  clear hcell
  obtain ⟨kc, fc, bc⟩ := ch
  obtain ⟨k, at_, cum⟩ := x
  simp only [PlainD.val] at *
  obtain ⟨ta, te, hta⟩ : ∃ a b, timeGet ⟨kc, fc, bc⟩ = (a, b) := ⟨_, _, rfl⟩
  obtain ⟨na, ne, hna⟩ : ∃ a b, cumGet ⟨kc, fc, bc⟩ = (a, b) := ⟨_, _, rfl⟩
  have HTA := hid hta
  have HNA := hid hna
  obtain ⟨W0, hW0⟩ : ∃ W, W = w.alloc (.cells #[.int .u8 (k.toNat : Int), .int .i64 at_, .int .u32 (cum : Int)] 61 (0, 0)) := ⟨_, rfl⟩
  have hs0 : W0.heap.size = w.heap.size + 1 := by rw [hW0]; simp
  obtain ⟨W, hW⟩ : ∃ W, W = W0.alloc (.cells #[.int .u8 (kc.toNat : Int), .int .u8 (fc.toNat : Int), .slice p bc.length c] 28 (0, 0)) := ⟨_, rfl⟩
  have HP := hid (show RowV W w.heap.size 61 [.int .u8 (k.toNat : Int), .int .i64 at_, .int .u32 (cum : Int)] by rw [hW, hW0]; exact (RowV.new w _ _).alloc _)
  have HC := hid (show RowV W (w.heap.size + 1) 28 [.int .u8 (kc.toNat : Int), .int .u8 (fc.toNat : Int), .slice p bc.length c] by rw [hW, ← hs0]; exact RowV.new W0 _ _)
  have G0 := hid (show Below w.heap.size w W by rw [hW, hW0]; exact ((Below.refl _ _).alloc (Nat.le_refl _) _).alloc (by simp) _)
  obtain ⟨k0, k1, k2⟩ := HC.out.three
  rw [hW0] at hW
  rw [hW] at k0 k1 k2
  have HE := hid hW
  clear hW hW0 hs0 hta hna
  go_enter Try.func6, Try.ntmps6
  go_wp2_with fail
  rw [← HE.out]
  refine (large_any _ ⟨kc, fc, bc⟩ _ (HCH.out.mono G0.out)).mono ?_
  rintro e w1 ⟨rfl, hb1⟩
  simp only
  have HC1 := hid (HC.out.mono hb1)
  have HP1 := hid (HP.out.mono hb1)
  have G1 := hid (gr_trans G0.out hb1)
  clear hb1 k0 k1 k2
  by_cases hl : 8192 < bc.length
  · rw [decide_eq_true hl]
    go_wp2_with fail
    refine (works_any _).mono ?_
    rintro e w2 ⟨rfl, hb2⟩
    go_wp2_with fail
    go_ret
    exact ⟨rfl, gr_trans G1.out hb2⟩
  · rw [decide_eq_false hl]
    have HL := hid (show bc.length ≤ 1000000 by omega)
    have KC0 := hid (HC1.out.at 0 (by simp))
    have KC1 := hid (HC1.out.at 1 (by simp))
    have KC2 := hid (HC1.out.at 2 (by simp))
    simp only [List.getElem_cons_succ, List.getElem_cons_zero] at KC0 KC1 KC2
    clear hl
    have hlb := HL.out
    go_wp2_with fail
    refine wp_region_tail 9 [Is (.pointer (some ⟨w.heap.size + 1, 0, none⟩)), Is (.int .u8 (kc.toNat : Int)), Is (.pointer (some ⟨w.heap.size + 1, 1, none⟩)), Is (.int .u8 (fc.toNat : Int)), Is (.pointer (some ⟨w.heap.size + 1, 2, none⟩)), Is (.slice p bc.length c), RoomF w1.heap.size bc, QF w1.heap.size kc fc bc, NewF w1.heap.size 28 [.int .u8 0, .int .u8 0, .slice none 0 0]] (by kernel_rfl) (by kernel_rfl) (by kernel_rfl) (by kernel_rfl) (by kernel_rfl) (by kernel_rfl) ?_ ?_ ?_
    · simp only [StabAll, Is.gr, RdF.gr, OwnF.gr, AnyF.gr, NewF.gr, RoomF.gr, QF.gr, and_self]
    · rename_i Kk hKk; clear hKk Kk
      simp only [List.take_succ_cons, List.take_zero, AllOps, List.map_cons, List.map_nil, depsOf, List.filterMap_cons, List.filterMap_nil, Region.binds, depFacts, guardF, reduceIte, List.getD_eq_getElem?_getD, List.getElem?_cons_succ, List.getElem?_cons_zero, Option.getD_some, factAt, and_true]
      refine ⟨?_, ?_, ?_, ?_, ?_, ?_, ?_, ?_, ?_⟩
      all_goals intro ρ wv hρ hR hd
      all_goals try simp only [Is] at hd
      · exact opOk_val (v := .pointer (some ⟨w.heap.size + 1, 0, none⟩)) (w' := wv) (by simp [execOp, go_sem, hρ.1.const, hρ.1.func, hd, (hρ.2 3 rfl)]) ⟨rfl, GrR.refl _⟩
      · (have h0 := cell?_of_below hR KC0.out; exact opOk_val (v := .int .u8 (kc.toNat : Int)) (w' := wv) (by simp [execOp, go_sem, hd, h0]) ⟨rfl, GrR.refl _⟩)
      · exact opOk_val (v := .pointer (some ⟨w.heap.size + 1, 1, none⟩)) (w' := wv) (by simp [execOp, go_sem, hρ.1.const, hρ.1.func, hd, (hρ.2 3 rfl)]) ⟨rfl, GrR.refl _⟩
      · (have h0 := cell?_of_below hR KC1.out; exact opOk_val (v := .int .u8 (fc.toNat : Int)) (w' := wv) (by simp [execOp, go_sem, hd, h0]) ⟨rfl, GrR.refl _⟩)
      · exact opOk_val (v := .pointer (some ⟨w.heap.size + 1, 2, none⟩)) (w' := wv) (by simp [execOp, go_sem, hρ.1.const, hρ.1.func, hd, (hρ.2 3 rfl)]) ⟨rfl, GrR.refl _⟩
      · (have h0 := cell?_of_below hR KC2.out; exact opOk_val (v := .slice p bc.length c) (w' := wv) (by simp [execOp, go_sem, hd, h0]) ⟨rfl, GrR.refl _⟩)
      · exact opOk_call hρ.1 rfl rfl Try.func14 (by kernel_rfl) rfl (by simp [hd, hρ.1.const, hρ.1.func]) ((roomy_any _ bc _ ((HV.out.mono G1.out).mono hR) (by omega)).mono fun e w' ⟨v', h1, h2, h3⟩ => ⟨_, h1, h2.base hR.size, h3⟩)
      · (have hr : RoomF w1.heap.size bc (ρ (.tmp 23)) wv := (by first | exact hd.2.2 | exact hd.1 | exact hd.2.1); obtain ⟨g9, h91, h92, h93, h94⟩ := hr; exact opOk_val (v := .agg #[.int .u8 (kc.toNat : Int), .int .u8 (fc.toNat : Int), .slice (some ⟨g9, 0, none⟩) bc.length (bc.length + 16)]) (w' := wv) (by simp [execOp, go_sem, hd, h92]) ⟨⟨_, rfl, g9, h91, rfl, h93, h94⟩, GrR.refl _⟩)
      · exact opOk_val (v := .pointer (some ⟨wv.heap.size, 0, none⟩)) (w' := wv.alloc (.cells #[.int .u8 0, .int .u8 0, .slice none 0 0] 28 (0, 0))) (by simp [execOp, go_sem]) ⟨⟨_, rfl, hR.size, RowV.new wv 28 [.int .u8 0, .int .u8 0, .slice none 0 0]⟩, (Below.refl _ _).alloc (Nat.le_refl _) _⟩
    · intro vals wv hR hall
      have i7 := hall 7 (by omega)
      have i8 := hall 8 (by omega)
      simp only [factAt, QF, NewF, List.getD_eq_getElem?_getD, List.getElem?_cons_succ, List.getElem?_cons_zero, Option.getD_some] at i7 i8
      clear hall
      obtain ⟨sq, hq7, hroom⟩ := i7
      obtain ⟨hh, hq8, hge, hrow⟩ := i8
      obtain ⟨pq, nq, cq, rfl⟩ := hroom.rd.form
      simp only [List.take_succ_cons, List.take_zero, List.drop_succ_cons, List.drop_zero, fillFrom, Act.put, hq7, hq8, List.setIfInBounds_toArray, List.set_cons_zero, List.set_cons_succ, Nat.zero_add, Nat.reduceAdd]
      obtain ⟨wq, hwq⟩ : ∃ x, x = wv := ⟨_, rfl⟩
      subst hwq
      have HRW := hid hrow
      have HRM := hid hroom
      obtain ⟨i0, i1, i2⟩ := HRW.out.three
      have y0 := HRW.out.frozen 0
      have y1 := HRW.out.frozen 1
      have y2 := HRW.out.frozen 2
      obtain ⟨WQ, hWQ⟩ : ∃ x, x = (((wq.setCell ⟨hh, 0, none⟩ (.int .u8 (kc.toNat : Int))).setCell ⟨hh, 1, none⟩ (.int .u8 (fc.toNat : Int))).setCell ⟨hh, 2, none⟩ (.slice pq nq cq)) := ⟨_, rfl⟩
      have HQ := hid (show RowV WQ hh 28 [.int .u8 (kc.toNat : Int), .int .u8 (fc.toNat : Int), .slice pq nq cq] by rw [hWQ]; exact ((HRW.out.store 0 (.int .u8 (kc.toNat : Int))).store 1 (.int .u8 (fc.toNat : Int))).store 2 (.slice pq nq cq))
      have g2 : wq.grownBy WQ (some hh) := by rw [hWQ]; exact gb_set (gb_set (gb_set (gb_refl _ _) 0 _) 1 _) 2 _
      have HRQ := hid (HRM.out.keep g2 (HRM.out.ne HRW.out (by decide)))
      have GQ := hid (show Below w1.heap.size w1 WQ from hR.trans (gb_below g2 hge hR.size))
      have HEQ := hid hWQ
      clear hWQ g2 hq7 hq8 hroom hrow hR
      obtain ⟨q0, q1, q2⟩ := HQ.out.three
      rw [HEQ.out] at q0 q1 q2
      clear KC0 KC1 KC2
      go_wp2_with fail
      rw [← HEQ.out]
      have G2 := hid (gr_trans G1.out GQ.out)
      have HC2 := hid (HC1.out.mono GQ.out)
      have HP2 := hid (HP1.out.mono GQ.out)
      clear i0 i1 i2 y0 y1 y2 q0 q1 q2
      refine (getTime_any _ ⟨kc, fc, bc⟩ _ ⟨_, rfl, HRQ.out.rd⟩ HL.out).mono ?_
      rw [HTA.out]
      rintro e w3 ⟨rfl, hb3⟩
      simp only
      have HC3 := hid (HC2.out.mono hb3)
      have HP3 := hid (HP2.out.mono hb3)
      have HQ3 := hid (HQ.out.mono hb3)
      have HRQ3 := hid (HRQ.out.mono hb3)
      have G3 := hid (gr_trans G2.out hb3)
      clear hb3
      obtain ⟨k0, k1, k2⟩ := HC3.out.three
      go_wp2_with fail
      clear k0 k1 k2
      refine (rgetTime_any _ ⟨kc, fc, bc⟩ _ (HCH.out.mono G3.out) HL.out).mono ?_
      rw [HTA.out]
      rintro e w4 ⟨rfl, hb4⟩
      simp only
      have HC4 := hid (HC3.out.mono hb4)
      have HP4 := hid (HP3.out.mono hb4)
      have HQ4 := hid (HQ3.out.mono hb4)
      have HRQ4 := hid (HRQ3.out.mono hb4)
      have G4 := hid (gr_trans G3.out hb4)
      clear hb4
      obtain ⟨k0, k1, k2⟩ := HQ4.out.three
      go_wp2_with fail
      clear k0 k1 k2
      refine (getCum_any _ ⟨kc, fc, bc⟩ _ ⟨_, rfl, HRQ4.out.rd⟩ HL.out).mono ?_
      rw [HNA.out]
      rintro e w5 ⟨rfl, hb5⟩
      simp only
      have HC5 := hid (HC4.out.mono hb5)
      have HP5 := hid (HP4.out.mono hb5)
      have HQ5 := hid (HQ4.out.mono hb5)
      have HRQ5 := hid (HRQ4.out.mono hb5)
      have G5 := hid (gr_trans G4.out hb5)
      clear hb5
      obtain ⟨k0, k1, k2⟩ := HC5.out.three
      go_wp2_with fail
      clear k0 k1 k2
      refine (rgetCum_any _ ⟨kc, fc, bc⟩ _ (HCH.out.mono G5.out) HL.out).mono ?_
      rw [HNA.out]
      rintro e w6 ⟨rfl, hb6⟩
      simp only
      have HC6 := hid (HC5.out.mono hb6)
      have HP6 := hid (HP5.out.mono hb6)
      have HQ6 := hid (HQ5.out.mono hb6)
      have HRQ6 := hid (HRQ5.out.mono hb6)
      have G6 := hid (gr_trans G5.out hb6)
      clear hb6
      have KP0 := hid (HP6.out.at 0 (by simp))
      have KP1 := hid (HP6.out.at 1 (by simp))
      have KP2 := hid (HP6.out.at 2 (by simp))
      have KC2 := hid (HC6.out.at 2 (by simp))
      have KQ2 := hid (HQ6.out.at 2 (by simp))
      simp only [List.getElem_cons_succ, List.getElem_cons_zero] at KP0 KP1 KP2 KC2 KQ2
      go_wp2_with fail
      refine wp_region_gr [Is (.pointer (some ⟨w.heap.size, 0, none⟩)), Is (.int .u8 (k.toNat : Int)), Is (.pointer (some ⟨w.heap.size, 1, none⟩)), Is (.int .i64 at_), ChkF (timeChk k at_), Is (.pointer (some ⟨w.heap.size, 0, none⟩)), Is (.int .u8 (k.toNat : Int)), Is (.pointer (some ⟨w.heap.size, 1, none⟩)), Is (.int .i64 at_), ChkF (timeChk k at_), Is (.bool true), Is (.bool true), Is (.pointer (some ⟨w.heap.size, 2, none⟩)), Is (.int .u32 (cum : Int)), ChkF (cumChk cum), Is (.pointer (some ⟨w.heap.size, 2, none⟩)), Is (.int .u32 (cum : Int)), ChkF (cumChk cum), Is (.bool true), Is (.bool true), Is (.bool true), Is (.int .i64 ta), Is (.int .i64 ta), Is (.bool true), Is (.bool true), Is (.bool true), Is (.int .i64 te), Is (.int .i64 te), Is (.bool true), Is (.bool true), Is (.bool true), Is (.int .u32 (na : Int)), Is (.int .u32 (na : Int)), Is (.bool true), Is (.bool true), Is (.bool true), Is (.int .i64 ne), Is (.int .i64 ne), Is (.bool true), Is (.bool true), Is (.bool true), Is (.pointer (some ⟨hh, 2, none⟩)), Is (.slice pq nq cq), Is (.pointer (some ⟨w.heap.size + 1, 2, none⟩)), Is (.slice p bc.length c), Is (.bool true), Is (.bool true), Is (.bool true), Is (.bool true), Is (.bool true), Is (.bool true)] (by kernel_rfl) (by kernel_rfl) (by kernel_rfl) ?_ ?_ ?_
      · simp only [StabAll, Is.gr, RdF.gr, OwnF.gr, AnyF.gr, ChkF.gr, and_self]
      · rename_i Kk hKk; clear hKk Kk
        simp only [AllOps, List.map_cons, List.map_nil, depsOf, List.filterMap_cons, List.filterMap_nil, Region.binds, depFacts, guardF, reduceIte, List.getD_eq_getElem?_getD, List.getElem?_cons_succ, List.getElem?_cons_zero, Option.getD_some, factAt, and_true]
        refine ⟨?_, ?_, ?_, ?_, ?_, ?_, ?_, ?_, ?_, ?_, ?_, ?_, ?_, ?_, ?_, ?_, ?_, ?_, ?_, ?_, ?_, ?_, ?_, ?_, ?_, ?_, ?_, ?_, ?_, ?_, ?_, ?_, ?_, ?_, ?_, ?_, ?_, ?_, ?_, ?_, ?_, ?_, ?_, ?_, ?_, ?_, ?_, ?_, ?_, ?_, ?_⟩
        all_goals intro ρ wv hρ hR hd
        all_goals try simp only [Is] at hd
        · exact opOk_val (v := .pointer (some ⟨w.heap.size, 0, none⟩)) (w' := wv) (by simp [execOp, go_sem, hρ.1.const, hρ.1.func, hd, (hρ.2 2 rfl)]) ⟨rfl, GrR.refl _⟩
        · (have h0 := cell?_of_below hR KP0.out; exact opOk_val (v := .int .u8 (k.toNat : Int)) (w' := wv) (by simp [execOp, go_sem, hd, h0]) ⟨rfl, GrR.refl _⟩)
        · exact opOk_val (v := .pointer (some ⟨w.heap.size, 1, none⟩)) (w' := wv) (by simp [execOp, go_sem, hρ.1.const, hρ.1.func, hd, (hρ.2 2 rfl)]) ⟨rfl, GrR.refl _⟩
        · (have h0 := cell?_of_below hR KP1.out; exact opOk_val (v := .int .i64 at_) (w' := wv) (by simp [execOp, go_sem, hd, h0]) ⟨rfl, GrR.refl _⟩)
        · exact opOk_call hρ.1 rfl rfl Try.func38 (by kernel_rfl) rfl (by simp [hd, hρ.1.const, hρ.1.func]) ((putTime_any k at_ wv).mono fun e w' ⟨s, h1, h2, h3⟩ => ⟨_, h1, ⟨s, rfl, h2.rd⟩, h3⟩)
        · exact opOk_val (v := .pointer (some ⟨w.heap.size, 0, none⟩)) (w' := wv) (by simp [execOp, go_sem, hρ.1.const, hρ.1.func, hd, (hρ.2 2 rfl)]) ⟨rfl, GrR.refl _⟩
        · (have h0 := cell?_of_below hR KP0.out; exact opOk_val (v := .int .u8 (k.toNat : Int)) (w' := wv) (by simp [execOp, go_sem, hd, h0]) ⟨rfl, GrR.refl _⟩)
        · exact opOk_val (v := .pointer (some ⟨w.heap.size, 1, none⟩)) (w' := wv) (by simp [execOp, go_sem, hρ.1.const, hρ.1.func, hd, (hρ.2 2 rfl)]) ⟨rfl, GrR.refl _⟩
        · (have h0 := cell?_of_below hR KP1.out; exact opOk_val (v := .int .i64 at_) (w' := wv) (by simp [execOp, go_sem, hd, h0]) ⟨rfl, GrR.refl _⟩)
        · exact opOk_call hρ.1 rfl rfl Try.func39 (by kernel_rfl) rfl (by simp [hd, hρ.1.const, hρ.1.func]) ((rputTime_any k at_ wv).mono fun e w' ⟨s, h1, h2, h3⟩ => ⟨_, h1, ⟨s, rfl, h2.rd⟩, h3⟩)
        · exact opOk_call hρ.1 rfl rfl Try.func18 (by kernel_rfl) rfl (by simp [hd, hρ.1.const, hρ.1.func]) ((chkSame_yes _ _ (timeChk k at_) _ hd.1 hd.2.1).mono fun e w' ⟨h1, h2⟩ => ⟨_, h1, rfl, h2⟩)
        · exact opOk_move (.inl rfl) ⟨by simp only [Is]; (first | exact hρ.2 55 rfl | exact hd | exact hd.1 | exact hd.2 | simp [hd]), GrR.refl _⟩
        · refine ⟨fun _ => ?_, fun hg => absurd (by simp [hd]) hg⟩; exact opOk_val (v := .pointer (some ⟨w.heap.size, 2, none⟩)) (w' := wv) (by simp [execOp, go_sem, hρ.1.const, hρ.1.func, hd, (hρ.2 2 rfl)]) ⟨rfl, GrR.refl _⟩
        · refine ⟨fun _ => ?_, fun hg => absurd (by simp [hd]) hg⟩; (have h0 := cell?_of_below hR KP2.out; exact opOk_val (v := .int .u32 (cum : Int)) (w' := wv) (by simp [execOp, go_sem, hd, h0]) ⟨rfl, GrR.refl _⟩)
        · refine ⟨fun _ => ?_, fun hg => absurd (by simp [hd]) hg⟩; exact opOk_call hρ.1 rfl rfl Try.func40 (by kernel_rfl) rfl (by simp [hd, hρ.1.const, hρ.1.func]) ((putCum_any cum (by omega) wv).mono fun e w' ⟨s, h1, h2, h3⟩ => ⟨_, h1, ⟨s, rfl, h2.rd⟩, h3⟩)
        · refine ⟨fun _ => ?_, fun hg => absurd (by simp [hd]) hg⟩; exact opOk_val (v := .pointer (some ⟨w.heap.size, 2, none⟩)) (w' := wv) (by simp [execOp, go_sem, hρ.1.const, hρ.1.func, hd, (hρ.2 2 rfl)]) ⟨rfl, GrR.refl _⟩
        · refine ⟨fun _ => ?_, fun hg => absurd (by simp [hd]) hg⟩; (have h0 := cell?_of_below hR KP2.out; exact opOk_val (v := .int .u32 (cum : Int)) (w' := wv) (by simp [execOp, go_sem, hd, h0]) ⟨rfl, GrR.refl _⟩)
        · refine ⟨fun _ => ?_, fun hg => absurd (by simp [hd]) hg⟩; exact opOk_call hρ.1 rfl rfl Try.func41 (by kernel_rfl) rfl (by simp [hd, hρ.1.const, hρ.1.func]) ((rputCum_any cum (by omega) wv).mono fun e w' ⟨s, h1, h2, h3⟩ => ⟨_, h1, ⟨s, rfl, h2.rd⟩, h3⟩)
        · refine ⟨fun _ => ?_, fun hg => absurd (by simp [hd]) hg⟩; exact opOk_call hρ.1 rfl rfl Try.func18 (by kernel_rfl) rfl (by simp [hd, hρ.1.const, hρ.1.func]) ((chkSame_yes _ _ (cumChk cum) _ hd.1 hd.2.1).mono fun e w' ⟨h1, h2⟩ => ⟨_, h1, rfl, h2⟩)
        · exact opOk_val (v := .bool true) (w' := wv) (by simp [execOp, go_sem, hρ.1.const, hρ.1.func, hd]) ⟨rfl, GrR.refl _⟩
        · exact opOk_move (.inl rfl) ⟨by simp only [Is]; (first | exact hρ.2 64 rfl | exact hd | exact hd.1 | exact hd.2 | simp [hd]), GrR.refl _⟩
        · refine ⟨fun _ => ?_, fun hg => absurd (by simp [hd]) hg⟩; exact opOk_move (.inl rfl) ⟨by simp only [Is]; (first | exact hρ.2 6 rfl | exact hd | exact hd.1 | exact hd.2 | simp [hd]), GrR.refl _⟩
        · refine ⟨fun _ => ?_, fun hg => absurd (by simp [hd]) hg⟩; exact opOk_move (.inl rfl) ⟨by simp only [Is]; (first | exact hρ.2 8 rfl | exact hd | exact hd.1 | exact hd.2 | simp [hd]), GrR.refl _⟩
        · refine ⟨fun _ => ?_, fun hg => absurd (by simp [hd]) hg⟩; exact opOk_val (v := .bool true) (w' := wv) (by simp [execOp, go_sem, hρ.1.const, hρ.1.func, hd]) ⟨rfl, GrR.refl _⟩
        · exact opOk_val (v := .bool true) (w' := wv) (by simp [execOp, go_sem, hρ.1.const, hρ.1.func, hd]) ⟨rfl, GrR.refl _⟩
        · exact opOk_move (.inl rfl) ⟨by simp only [Is]; (first | exact hρ.2 69 rfl | exact hd | exact hd.1 | exact hd.2 | simp [hd]), GrR.refl _⟩
        · refine ⟨fun _ => ?_, fun hg => absurd (by simp [hd]) hg⟩; exact opOk_move (.inl rfl) ⟨by simp only [Is]; (first | exact hρ.2 7 rfl | exact hd | exact hd.1 | exact hd.2 | simp [hd]), GrR.refl _⟩
        · refine ⟨fun _ => ?_, fun hg => absurd (by simp [hd]) hg⟩; exact opOk_move (.inl rfl) ⟨by simp only [Is]; (first | exact hρ.2 9 rfl | exact hd | exact hd.1 | exact hd.2 | simp [hd]), GrR.refl _⟩
        · refine ⟨fun _ => ?_, fun hg => absurd (by simp [hd]) hg⟩; exact opOk_val (v := .bool true) (w' := wv) (by simp [execOp, go_sem, hρ.1.const, hρ.1.func, hd]) ⟨rfl, GrR.refl _⟩
        · exact opOk_val (v := .bool true) (w' := wv) (by simp [execOp, go_sem, hρ.1.const, hρ.1.func, hd]) ⟨rfl, GrR.refl _⟩
        · exact opOk_move (.inl rfl) ⟨by simp only [Is]; (first | exact hρ.2 74 rfl | exact hd | exact hd.1 | exact hd.2 | simp [hd]), GrR.refl _⟩
        · refine ⟨fun _ => ?_, fun hg => absurd (by simp [hd]) hg⟩; exact opOk_move (.inl rfl) ⟨by simp only [Is]; (first | exact hρ.2 10 rfl | exact hd | exact hd.1 | exact hd.2 | simp [hd]), GrR.refl _⟩
        · refine ⟨fun _ => ?_, fun hg => absurd (by simp [hd]) hg⟩; exact opOk_move (.inl rfl) ⟨by simp only [Is]; (first | exact hρ.2 12 rfl | exact hd | exact hd.1 | exact hd.2 | simp [hd]), GrR.refl _⟩
        · refine ⟨fun _ => ?_, fun hg => absurd (by simp [hd]) hg⟩; exact opOk_val (v := .bool true) (w' := wv) (by simp [execOp, go_sem, hρ.1.const, hρ.1.func, hd]) ⟨rfl, GrR.refl _⟩
        · exact opOk_val (v := .bool true) (w' := wv) (by simp [execOp, go_sem, hρ.1.const, hρ.1.func, hd]) ⟨rfl, GrR.refl _⟩
        · exact opOk_move (.inl rfl) ⟨by simp only [Is]; (first | exact hρ.2 79 rfl | exact hd | exact hd.1 | exact hd.2 | simp [hd]), GrR.refl _⟩
        · refine ⟨fun _ => ?_, fun hg => absurd (by simp [hd]) hg⟩; exact opOk_move (.inl rfl) ⟨by simp only [Is]; (first | exact hρ.2 11 rfl | exact hd | exact hd.1 | exact hd.2 | simp [hd]), GrR.refl _⟩
        · refine ⟨fun _ => ?_, fun hg => absurd (by simp [hd]) hg⟩; exact opOk_move (.inl rfl) ⟨by simp only [Is]; (first | exact hρ.2 13 rfl | exact hd | exact hd.1 | exact hd.2 | simp [hd]), GrR.refl _⟩
        · refine ⟨fun _ => ?_, fun hg => absurd (by simp [hd]) hg⟩; exact opOk_val (v := .bool true) (w' := wv) (by simp [execOp, go_sem, hρ.1.const, hρ.1.func, hd]) ⟨rfl, GrR.refl _⟩
        · exact opOk_val (v := .bool true) (w' := wv) (by simp [execOp, go_sem, hρ.1.const, hρ.1.func, hd]) ⟨rfl, GrR.refl _⟩
        · exact opOk_move (.inl rfl) ⟨by simp only [Is]; (first | exact hρ.2 84 rfl | exact hd | exact hd.1 | exact hd.2 | simp [hd]), GrR.refl _⟩
        · refine ⟨fun _ => ?_, fun hg => absurd (by simp [hd]) hg⟩; exact opOk_val (v := .pointer (some ⟨hh, 2, none⟩)) (w' := wv) (by simp [execOp, go_sem, hρ.1.const, hρ.1.func, hd, (hρ.2 5 rfl)]) ⟨rfl, GrR.refl _⟩
        · refine ⟨fun _ => ?_, fun hg => absurd (by simp [hd]) hg⟩; (have h0 := cell?_of_below hR KQ2.out; exact opOk_val (v := .slice pq nq cq) (w' := wv) (by simp [execOp, go_sem, hd, h0]) ⟨rfl, GrR.refl _⟩)
        · refine ⟨fun _ => ?_, fun hg => absurd (by simp [hd]) hg⟩; exact opOk_val (v := .pointer (some ⟨w.heap.size + 1, 2, none⟩)) (w' := wv) (by simp [execOp, go_sem, hρ.1.const, hρ.1.func, hd, (hρ.2 3 rfl)]) ⟨rfl, GrR.refl _⟩
        · refine ⟨fun _ => ?_, fun hg => absurd (by simp [hd]) hg⟩; (have h0 := cell?_of_below hR KC2.out; exact opOk_val (v := .slice p bc.length c) (w' := wv) (by simp [execOp, go_sem, hd, h0]) ⟨rfl, GrR.refl _⟩)
        · refine ⟨fun _ => ?_, fun hg => absurd (by simp [hd]) hg⟩; exact opOk_call hρ.1 rfl rfl Try.func20 (by kernel_rfl) rfl (by simp [hd, hρ.1.const, hρ.1.func]) ((kept_gr _ _ bc _ _ (HRQ6.out.mono hR) (HV.out.mono (gr_trans G6.out hR))).mono fun e w' ⟨h1, h2⟩ => ⟨_, h1, rfl, h2⟩)
        · exact opOk_val (v := .bool true) (w' := wv) (by simp [execOp, go_sem, hρ.1.const, hρ.1.func, hd]) ⟨rfl, GrR.refl _⟩
        · exact opOk_move (.inl rfl) ⟨by simp only [Is]; (first | exact hρ.2 91 rfl | exact hd | exact hd.1 | exact hd.2 | simp [hd]), GrR.refl _⟩
        · refine ⟨fun _ => ?_, fun hg => absurd (by simp [hd]) hg⟩; exact opOk_call hρ.1 rfl rfl Try.func13 (by kernel_rfl) rfl (by simp [hd, hρ.1.const, hρ.1.func]) ((works_any _).mono fun e w' ⟨h1, h2⟩ => ⟨_, h1, rfl, h2⟩)
        · exact opOk_val (v := .bool true) (w' := wv) (by simp [execOp, go_sem, hρ.1.const, hρ.1.func, hd]) ⟨rfl, GrR.refl _⟩
        · exact opOk_move (.inr rfl) ⟨by simp only [Is]; (first | exact hρ.2 94 rfl | exact hd | exact hd.1 | exact hd.2 | simp [hd]), GrR.refl _⟩
      · intro vals wv hR hall
        have hend := hall 50 (by simp)
        simp only [factAt, Is, List.getD_eq_getElem?_getD, List.getElem?_cons_succ, List.getElem?_cons_zero, Option.getD_some] at hend
        clear hall
        simp only [fillFrom, Act.put, hend, List.setIfInBounds_toArray, List.set_cons_zero, List.set_cons_succ]
        rename_i Kk hKk
        refine hKk _ _ ?_
        clear hKk Kk
        go_wp2
        go_ret
        exact ⟨rfl, gr_trans G6.out hR⟩
end Go.Proofs.Ytfiblhdejglpaaa

/- The document's GetCum and GetTime. Conditions: what comes in reads as it should. -/
import Derived.Test.YtfiblhdejglpaaaBodChkSame
import Derived.Test.YtfiblhdejglpaaaBodRefPuts
import Derived.Test.YtfiblhdejglpaaaBodGetters
namespace Go.FL
open Go.RowKit
theorem chkEq_dec (c d : Chk) : chkEq c d = decide (c = d) := by
  rw [Bool.eq_iff_iff, chkEq_iff, decide_eq_true_eq]
end Go.FL
namespace Go.Proofs.Ytfiblhdejglpaaa
open Go.RowKit Go.FL Go.ChangeShapes

set_option maxRecDepth 100000 in
set_option maxHeartbeats 2000000 in
theorem rgetCum_any (v : Value) (ch : Chk) (w : World) (h : ChkV w v ch) (hl : ch.b.length ≤ 1000000) :
    Calls Try.prog 37 #[v] w fun e w' => e = .returned (.tuple #[.int .u32 ((cumGet ch).1 : Int), .int .i64 (cumGet ch).2]) ∧ Below w.heap.size w w' := by
  obtain ⟨s, rfl, hrd⟩ := h
  have HV := hid hrd
  obtain ⟨p, c, rfl, hlc, hcm, hpn, hcell⟩ := hrd
  unfold maxLen at hcm
  clear hcell
  obtain ⟨kc, fc, bc⟩ := ch
  simp only at *
  obtain ⟨W, hW⟩ : ∃ W, W = w.alloc (.cells #[.int .u8 (kc.toNat : Int), .int .u8 (fc.toNat : Int), .slice p bc.length c] 28 (0, 0)) := ⟨_, rfl⟩
  have HC := hid (show RowV W w.heap.size 28 [.int .u8 (kc.toNat : Int), .int .u8 (fc.toNat : Int), .slice p bc.length c] by rw [hW]; exact RowV.new w 28 _)
  have G0 := hid (show Below w.heap.size w W by rw [hW]; exact (Below.refl _ _).alloc (Nat.le_refl _) _)
  obtain ⟨k0, k1, k2⟩ := HC.out.three
  rw [hW] at k0 k1 k2
  have HE := hid hW
  have hxl := numAt_lt bc 0 4
  obtain ⟨x, hx⟩ : ∃ x, x = numAt bc 0 4 := ⟨_, rfl⟩
  have HX := hid hx
  rw [← hx] at hxl
  have HWU : IntKind.u32.wrap (x : Int) = (x : Int) := by rw [wrap_u32_lt]; omega
  obtain ⟨q, hq⟩ : ∃ q, q = chkEq (cumChk x) ⟨kc, fc, bc⟩ := ⟨_, rfl⟩
  have HQ := hid hq
  obtain ⟨res, hres⟩ : ∃ r, r = cumGet ⟨kc, fc, bc⟩ := ⟨_, rfl⟩
  rw [← hres]
  have HRES := hid (show res = if q = true then (x, 0) else (0, 7) by
    rw [hres]
    subst hq hx
    unfold cumGet
    by_cases e : cumChk (numAt bc 0 4) = ⟨kc, fc, bc⟩ <;> simp [e, chkEq_dec])
  clear hx hW hq hres
  go_enter Try.func37, Try.ntmps37
  go_wp2_with fail
  rw [← HE.out]
  clear k0 k1 k2
  refine (bnumber_any _ bc 0 4 _ _ rfl rfl (by omega) _ (HV.out.mono G0.out) (by omega)).mono ?_
  rintro e w1 ⟨rfl, hb1⟩
  rw [← HX.out]
  have HC1 := hid (HC.out.mono hb1)
  have G1 := hid (gr_trans G0.out hb1)
  clear hb1
  go_wp2_with fail
  refine wp_region_gr [Is (.int .u32 (x : Int)), ChkF (cumChk x), Is (.agg ([.int .u8 (kc.toNat : Int), .int .u8 (fc.toNat : Int), .slice p bc.length c]).toArray), Is (.bool q), Is (.bool (!q))] (by kernel_rfl) (by kernel_rfl) (by kernel_rfl) ?_ ?_ ?_
  · simp only [StabAll, Is.gr, RdF.gr, OwnF.gr, AnyF.gr, ChkF.gr, and_self]
  · rename_i Kk hKk; clear hKk Kk
    simp only [AllOps, List.map_cons, List.map_nil, depsOf, List.filterMap_cons, List.filterMap_nil, Region.binds, depFacts, guardF, reduceIte, List.getD_eq_getElem?_getD, List.getElem?_cons_succ, List.getElem?_cons_zero, Option.getD_some, factAt, and_true]
    refine ⟨?_, ?_, ?_, ?_, ?_⟩
    all_goals intro ρ wv hρ hR hd
    all_goals try simp only [Is] at hd
    · exact opOk_move (.inl rfl) ⟨by simp only [Is]; (first | exact hρ.2 4 rfl | exact hd | exact hd.1 | exact hd.2 | simp [hd]), GrR.refl _⟩
    · exact opOk_call hρ.1 rfl rfl Try.func41 (by kernel_rfl) rfl (by simp [hd, hρ.1.const, hρ.1.func]) ((rputCum_any x (by omega) wv).mono fun e w' ⟨s, h1, h2, h3⟩ => ⟨_, h1, ⟨s, rfl, h2.rd⟩, h3⟩)
    · exact opOk_loadRow rfl (w.heap.size) (by first | exact hρ.2 _ rfl | simp [hd]) _ ([.int .u8 (kc.toNat : Int), .int .u8 (fc.toNat : Int), .slice p bc.length c]) _ (HC1.out.mono hR) Try.underlying28 rfl (by kernel_rfl) ⟨rfl, GrR.refl _⟩
    · exact opOk_call hρ.1 rfl rfl Try.func18 (by kernel_rfl) rfl (by simp [hd, hρ.1.const, hρ.1.func]) ((chkSame_any _ _ (cumChk x) ⟨kc, fc, bc⟩ _ hd.1 ⟨_, rfl, (HV.out.mono G1.out).mono hR⟩).mono fun e w' ⟨h1, h2⟩ => ⟨_, h1, (by rw [HQ.out]; rfl), h2⟩)
    · exact opOk_val (v := .bool (!q)) (w' := wv) (by simp [execOp, go_sem, hρ.1.const, hρ.1.func, hd]) ⟨rfl, GrR.refl _⟩
  · intro vals wv hR hall
    have hend := hall 4 (by simp)
    simp only [factAt, Is, List.getD_eq_getElem?_getD, List.getElem?_cons_succ, List.getElem?_cons_zero, Option.getD_some] at hend
    clear hall
    simp only [fillFrom, Act.put, hend, List.setIfInBounds_toArray, List.set_cons_zero, List.set_cons_succ]
    have GF := hid (gr_trans G1.out hR)
    clear hR hend HQ
    cases q
    · simp only [Bool.not_false]
      go_wp2_with fail
      go_ret2
      exact ⟨by rw [HRES.out]; rfl, GF.out⟩
    · simp only [Bool.not_true]
      go_wp2_with fail
      go_ret2
      exact ⟨by rw [HRES.out]; rfl, GF.out⟩

set_option maxRecDepth 100000 in
set_option maxHeartbeats 2000000 in
theorem rgetTime_any (v : Value) (ch : Chk) (w : World) (h : ChkV w v ch) (hl : ch.b.length ≤ 1000000) :
    Calls Try.prog 35 #[v] w fun e w' => e = .returned (.tuple #[.int .i64 (timeGet ch).1, .int .i64 (timeGet ch).2]) ∧ Below w.heap.size w w' := by
  obtain ⟨s, rfl, hrd⟩ := h
  have HV := hid hrd
  obtain ⟨p, c, rfl, hlc, hcm, hpn, hcell⟩ := hrd
  unfold maxLen at hcm
  clear hcell
  obtain ⟨kc, fc, bc⟩ := ch
  simp only at *
  obtain ⟨W, hW⟩ : ∃ W, W = w.alloc (.cells #[.int .u8 (kc.toNat : Int), .int .u8 (fc.toNat : Int), .slice p bc.length c] 28 (0, 0)) := ⟨_, rfl⟩
  have HC := hid (show RowV W w.heap.size 28 [.int .u8 (kc.toNat : Int), .int .u8 (fc.toNat : Int), .slice p bc.length c] by rw [hW]; exact RowV.new w 28 _)
  have G0 := hid (show Below w.heap.size w W by rw [hW]; exact (Below.refl _ _).alloc (Nat.le_refl _) _)
  obtain ⟨k0, k1, k2⟩ := HC.out.three
  rw [hW] at k0 k1 k2
  have HE := hid hW
  have hxl := numAt_lt bc 4 8
  obtain ⟨x, hx⟩ : ∃ x, x = numAt bc 4 8 := ⟨_, rfl⟩
  have HX := hid hx
  rw [← hx] at hxl
  have HWU := wrap_timeI x hxl
  obtain ⟨at_, hat⟩ : ∃ a, a = timeI x := ⟨_, rfl⟩
  rw [← hat] at HWU
  obtain ⟨q, hq⟩ : ∃ q, q = chkEq (timeChk kc at_) ⟨kc, fc, bc⟩ := ⟨_, rfl⟩
  have HQ := hid hq
  obtain ⟨k4, hk4⟩ : ∃ q, q = decide (kc = 4) := ⟨_, rfl⟩
  obtain ⟨k5, hk5⟩ : ∃ q, q = decide (kc = 5) := ⟨_, rfl⟩
  obtain ⟨res, hres⟩ : ∃ r, r = timeGet ⟨kc, fc, bc⟩ := ⟨_, rfl⟩
  rw [← hres]
  have HRES := hid (show res = if (k4 || k5) = true ∧ q = true then (at_, 0) else (0, 7) by
    rw [hres]
    subst hq hk4 hk5 hat hx
    unfold timeGet
    by_cases e : timeChk kc (timeI (numAt bc 4 8)) = ⟨kc, fc, bc⟩ <;> simp [e, chkEq_dec])
  have HK4 := hid (show ((kc.toNat : Int) != 4) = !k4 by rw [bne, kind_eq kc 4 4 rfl, hk4])
  have HK5 := hid (show ((kc.toNat : Int) != 5) = !k5 by rw [bne, kind_eq kc 5 5 rfl, hk5])
  clear hx hW hq hat hk4 hk5 hres
  have hkb := byte_lt kc
  go_enter Try.func35, Try.ntmps35
  go_wp2_with fail
  rw [← HE.out]
  clear k0 k1 k2
  refine (bnumber_any _ bc 4 8 _ _ rfl rfl (by omega) _ (HV.out.mono G0.out) (by omega)).mono ?_
  rintro e w1 ⟨rfl, hb1⟩
  rw [← HX.out]
  have HC1 := hid (HC.out.mono hb1)
  have G1 := hid (gr_trans G0.out hb1)
  have K0 := hid (HC1.out.at 0 (by simp))
  simp only [List.getElem_cons_succ, List.getElem_cons_zero] at K0
  clear hb1
  go_wp2_with fail
  cases k4
  · cases k5
    · skip
      refine wp_region_gr [Is (.pointer (some ⟨w.heap.size, 0, none⟩)), Is (.int .u8 (kc.toNat : Int)), Is (.bool true), Is (.bool true), Is (.pointer (some ⟨w.heap.size, 0, none⟩)), Is (.int .u8 (kc.toNat : Int)), Is (.bool true), Is (.bool true), Is (.bool true), AnyF, AnyF, AnyF, AnyF, AnyF, AnyF, AnyF, Is (.bool true)] (by kernel_rfl) (by kernel_rfl) (by kernel_rfl) ?_ ?_ ?_
      · simp only [StabAll, Is.gr, RdF.gr, OwnF.gr, AnyF.gr, and_self]
      · rename_i Kk hKk; clear hKk Kk
        simp only [AllOps, List.map_cons, List.map_nil, depsOf, List.filterMap_cons, List.filterMap_nil, Region.binds, depFacts, guardF, reduceIte, List.getD_eq_getElem?_getD, List.getElem?_cons_succ, List.getElem?_cons_zero, Option.getD_some, factAt, and_true]
        refine ⟨?_, ?_, ?_, ?_, ?_, ?_, ?_, ?_, ?_, ?_, ?_, ?_, ?_, ?_, ?_, ?_, ?_⟩
        all_goals intro ρ wv hρ hR hd
        all_goals try simp only [Is] at hd
        · exact opOk_val (v := .pointer (some ⟨w.heap.size, 0, none⟩)) (w' := wv) (by simp [execOp, go_sem, hρ.1.const, hρ.1.func, hd, (hρ.2 1 rfl)]) ⟨rfl, GrR.refl _⟩
        · (have h0 := cell?_of_below hR K0.out; exact opOk_val (v := .int .u8 (kc.toNat : Int)) (w' := wv) (by simp [execOp, go_sem, hd, h0]) ⟨rfl, GrR.refl _⟩)
        · exact opOk_val (v := .bool true) (w' := wv) (by simp [execOp, go_sem, hρ.1.const, hρ.1.func, hd, HK4.out]) ⟨rfl, GrR.refl _⟩
        · exact opOk_move (.inl rfl) ⟨by simp only [Is]; (first | exact hρ.2 11 rfl | exact hd | exact hd.1 | exact hd.2 | simp [hd]), GrR.refl _⟩
        · refine ⟨fun _ => ?_, fun hg => absurd (by simp [hd]) hg⟩; exact opOk_val (v := .pointer (some ⟨w.heap.size, 0, none⟩)) (w' := wv) (by simp [execOp, go_sem, hρ.1.const, hρ.1.func, hd, (hρ.2 1 rfl)]) ⟨rfl, GrR.refl _⟩
        · refine ⟨fun _ => ?_, fun hg => absurd (by simp [hd]) hg⟩; (have h0 := cell?_of_below hR K0.out; exact opOk_val (v := .int .u8 (kc.toNat : Int)) (w' := wv) (by simp [execOp, go_sem, hd, h0]) ⟨rfl, GrR.refl _⟩)
        · refine ⟨fun _ => ?_, fun hg => absurd (by simp [hd]) hg⟩; exact opOk_val (v := .bool true) (w' := wv) (by simp [execOp, go_sem, hρ.1.const, hρ.1.func, hd, HK5.out]) ⟨rfl, GrR.refl _⟩
        · exact opOk_val (v := .bool true) (w' := wv) (by simp [execOp, go_sem, hρ.1.const, hρ.1.func, hd]) ⟨rfl, GrR.refl _⟩
        · exact opOk_move (.inl rfl) ⟨by simp only [Is]; (first | exact hρ.2 16 rfl | exact hd | exact hd.1 | exact hd.2 | simp [hd]), GrR.refl _⟩
        · exact ⟨fun hg => absurd hg (by simp [hd]), fun _ => trivial⟩
        · exact ⟨fun hg => absurd hg (by simp [hd]), fun _ => trivial⟩
        · exact ⟨fun hg => absurd hg (by simp [hd]), fun _ => trivial⟩
        · exact ⟨fun hg => absurd hg (by simp [hd]), fun _ => trivial⟩
        · exact ⟨fun hg => absurd hg (by simp [hd]), fun _ => trivial⟩
        · exact ⟨fun hg => absurd hg (by simp [hd]), fun _ => trivial⟩
        · exact ⟨fun hg => absurd hg (by simp [hd]), fun _ => trivial⟩
        · exact opOk_val (v := .bool true) (w' := wv) (by simp [execOp, go_sem, hρ.1.const, hρ.1.func, hd]) ⟨rfl, GrR.refl _⟩
      · intro vals wv hR hall
        have hend := hall 16 (by simp)
        simp only [factAt, Is, List.getD_eq_getElem?_getD, List.getElem?_cons_succ, List.getElem?_cons_zero, Option.getD_some] at hend
        clear hall
        simp only [fillFrom, Act.put, hend, List.setIfInBounds_toArray, List.set_cons_zero, List.set_cons_succ]
        have GF := hid (gr_trans G1.out hR)
        clear hR hend HQ
        go_wp2_with fail
        go_ret2
        exact ⟨by rw [HRES.out]; rfl, GF.out⟩
    · skip
      refine wp_region_gr [Is (.pointer (some ⟨w.heap.size, 0, none⟩)), Is (.int .u8 (kc.toNat : Int)), Is (.bool true), Is (.bool true), Is (.pointer (some ⟨w.heap.size, 0, none⟩)), Is (.int .u8 (kc.toNat : Int)), Is (.bool false), Is (.bool false), Is (.bool false), Is (.pointer (some ⟨w.heap.size, 0, none⟩)), Is (.int .u8 (kc.toNat : Int)), Is (.int .i64 at_), ChkF (timeChk kc at_), Is (.agg ([.int .u8 (kc.toNat : Int), .int .u8 (fc.toNat : Int), .slice p bc.length c]).toArray), Is (.bool q), Is (.bool (!q)), Is (.bool (!q))] (by kernel_rfl) (by kernel_rfl) (by kernel_rfl) ?_ ?_ ?_
      · simp only [StabAll, Is.gr, RdF.gr, OwnF.gr, AnyF.gr, ChkF.gr, and_self]
      · rename_i Kk hKk; clear hKk Kk
        simp only [AllOps, List.map_cons, List.map_nil, depsOf, List.filterMap_cons, List.filterMap_nil, Region.binds, depFacts, guardF, reduceIte, List.getD_eq_getElem?_getD, List.getElem?_cons_succ, List.getElem?_cons_zero, Option.getD_some, factAt, and_true]
        refine ⟨?_, ?_, ?_, ?_, ?_, ?_, ?_, ?_, ?_, ?_, ?_, ?_, ?_, ?_, ?_, ?_, ?_⟩
        all_goals intro ρ wv hρ hR hd
        all_goals try simp only [Is] at hd
        · exact opOk_val (v := .pointer (some ⟨w.heap.size, 0, none⟩)) (w' := wv) (by simp [execOp, go_sem, hρ.1.const, hρ.1.func, hd, (hρ.2 1 rfl)]) ⟨rfl, GrR.refl _⟩
        · (have h0 := cell?_of_below hR K0.out; exact opOk_val (v := .int .u8 (kc.toNat : Int)) (w' := wv) (by simp [execOp, go_sem, hd, h0]) ⟨rfl, GrR.refl _⟩)
        · exact opOk_val (v := .bool true) (w' := wv) (by simp [execOp, go_sem, hρ.1.const, hρ.1.func, hd, HK4.out]) ⟨rfl, GrR.refl _⟩
        · exact opOk_move (.inl rfl) ⟨by simp only [Is]; (first | exact hρ.2 11 rfl | exact hd | exact hd.1 | exact hd.2 | simp [hd]), GrR.refl _⟩
        · refine ⟨fun _ => ?_, fun hg => absurd (by simp [hd]) hg⟩; exact opOk_val (v := .pointer (some ⟨w.heap.size, 0, none⟩)) (w' := wv) (by simp [execOp, go_sem, hρ.1.const, hρ.1.func, hd, (hρ.2 1 rfl)]) ⟨rfl, GrR.refl _⟩
        · refine ⟨fun _ => ?_, fun hg => absurd (by simp [hd]) hg⟩; (have h0 := cell?_of_below hR K0.out; exact opOk_val (v := .int .u8 (kc.toNat : Int)) (w' := wv) (by simp [execOp, go_sem, hd, h0]) ⟨rfl, GrR.refl _⟩)
        · refine ⟨fun _ => ?_, fun hg => absurd (by simp [hd]) hg⟩; exact opOk_val (v := .bool false) (w' := wv) (by simp [execOp, go_sem, hρ.1.const, hρ.1.func, hd, HK5.out]) ⟨rfl, GrR.refl _⟩
        · exact opOk_val (v := .bool false) (w' := wv) (by simp [execOp, go_sem, hρ.1.const, hρ.1.func, hd]) ⟨rfl, GrR.refl _⟩
        · exact opOk_move (.inl rfl) ⟨by simp only [Is]; (first | exact hρ.2 16 rfl | exact hd | exact hd.1 | exact hd.2 | simp [hd]), GrR.refl _⟩
        · refine ⟨fun _ => ?_, fun hg => absurd (by simp [hd]) hg⟩; exact opOk_val (v := .pointer (some ⟨w.heap.size, 0, none⟩)) (w' := wv) (by simp [execOp, go_sem, hρ.1.const, hρ.1.func, hd, (hρ.2 1 rfl)]) ⟨rfl, GrR.refl _⟩
        · refine ⟨fun _ => ?_, fun hg => absurd (by simp [hd]) hg⟩; (have h0 := cell?_of_below hR K0.out; exact opOk_val (v := .int .u8 (kc.toNat : Int)) (w' := wv) (by simp [execOp, go_sem, hd, h0]) ⟨rfl, GrR.refl _⟩)
        · refine ⟨fun _ => ?_, fun hg => absurd (by simp [hd]) hg⟩; exact opOk_move (.inl rfl) ⟨by simp only [Is]; (first | exact hρ.2 4 rfl | exact hd | exact hd.1 | exact hd.2 | simp [hd]), GrR.refl _⟩
        · refine ⟨fun _ => ?_, fun hg => absurd (by simp [hd]) hg⟩; exact opOk_call hρ.1 rfl rfl Try.func39 (by kernel_rfl) rfl (by simp [hd, hρ.1.const, hρ.1.func]) ((rputTime_any kc at_ wv).mono fun e w' ⟨s, h1, h2, h3⟩ => ⟨_, h1, ⟨s, rfl, h2.rd⟩, h3⟩)
        · refine ⟨fun _ => ?_, fun hg => absurd (by simp [hd]) hg⟩; exact opOk_loadRow rfl (w.heap.size) (by first | exact hρ.2 _ rfl | simp [hd]) _ ([.int .u8 (kc.toNat : Int), .int .u8 (fc.toNat : Int), .slice p bc.length c]) _ (HC1.out.mono hR) Try.underlying28 rfl (by kernel_rfl) ⟨rfl, GrR.refl _⟩
        · refine ⟨fun _ => ?_, fun hg => absurd (by simp [hd]) hg⟩; exact opOk_call hρ.1 rfl rfl Try.func18 (by kernel_rfl) rfl (by simp [hd, hρ.1.const, hρ.1.func]) ((chkSame_any _ _ (timeChk kc at_) ⟨kc, fc, bc⟩ _ hd.1 ⟨_, rfl, (HV.out.mono G1.out).mono hR⟩).mono fun e w' ⟨h1, h2⟩ => ⟨_, h1, (by rw [HQ.out]; rfl), h2⟩)
        · refine ⟨fun _ => ?_, fun hg => absurd (by simp [hd]) hg⟩; exact opOk_val (v := .bool (!q)) (w' := wv) (by simp [execOp, go_sem, hρ.1.const, hρ.1.func, hd]) ⟨rfl, GrR.refl _⟩
        · exact opOk_val (v := .bool (!q)) (w' := wv) (by simp [execOp, go_sem, hρ.1.const, hρ.1.func, hd]) ⟨rfl, GrR.refl _⟩
      · intro vals wv hR hall
        have hend := hall 16 (by simp)
        simp only [factAt, Is, List.getD_eq_getElem?_getD, List.getElem?_cons_succ, List.getElem?_cons_zero, Option.getD_some] at hend
        clear hall
        simp only [fillFrom, Act.put, hend, List.setIfInBounds_toArray, List.set_cons_zero, List.set_cons_succ]
        have GF := hid (gr_trans G1.out hR)
        clear hR hend HQ
        cases q
        · simp only [Bool.not_false]
          go_wp2_with fail
          go_ret2
          exact ⟨by rw [HRES.out]; rfl, GF.out⟩
        · simp only [Bool.not_true]
          go_wp2_with fail
          go_ret2
          exact ⟨by rw [HRES.out]; rfl, GF.out⟩
  · skip
    refine wp_region_gr [Is (.pointer (some ⟨w.heap.size, 0, none⟩)), Is (.int .u8 (kc.toNat : Int)), Is (.bool false), Is (.bool false), AnyF, AnyF, AnyF, Is (.bool false), Is (.bool false), Is (.pointer (some ⟨w.heap.size, 0, none⟩)), Is (.int .u8 (kc.toNat : Int)), Is (.int .i64 at_), ChkF (timeChk kc at_), Is (.agg ([.int .u8 (kc.toNat : Int), .int .u8 (fc.toNat : Int), .slice p bc.length c]).toArray), Is (.bool q), Is (.bool (!q)), Is (.bool (!q))] (by kernel_rfl) (by kernel_rfl) (by kernel_rfl) ?_ ?_ ?_
    · simp only [StabAll, Is.gr, RdF.gr, OwnF.gr, AnyF.gr, ChkF.gr, and_self]
    · rename_i Kk hKk; clear hKk Kk
      simp only [AllOps, List.map_cons, List.map_nil, depsOf, List.filterMap_cons, List.filterMap_nil, Region.binds, depFacts, guardF, reduceIte, List.getD_eq_getElem?_getD, List.getElem?_cons_succ, List.getElem?_cons_zero, Option.getD_some, factAt, and_true]
      refine ⟨?_, ?_, ?_, ?_, ?_, ?_, ?_, ?_, ?_, ?_, ?_, ?_, ?_, ?_, ?_, ?_, ?_⟩
      all_goals intro ρ wv hρ hR hd
      all_goals try simp only [Is] at hd
      · exact opOk_val (v := .pointer (some ⟨w.heap.size, 0, none⟩)) (w' := wv) (by simp [execOp, go_sem, hρ.1.const, hρ.1.func, hd, (hρ.2 1 rfl)]) ⟨rfl, GrR.refl _⟩
      · (have h0 := cell?_of_below hR K0.out; exact opOk_val (v := .int .u8 (kc.toNat : Int)) (w' := wv) (by simp [execOp, go_sem, hd, h0]) ⟨rfl, GrR.refl _⟩)
      · exact opOk_val (v := .bool false) (w' := wv) (by simp [execOp, go_sem, hρ.1.const, hρ.1.func, hd, HK4.out]) ⟨rfl, GrR.refl _⟩
      · exact opOk_move (.inl rfl) ⟨by simp only [Is]; (first | exact hρ.2 11 rfl | exact hd | exact hd.1 | exact hd.2 | simp [hd]), GrR.refl _⟩
      · exact ⟨fun hg => absurd hg (by simp [hd]), fun _ => trivial⟩
      · exact ⟨fun hg => absurd hg (by simp [hd]), fun _ => trivial⟩
      · exact ⟨fun hg => absurd hg (by simp [hd]), fun _ => trivial⟩
      · exact opOk_val (v := .bool false) (w' := wv) (by simp [execOp, go_sem, hρ.1.const, hρ.1.func, hd]) ⟨rfl, GrR.refl _⟩
      · exact opOk_move (.inl rfl) ⟨by simp only [Is]; (first | exact hρ.2 16 rfl | exact hd | exact hd.1 | exact hd.2 | simp [hd]), GrR.refl _⟩
      · refine ⟨fun _ => ?_, fun hg => absurd (by simp [hd]) hg⟩; exact opOk_val (v := .pointer (some ⟨w.heap.size, 0, none⟩)) (w' := wv) (by simp [execOp, go_sem, hρ.1.const, hρ.1.func, hd, (hρ.2 1 rfl)]) ⟨rfl, GrR.refl _⟩
      · refine ⟨fun _ => ?_, fun hg => absurd (by simp [hd]) hg⟩; (have h0 := cell?_of_below hR K0.out; exact opOk_val (v := .int .u8 (kc.toNat : Int)) (w' := wv) (by simp [execOp, go_sem, hd, h0]) ⟨rfl, GrR.refl _⟩)
      · refine ⟨fun _ => ?_, fun hg => absurd (by simp [hd]) hg⟩; exact opOk_move (.inl rfl) ⟨by simp only [Is]; (first | exact hρ.2 4 rfl | exact hd | exact hd.1 | exact hd.2 | simp [hd]), GrR.refl _⟩
      · refine ⟨fun _ => ?_, fun hg => absurd (by simp [hd]) hg⟩; exact opOk_call hρ.1 rfl rfl Try.func39 (by kernel_rfl) rfl (by simp [hd, hρ.1.const, hρ.1.func]) ((rputTime_any kc at_ wv).mono fun e w' ⟨s, h1, h2, h3⟩ => ⟨_, h1, ⟨s, rfl, h2.rd⟩, h3⟩)
      · refine ⟨fun _ => ?_, fun hg => absurd (by simp [hd]) hg⟩; exact opOk_loadRow rfl (w.heap.size) (by first | exact hρ.2 _ rfl | simp [hd]) _ ([.int .u8 (kc.toNat : Int), .int .u8 (fc.toNat : Int), .slice p bc.length c]) _ (HC1.out.mono hR) Try.underlying28 rfl (by kernel_rfl) ⟨rfl, GrR.refl _⟩
      · refine ⟨fun _ => ?_, fun hg => absurd (by simp [hd]) hg⟩; exact opOk_call hρ.1 rfl rfl Try.func18 (by kernel_rfl) rfl (by simp [hd, hρ.1.const, hρ.1.func]) ((chkSame_any _ _ (timeChk kc at_) ⟨kc, fc, bc⟩ _ hd.1 ⟨_, rfl, (HV.out.mono G1.out).mono hR⟩).mono fun e w' ⟨h1, h2⟩ => ⟨_, h1, (by rw [HQ.out]; rfl), h2⟩)
      · refine ⟨fun _ => ?_, fun hg => absurd (by simp [hd]) hg⟩; exact opOk_val (v := .bool (!q)) (w' := wv) (by simp [execOp, go_sem, hρ.1.const, hρ.1.func, hd]) ⟨rfl, GrR.refl _⟩
      · exact opOk_val (v := .bool (!q)) (w' := wv) (by simp [execOp, go_sem, hρ.1.const, hρ.1.func, hd]) ⟨rfl, GrR.refl _⟩
    · intro vals wv hR hall
      have hend := hall 16 (by simp)
      simp only [factAt, Is, List.getD_eq_getElem?_getD, List.getElem?_cons_succ, List.getElem?_cons_zero, Option.getD_some] at hend
      clear hall
      simp only [fillFrom, Act.put, hend, List.setIfInBounds_toArray, List.set_cons_zero, List.set_cons_succ]
      have GF := hid (gr_trans G1.out hR)
      clear hR hend HQ
      cases q
      · simp only [Bool.not_false]
        go_wp2_with fail
        go_ret2
        exact ⟨by rw [HRES.out]; rfl, GF.out⟩
      · simp only [Bool.not_true]
        go_wp2_with fail
        go_ret2
        exact ⟨by rw [HRES.out]; rfl, GF.out⟩
end Go.Proofs.Ytfiblhdejglpaaa

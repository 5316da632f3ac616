/- bodies.GetCum and bodies.GetTime. Conditions: what comes in reads as it should. -/
import Derived.Test.YtfiblhdejglpaaaBodPuts
import Derived.Test.YtfiblhdejglpaaaGetsA
import Derived.Test.YtfiblhdejglpaaaBaseC
namespace Go.FL
open Go.RowKit
/-- A chunk by value. -/
def ChkV (w : World) (v : Value) (c : Chk) : Prop := ∃ s, v = .agg #[.int .u8 (c.k.toNat : Int), .int .u8 (c.f.toNat : Int), s] ∧ Rd w s c.b
theorem ChkV.mono {w w' : World} {v : Value} {c : Chk} (h : ChkV w v c) (hb : Below w.heap.size w w') : ChkV w' v c := by
  obtain ⟨s, h1, h2⟩ := h
  exact ⟨s, h1, h2.mono hb⟩
def cumGet (c : Chk) : Nat × Int := if cumChk (numAt c.b 0 4) = c then (numAt c.b 0 4, 0) else (0, 7)
def timeGet (c : Chk) : Int × Int := if (decide (c.k = 4) || decide (c.k = 5)) = true ∧ timeChk c.k (timeI (numAt c.b 4 8)) = c then (timeI (numAt c.b 4 8), 0) else (0, 7)
end Go.FL
namespace Go.Proofs.Ytfiblhdejglpaaa
open Go.RowKit Go.FL Go.ChangeShapes

set_option maxRecDepth 100000 in
set_option maxHeartbeats 2000000 in
theorem getCum_any (v : Value) (ch : Chk) (w : World) (h : ChkV w v ch) (hl : ch.b.length ≤ 1000000) :
    Calls Try.prog 36 #[v] w fun e w' => e = .returned (.tuple #[.int .u32 ((cumGet ch).1 : Int), .int .i64 (cumGet ch).2]) ∧ Below w.heap.size w w' := by
  obtain ⟨s, rfl, hrd⟩ := h
  have HV := hid hrd
  obtain ⟨p, c, rfl, hlc, hcm, hpn, hcell⟩ := hrd
  unfold maxLen at hcm
  clear hcell
  obtain ⟨kc, fc, bc⟩ := ch
  simp only at *
  have hxl := numAt_lt bc 0 4
  have HRES := hid (show Value.tuple #[.int .u32 ((cumGet ⟨kc, fc, bc⟩).1 : Int), .int .i64 (cumGet ⟨kc, fc, bc⟩).2] = (if true = true ∧ cumChk (numAt bc 0 4) = ⟨kc, fc, bc⟩ then Value.tuple #[.int .u32 (numAt bc 0 4 : Int), .int .i64 0] else .tuple #[.int .u32 0, .int .i64 7]) by
    unfold cumGet
    by_cases hq : cumChk (numAt bc 0 4) = ⟨kc, fc, bc⟩
    · simp [hq]
    · simp [hq])
  rw [HRES.out]
  obtain ⟨x, hx⟩ : ∃ x, x = numAt bc 0 4 := ⟨_, rfl⟩
  have HX := hid hx
  rw [← hx] at hxl ⊢
  have HPUT := hid (fun (wx : World) => putCum_any x (by omega) wx)
  obtain ⟨res, er, hres⟩ : ∃ res er, (if true = true ∧ cumChk x = ⟨kc, fc, bc⟩ then Value.tuple #[.int .u32 (x : Int), .int .i64 0] else .tuple #[.int .u32 0, .int .i64 7]) = .tuple #[res, .int .i64 er] := by
    split
    · exact ⟨_, _, rfl⟩
    · exact ⟨_, _, rfl⟩
  have HRS := hid hres
  rw [hres]
  have HWU := hid (show IntKind.u32.wrap (x : Int) = (x : Int) by rw [wrap_u32_lt]; omega)
  clear hx hres HRES
  obtain ⟨W0, hW0⟩ : ∃ W0, W0 = w.alloc (.cells #[.int .u8 (kc.toNat : Int), .int .u8 (fc.toNat : Int), .slice p bc.length c] 28 (0, 0)) := ⟨_, rfl⟩
  have hs0 : W0.heap.size = w.heap.size + 1 := by rw [hW0]; simp
  obtain ⟨W, hW⟩ : ∃ W, W = W0.alloc (.cells #[.slice p bc.length c, .int .i64 0] 90 (0, 0)) := ⟨_, rfl⟩
  have HC := hid (show RowV W w.heap.size 28 [.int .u8 (kc.toNat : Int), .int .u8 (fc.toNat : Int), .slice p bc.length c] by rw [hW, hW0]; exact (RowV.new w 28 _).alloc _)
  have HR := hid (show RdrAt (w.heap.size + 1) (.slice p bc.length c) 0 W by rw [hW, ← hs0]; exact RowV.new W0 90 _)
  have G0 := hid (show Below w.heap.size w W by rw [hW, hW0]; exact ((Below.refl _ _).alloc (Nat.le_refl _) _).alloc (by simp) _)
  have hs1 : W.heap.size = w.heap.size + 2 := by rw [hW]; simp [hs0]
  rw [hW0] at hW
  have HE := hid hW
  have HG := hid (fun (wx : World) (h : GbR (w.heap.size + 1) W wx) => (show Below w.heap.size w wx from G0.out.trans (gb_below h (by omega) (by omega))))
  clear hW hW0 hs0
  have hkb := byte_lt kc
  have hfb := byte_lt fc
  go_enter Try.func36, Try.ntmps36
  go_wp2_with fail
  rw [← HE.out]
  refine wp_region_take 8 (w.heap.size + 1) [2] (fun k wx => RdrAt (w.heap.size + 1) (.slice p bc.length c) (4 * k) wx) [Is (.agg ([.int .u8 (kc.toNat : Int), .int .u8 (fc.toNat : Int), .slice p bc.length c]).toArray), Is (.pointer (some ⟨w.heap.size + 1, 0, none⟩)), Is (.int .u64 (x : Int)), Is (.int .u32 (x : Int)), Is (.tuple #[res, .int .i64 er]), Is (res), Is (.int .i64 er), Is (res)] (by kernel_rfl) (by kernel_rfl) (by kernel_rfl) (by kernel_rfl) (by kernel_rfl) (by kernel_rfl) (by kernel_rfl) (HR.out) (fun _ _ _ h k => RowV.mono h k) ?_ ?_ ?_
  · exact ⟨Is.stab _ _, Is.stab _ _, Is.stab _ _, Is.stab _ _, Is.stab _ _, Is.stab _ _, Is.stab _ _, Is.stab _ _, trivial⟩
  · rename_i Kk hKk; clear hKk Kk
    simp only [List.take_succ_cons, List.take_zero, AllOpsC, wrAt, Nat.reduceAdd, Nat.reduceEqDiff, Option.map_some, Option.map_none, List.map_cons, List.map_nil, depsOf, List.filterMap_cons, List.filterMap_nil, Region.binds, depFacts, guardF, reduceIte, List.getD_eq_getElem?_getD, List.getElem?_cons_succ, List.getElem?_cons_zero, Option.getD_some, factAt, and_true]
    refine ⟨?_, ?_, ?_, ?_, ?_, ?_, ?_, ?_⟩
    all_goals intro ρ wv hρ hR hd
    all_goals try simp only [Is] at hd
    · exact opOk_loadRow rfl (w.heap.size) (by first | exact hρ.2 _ rfl | simp [hd]) _ ([.int .u8 (kc.toNat : Int), .int .u8 (fc.toNat : Int), .slice p bc.length c]) _ (HC.out.grown hR (fun e => by simp at e)) Try.underlying28 rfl (by kernel_rfl) ⟨rfl, GrR.refl _⟩
    · exact opOk_move (.inl rfl) ⟨by simp only [Is]; (first | exact hρ.2 4 rfl | exact hd | exact hd.1 | exact hd.2 | simp [hd]), GrR.refl _⟩
    · (first | refine ⟨rfl, fun hJ => ?_⟩ | refine ⟨trivial, fun hJ => ?_⟩ | intro hJ); exact opOk_call hρ.1 rfl rfl Try.func50 (by kernel_rfl) rfl (by simp [hd, hρ.1.const, hρ.1.func]) ((btake_any _ _ bc 0 4 _ rfl (by omega) _ hJ (HV.out.mono (HG.out _ hR)) (by omega)).mono fun e w' ⟨h1, h2, h3⟩ => ⟨_, h1, by rw [HX.out]; rfl, h3, h2⟩)
    · exact opOk_val (v := .int .u32 (x : Int)) (w' := wv) (by simp [execOp, go_sem, hρ.1.const, hρ.1.func, hd, HWU.out]) ⟨rfl, GrR.refl _⟩
    · exact opOk_call hρ.1 rfl rfl Try.func64 (by kernel_rfl) rfl (by simp [hd, hρ.1.const, hρ.1.func]) ((bgetCum_any x kc fc _ bc true _ (HV.out.mono (HG.out _ hR)) (cumChk x) (fun wx _ => HPUT.out wx)).mono fun e w' ⟨h1, h2⟩ => ⟨_, h1, (by simpa [Is] using HRS.out), h2⟩)
    · exact opOk_val (v := res) (w' := wv) (by simp [execOp, go_sem, hρ.1.const, hρ.1.func, hd]) ⟨rfl, GrR.refl _⟩
    · exact opOk_val (v := .int .i64 er) (w' := wv) (by simp [execOp, go_sem, hρ.1.const, hρ.1.func, hd]) ⟨rfl, GrR.refl _⟩
    · exact opOk_move (.inr rfl) ⟨by simp only [Is]; (first | exact hρ.2 14 rfl | exact hd | exact hd.1 | exact hd.2 | simp [hd]), GrR.refl _⟩
  · intro vals wv hR hJ hall
    have i6 := hall 6 (by omega)
    have i7 := hall 7 (by omega)
    simp only [factAt, Is, List.getD_eq_getElem?_getD, List.getElem?_cons_succ, List.getElem?_cons_zero, Option.getD_some] at i6 i7
    clear hall
    simp only [List.take_succ_cons, List.take_zero, List.drop_succ_cons, List.drop_zero, fillFrom, Act.put, i6, i7, List.setIfInBounds_toArray, List.set_cons_zero, List.set_cons_succ, Nat.zero_add, Nat.reduceAdd]
    have GF := hid (HG.out _ hR)
    clear hR hJ i6 i7
    go_wp2_with fail
    go_ret2
    exact ⟨rfl, GF.out⟩

theorem kind_eq (k c : UInt8) (C : Int) (hC : C = (c.toNat : Int)) : ((k.toNat : Int) == C) = decide (k = c) := by
  subst hC
  rw [Bool.eq_iff_iff]
  simp only [beq_iff_eq, decide_eq_true_eq]
  exact byte_eq k c

set_option maxRecDepth 100000 in
set_option maxHeartbeats 4000000 in
theorem getTime_any (v : Value) (ch : Chk) (w : World) (h : ChkV w v ch) (hl : ch.b.length ≤ 1000000) :
    Calls Try.prog 34 #[v] w fun e w' => e = .returned (.tuple #[.int .i64 (timeGet ch).1, .int .i64 (timeGet ch).2]) ∧ Below w.heap.size w w' := by
  obtain ⟨s, rfl, hrd⟩ := h
  have HV := hid hrd
  obtain ⟨p, c, rfl, hlc, hcm, hpn, hcell⟩ := hrd
  unfold maxLen at hcm
  clear hcell
  obtain ⟨kc, fc, bc⟩ := ch
  simp only at *
  have hxl := numAt_lt bc 4 8
  obtain ⟨my, hmy⟩ : ∃ b, b = (decide (kc = 4) || decide (kc = 5)) := ⟨_, rfl⟩
  have HMY := hid hmy
  have HRES := hid (show Value.tuple #[.int .i64 (timeGet ⟨kc, fc, bc⟩).1, .int .i64 (timeGet ⟨kc, fc, bc⟩).2] = (if my = true ∧ timeChk kc (timeI (numAt bc 4 8)) = ⟨kc, fc, bc⟩ then Value.tuple #[.int .i64 (timeI (numAt bc 4 8)), .int .i64 0] else .tuple #[.int .i64 0, .int .i64 7]) by
    unfold timeGet
    simp only [← HMY.out]
    by_cases hq : my = true ∧ timeChk kc (timeI (numAt bc 4 8)) = ⟨kc, fc, bc⟩
    · simp only [if_pos hq]
    · simp only [if_neg hq])
  rw [HRES.out]
  obtain ⟨x, hx⟩ : ∃ x, x = numAt bc 4 8 := ⟨_, rfl⟩
  have HX := hid hx
  rw [← hx] at hxl ⊢
  have HWU := hid (wrap_timeI x hxl)
  generalize timeI x = at_ at *
  obtain ⟨res, er, hres⟩ : ∃ res er, (if my = true ∧ timeChk kc at_ = ⟨kc, fc, bc⟩ then Value.tuple #[.int .i64 at_, .int .i64 0] else .tuple #[.int .i64 0, .int .i64 7]) = .tuple #[res, .int .i64 er] := by
    split
    · exact ⟨_, _, rfl⟩
    · exact ⟨_, _, rfl⟩
  have HRS := hid hres
  rw [hres]
  have hk4 := kind_eq kc 4 4 rfl
  have hk5 := kind_eq kc 5 5 rfl
  clear hx hres HRES hmy
  obtain ⟨W0, hW0⟩ : ∃ W0, W0 = w.alloc (.cells #[.int .u8 (kc.toNat : Int), .int .u8 (fc.toNat : Int), .slice p bc.length c] 28 (0, 0)) := ⟨_, rfl⟩
  have hs0 : W0.heap.size = w.heap.size + 1 := by rw [hW0]; simp
  obtain ⟨W, hW⟩ : ∃ W, W = W0.alloc (.cells #[.slice p bc.length c, .int .i64 4] 90 (0, 0)) := ⟨_, rfl⟩
  have HC := hid (show RowV W w.heap.size 28 [.int .u8 (kc.toNat : Int), .int .u8 (fc.toNat : Int), .slice p bc.length c] by rw [hW, hW0]; exact (RowV.new w 28 _).alloc _)
  have HR := hid (show RdrAt (w.heap.size + 1) (.slice p bc.length c) 4 W by rw [hW, ← hs0]; exact RowV.new W0 90 _)
  have G0 := hid (show Below w.heap.size w W by rw [hW, hW0]; exact ((Below.refl _ _).alloc (Nat.le_refl _) _).alloc (by simp) _)
  have hs1 : W.heap.size = w.heap.size + 2 := by rw [hW]; simp [hs0]
  have c0 := HC.out.at 0 (by simp)
  simp only [List.getElem_cons_succ, List.getElem_cons_zero] at c0
  rw [hW0] at hW
  have HE := hid hW
  have HG := hid (fun (wx : World) (h : GbR (w.heap.size + 1) W wx) => (show Below w.heap.size w wx from G0.out.trans (gb_below h (by omega) (by omega))))
  rw [hW] at c0
  clear hW hW0 hs0
  have hkb := byte_lt kc
  have hfb := byte_lt fc
  by_cases e4 : kc = 4
  · have hm : my = true := by rw [HMY.out, e4]; rfl
    subst hm
    rw [decide_eq_true e4] at hk4
    clear hk5 e4
    go_enter Try.func34, Try.ntmps34
    go_wp2_with fail
    rw [← HE.out]
    refine wp_region_take 10 (w.heap.size + 1) [2] (fun k wx => RdrAt (w.heap.size + 1) (.slice p bc.length c) (4 + 8 * k) wx) [Is (.agg ([.int .u8 (kc.toNat : Int), .int .u8 (fc.toNat : Int), .slice p bc.length c]).toArray), Is (.pointer (some ⟨w.heap.size + 1, 0, none⟩)), Is (.int .u64 (x : Int)), Is (.int .i64 at_), Is (.bool true), Is (.func (.func 63) #[] #[.pointer (some ⟨w.heap.size, 0, none⟩)]), Is (.tuple #[res, .int .i64 er]), Is (res), Is (.int .i64 er), Is (res)] (by kernel_rfl) (by kernel_rfl) (by kernel_rfl) (by kernel_rfl) (by kernel_rfl) (by kernel_rfl) (by kernel_rfl) (HR.out) (fun _ _ _ h k => RowV.mono h k) ?_ ?_ ?_
    · exact ⟨Is.stab _ _, Is.stab _ _, Is.stab _ _, Is.stab _ _, Is.stab _ _, Is.stab _ _, Is.stab _ _, Is.stab _ _, Is.stab _ _, Is.stab _ _, trivial⟩
    · rename_i Kk hKk; clear hKk Kk
      simp only [List.take_succ_cons, List.take_zero, AllOpsC, wrAt, Nat.reduceAdd, Nat.reduceEqDiff, Option.map_some, Option.map_none, List.map_cons, List.map_nil, depsOf, List.filterMap_cons, List.filterMap_nil, Region.binds, depFacts, guardF, reduceIte, List.getD_eq_getElem?_getD, List.getElem?_cons_succ, List.getElem?_cons_zero, Option.getD_some, factAt, and_true]
      refine ⟨?_, ?_, ?_, ?_, ?_, ?_, ?_, ?_, ?_, ?_⟩
      all_goals intro ρ wv hρ hR hd
      all_goals try simp only [Is] at hd
      · exact opOk_loadRow rfl (w.heap.size) (by first | exact hρ.2 _ rfl | simp [hd]) _ ([.int .u8 (kc.toNat : Int), .int .u8 (fc.toNat : Int), .slice p bc.length c]) _ (HC.out.grown hR (fun e => by simp at e)) Try.underlying28 rfl (by kernel_rfl) ⟨rfl, GrR.refl _⟩
      · exact opOk_move (.inl rfl) ⟨by simp only [Is]; (first | exact hρ.2 4 rfl | exact hd | exact hd.1 | exact hd.2 | simp [hd]), GrR.refl _⟩
      · (first | refine ⟨rfl, fun hJ => ?_⟩ | refine ⟨trivial, fun hJ => ?_⟩ | intro hJ); exact opOk_call hρ.1 rfl rfl Try.func50 (by kernel_rfl) rfl (by simp [hd, hρ.1.const, hρ.1.func]) ((btake_any _ _ bc 4 8 _ rfl (by omega) _ hJ (HV.out.mono (HG.out _ hR)) (by omega)).mono fun e w' ⟨h1, h2, h3⟩ => ⟨_, h1, by rw [HX.out]; rfl, h3, h2⟩)
      · exact opOk_val (v := .int .i64 at_) (w' := wv) (by simp [execOp, go_sem, hρ.1.const, hρ.1.func, hd, HWU.out]) ⟨rfl, GrR.refl _⟩
      · exact opOk_move (.inl rfl) ⟨by simp only [Is]; (first | exact hρ.2 5 rfl | exact hd | exact hd.1 | exact hd.2 | simp [hd]), GrR.refl _⟩
      · exact opOk_val (v := .func (.func 63) #[] #[.pointer (some ⟨w.heap.size, 0, none⟩)]) (w' := wv) (by simp [execOp, go_sem, hρ.1.const, hρ.1.func, hd, (hρ.2 1 rfl)]) ⟨rfl, GrR.refl _⟩
      · exact opOk_call hρ.1 rfl rfl Try.func62 (by kernel_rfl) rfl (by simp [hd, hρ.1.const, hρ.1.func]) ((bgetTime_any at_ w.heap.size kc fc _ bc true _ (HV.out.mono (HG.out _ hR)) (timeChk kc at_) (fun wx hbx => getTime1_any kc fc _ at_ _ wx ((HC.out.grown hR (fun e => by simp at e)).mono hbx))).mono fun e w' ⟨h1, h2⟩ => ⟨_, h1, (by simpa [Is] using HRS.out), h2⟩)
      · exact opOk_val (v := res) (w' := wv) (by simp [execOp, go_sem, hρ.1.const, hρ.1.func, hd]) ⟨rfl, GrR.refl _⟩
      · exact opOk_val (v := .int .i64 er) (w' := wv) (by simp [execOp, go_sem, hρ.1.const, hρ.1.func, hd]) ⟨rfl, GrR.refl _⟩
      · exact opOk_move (.inr rfl) ⟨by simp only [Is]; (first | exact hρ.2 25 rfl | exact hd | exact hd.1 | exact hd.2 | simp [hd]), GrR.refl _⟩
    · intro vals wv hR hJ hall
      have i8 := hall 8 (by omega)
      have i9 := hall 9 (by omega)
      simp only [factAt, Is, List.getD_eq_getElem?_getD, List.getElem?_cons_succ, List.getElem?_cons_zero, Option.getD_some] at i8 i9
      clear hall
      simp only [List.take_succ_cons, List.take_zero, List.drop_succ_cons, List.drop_zero, fillFrom, Act.put, i8, i9, List.setIfInBounds_toArray, List.set_cons_zero, List.set_cons_succ, Nat.zero_add, Nat.reduceAdd]
      have GF := hid (HG.out _ hR)
      clear hR hJ i8 i9
      go_wp2_with fail
      go_ret2
      exact ⟨rfl, GF.out⟩
  · rw [decide_eq_false e4] at hk4
    by_cases e5 : kc = 5
    · have hm : my = true := by rw [HMY.out, e5]; rfl
      subst hm
      rw [decide_eq_true e5] at hk5
      clear e4 e5
      go_enter Try.func34, Try.ntmps34
      go_wp2_with fail
      rw [← HE.out]
      refine wp_region_take 10 (w.heap.size + 1) [2] (fun k wx => RdrAt (w.heap.size + 1) (.slice p bc.length c) (4 + 8 * k) wx) [Is (.agg ([.int .u8 (kc.toNat : Int), .int .u8 (fc.toNat : Int), .slice p bc.length c]).toArray), Is (.pointer (some ⟨w.heap.size + 1, 0, none⟩)), Is (.int .u64 (x : Int)), Is (.int .i64 at_), Is (.bool true), Is (.func (.func 63) #[] #[.pointer (some ⟨w.heap.size, 0, none⟩)]), Is (.tuple #[res, .int .i64 er]), Is (res), Is (.int .i64 er), Is (res)] (by kernel_rfl) (by kernel_rfl) (by kernel_rfl) (by kernel_rfl) (by kernel_rfl) (by kernel_rfl) (by kernel_rfl) (HR.out) (fun _ _ _ h k => RowV.mono h k) ?_ ?_ ?_
      · exact ⟨Is.stab _ _, Is.stab _ _, Is.stab _ _, Is.stab _ _, Is.stab _ _, Is.stab _ _, Is.stab _ _, Is.stab _ _, Is.stab _ _, Is.stab _ _, trivial⟩
      · rename_i Kk hKk; clear hKk Kk
        simp only [List.take_succ_cons, List.take_zero, AllOpsC, wrAt, Nat.reduceAdd, Nat.reduceEqDiff, Option.map_some, Option.map_none, List.map_cons, List.map_nil, depsOf, List.filterMap_cons, List.filterMap_nil, Region.binds, depFacts, guardF, reduceIte, List.getD_eq_getElem?_getD, List.getElem?_cons_succ, List.getElem?_cons_zero, Option.getD_some, factAt, and_true]
        refine ⟨?_, ?_, ?_, ?_, ?_, ?_, ?_, ?_, ?_, ?_⟩
        all_goals intro ρ wv hρ hR hd
        all_goals try simp only [Is] at hd
        · exact opOk_loadRow rfl (w.heap.size) (by first | exact hρ.2 _ rfl | simp [hd]) _ ([.int .u8 (kc.toNat : Int), .int .u8 (fc.toNat : Int), .slice p bc.length c]) _ (HC.out.grown hR (fun e => by simp at e)) Try.underlying28 rfl (by kernel_rfl) ⟨rfl, GrR.refl _⟩
        · exact opOk_move (.inl rfl) ⟨by simp only [Is]; (first | exact hρ.2 4 rfl | exact hd | exact hd.1 | exact hd.2 | simp [hd]), GrR.refl _⟩
        · (first | refine ⟨rfl, fun hJ => ?_⟩ | refine ⟨trivial, fun hJ => ?_⟩ | intro hJ); exact opOk_call hρ.1 rfl rfl Try.func50 (by kernel_rfl) rfl (by simp [hd, hρ.1.const, hρ.1.func]) ((btake_any _ _ bc 4 8 _ rfl (by omega) _ hJ (HV.out.mono (HG.out _ hR)) (by omega)).mono fun e w' ⟨h1, h2, h3⟩ => ⟨_, h1, by rw [HX.out]; rfl, h3, h2⟩)
        · exact opOk_val (v := .int .i64 at_) (w' := wv) (by simp [execOp, go_sem, hρ.1.const, hρ.1.func, hd, HWU.out]) ⟨rfl, GrR.refl _⟩
        · exact opOk_move (.inl rfl) ⟨by simp only [Is]; (first | exact hρ.2 5 rfl | exact hd | exact hd.1 | exact hd.2 | simp [hd]), GrR.refl _⟩
        · exact opOk_val (v := .func (.func 63) #[] #[.pointer (some ⟨w.heap.size, 0, none⟩)]) (w' := wv) (by simp [execOp, go_sem, hρ.1.const, hρ.1.func, hd, (hρ.2 1 rfl)]) ⟨rfl, GrR.refl _⟩
        · exact opOk_call hρ.1 rfl rfl Try.func62 (by kernel_rfl) rfl (by simp [hd, hρ.1.const, hρ.1.func]) ((bgetTime_any at_ w.heap.size kc fc _ bc true _ (HV.out.mono (HG.out _ hR)) (timeChk kc at_) (fun wx hbx => getTime1_any kc fc _ at_ _ wx ((HC.out.grown hR (fun e => by simp at e)).mono hbx))).mono fun e w' ⟨h1, h2⟩ => ⟨_, h1, (by simpa [Is] using HRS.out), h2⟩)
        · exact opOk_val (v := res) (w' := wv) (by simp [execOp, go_sem, hρ.1.const, hρ.1.func, hd]) ⟨rfl, GrR.refl _⟩
        · exact opOk_val (v := .int .i64 er) (w' := wv) (by simp [execOp, go_sem, hρ.1.const, hρ.1.func, hd]) ⟨rfl, GrR.refl _⟩
        · exact opOk_move (.inr rfl) ⟨by simp only [Is]; (first | exact hρ.2 25 rfl | exact hd | exact hd.1 | exact hd.2 | simp [hd]), GrR.refl _⟩
      · intro vals wv hR hJ hall
        have i8 := hall 8 (by omega)
        have i9 := hall 9 (by omega)
        simp only [factAt, Is, List.getD_eq_getElem?_getD, List.getElem?_cons_succ, List.getElem?_cons_zero, Option.getD_some] at i8 i9
        clear hall
        simp only [List.take_succ_cons, List.take_zero, List.drop_succ_cons, List.drop_zero, fillFrom, Act.put, i8, i9, List.setIfInBounds_toArray, List.set_cons_zero, List.set_cons_succ, Nat.zero_add, Nat.reduceAdd]
        have GF := hid (HG.out _ hR)
        clear hR hJ i8 i9
        go_wp2_with fail
        go_ret2
        exact ⟨rfl, GF.out⟩
    · have hm : my = false := by rw [HMY.out, decide_eq_false e4, decide_eq_false e5]; rfl
      subst hm
      rw [decide_eq_false e5] at hk5
      clear e4 e5
      go_enter Try.func34, Try.ntmps34
      go_wp2_with fail
      rw [← HE.out]
      refine wp_region_take 10 (w.heap.size + 1) [2] (fun k wx => RdrAt (w.heap.size + 1) (.slice p bc.length c) (4 + 8 * k) wx) [Is (.agg ([.int .u8 (kc.toNat : Int), .int .u8 (fc.toNat : Int), .slice p bc.length c]).toArray), Is (.pointer (some ⟨w.heap.size + 1, 0, none⟩)), Is (.int .u64 (x : Int)), Is (.int .i64 at_), Is (.bool false), Is (.func (.func 63) #[] #[.pointer (some ⟨w.heap.size, 0, none⟩)]), Is (.tuple #[res, .int .i64 er]), Is (res), Is (.int .i64 er), Is (res)] (by kernel_rfl) (by kernel_rfl) (by kernel_rfl) (by kernel_rfl) (by kernel_rfl) (by kernel_rfl) (by kernel_rfl) (HR.out) (fun _ _ _ h k => RowV.mono h k) ?_ ?_ ?_
      · exact ⟨Is.stab _ _, Is.stab _ _, Is.stab _ _, Is.stab _ _, Is.stab _ _, Is.stab _ _, Is.stab _ _, Is.stab _ _, Is.stab _ _, Is.stab _ _, trivial⟩
      · rename_i Kk hKk; clear hKk Kk
        simp only [List.take_succ_cons, List.take_zero, AllOpsC, wrAt, Nat.reduceAdd, Nat.reduceEqDiff, Option.map_some, Option.map_none, List.map_cons, List.map_nil, depsOf, List.filterMap_cons, List.filterMap_nil, Region.binds, depFacts, guardF, reduceIte, List.getD_eq_getElem?_getD, List.getElem?_cons_succ, List.getElem?_cons_zero, Option.getD_some, factAt, and_true]
        refine ⟨?_, ?_, ?_, ?_, ?_, ?_, ?_, ?_, ?_, ?_⟩
        all_goals intro ρ wv hρ hR hd
        all_goals try simp only [Is] at hd
        · exact opOk_loadRow rfl (w.heap.size) (by first | exact hρ.2 _ rfl | simp [hd]) _ ([.int .u8 (kc.toNat : Int), .int .u8 (fc.toNat : Int), .slice p bc.length c]) _ (HC.out.grown hR (fun e => by simp at e)) Try.underlying28 rfl (by kernel_rfl) ⟨rfl, GrR.refl _⟩
        · exact opOk_move (.inl rfl) ⟨by simp only [Is]; (first | exact hρ.2 4 rfl | exact hd | exact hd.1 | exact hd.2 | simp [hd]), GrR.refl _⟩
        · (first | refine ⟨rfl, fun hJ => ?_⟩ | refine ⟨trivial, fun hJ => ?_⟩ | intro hJ); exact opOk_call hρ.1 rfl rfl Try.func50 (by kernel_rfl) rfl (by simp [hd, hρ.1.const, hρ.1.func]) ((btake_any _ _ bc 4 8 _ rfl (by omega) _ hJ (HV.out.mono (HG.out _ hR)) (by omega)).mono fun e w' ⟨h1, h2, h3⟩ => ⟨_, h1, by rw [HX.out]; rfl, h3, h2⟩)
        · exact opOk_val (v := .int .i64 at_) (w' := wv) (by simp [execOp, go_sem, hρ.1.const, hρ.1.func, hd, HWU.out]) ⟨rfl, GrR.refl _⟩
        · exact opOk_move (.inl rfl) ⟨by simp only [Is]; (first | exact hρ.2 5 rfl | exact hd | exact hd.1 | exact hd.2 | simp [hd]), GrR.refl _⟩
        · exact opOk_val (v := .func (.func 63) #[] #[.pointer (some ⟨w.heap.size, 0, none⟩)]) (w' := wv) (by simp [execOp, go_sem, hρ.1.const, hρ.1.func, hd, (hρ.2 1 rfl)]) ⟨rfl, GrR.refl _⟩
        · exact opOk_call hρ.1 rfl rfl Try.func62 (by kernel_rfl) rfl (by simp [hd, hρ.1.const, hρ.1.func]) ((bgetTime_any at_ w.heap.size kc fc _ bc false _ (HV.out.mono (HG.out _ hR)) (timeChk kc at_) (fun wx hbx => getTime1_any kc fc _ at_ _ wx ((HC.out.grown hR (fun e => by simp at e)).mono hbx))).mono fun e w' ⟨h1, h2⟩ => ⟨_, h1, (by simpa [Is] using HRS.out), h2⟩)
        · exact opOk_val (v := res) (w' := wv) (by simp [execOp, go_sem, hρ.1.const, hρ.1.func, hd]) ⟨rfl, GrR.refl _⟩
        · exact opOk_val (v := .int .i64 er) (w' := wv) (by simp [execOp, go_sem, hρ.1.const, hρ.1.func, hd]) ⟨rfl, GrR.refl _⟩
        · exact opOk_move (.inr rfl) ⟨by simp only [Is]; (first | exact hρ.2 25 rfl | exact hd | exact hd.1 | exact hd.2 | simp [hd]), GrR.refl _⟩
      · intro vals wv hR hJ hall
        have i8 := hall 8 (by omega)
        have i9 := hall 9 (by omega)
        simp only [factAt, Is, List.getD_eq_getElem?_getD, List.getElem?_cons_succ, List.getElem?_cons_zero, Option.getD_some] at i8 i9
        clear hall
        simp only [List.take_succ_cons, List.take_zero, List.drop_succ_cons, List.drop_zero, fillFrom, Act.put, i8, i9, List.setIfInBounds_toArray, List.set_cons_zero, List.set_cons_succ, Nat.zero_add, Nat.reduceAdd]
        have GF := hid (HG.out _ hR)
        clear hR hJ i8 i9
        go_wp2_with fail
        go_ret2
        exact ⟨rfl, GF.out⟩
end Go.Proofs.Ytfiblhdejglpaaa

/- turn: what is on its way comes, then both ask their timers. Conditions: the ends lie as they should; what the plain turn tells. -/
import Derived.Test.YtiimlanbbfhkjaaDoorAsTurnM
set_option linter.unusedSimpArgs false
set_option linter.unusedVariables false


namespace Go.Proofs.YtiimlanbbfhkjaaDoor

open Go.RowKit Go.FL Go.ChangeShapes

set_option maxRecDepth 100000 in
set_option maxHeartbeats 16000000 in
theorem turn_any (w0 : World) (hlaid : ShaLaid w0) (w : World) (G : Below w0.heap.size w0 w) (t ga gb : Nat) (vra vrb : Value) (T T' : TwoD) (h : Two w0.heap.size w t ga gb vra vrb T) (lost : Nat) (hlost : lost < 18446744073709551616) (hT : turnD lost T = some T') :
    Calls Tryd.prog 12 #[.pointer (some ⟨t, 0, none⟩), .int .u64 (lost : Int)] w fun e w' => e = .returned (.tuple #[]) ∧ ∃ vra' vrb', Two w0.heap.size w' t ga gb vra' vrb' T' ∧ Below w0.heap.size w0 w' := by
  have HLD := hid hlaid
  have HLO := hid hlost
  have HM0 := hid h
  have HG0 := hid G
  have HT0 := hid hT
  have HBN := hid (show T.now < 1000000 ∧ T.pk < 1000000 ∧ T.a.row.length ≤ 1000000 ∧ T.b.row.length ≤ 1000000 from by
    unfold turnD at hT
    split at hT
    · assumption
    · cases hT)
  obtain ⟨N, hN⟩ : ∃ N, N = T.now + 1 := ⟨_, rfl⟩
  have HN := hid hN
  have hwn : IntKind.i64.wrap ((T.now : Int) + 1) = (N : Int) := by have := HBN.out; rw [IntKind.wrap_i64]; omega
  have HNOW := hid (show 0 ≤ (N : Int) ∧ (N : Int) ≤ 2305843009213693952 by have := HBN.out; omega)
  have HTW0 := hid h.two
  clear hlaid hlost h G hT hN
  have c24 := HTW0.out.at 24 (by simp [TwoD.cells])
  simp only [TwoD.cells, List.getElem_cons_succ, List.getElem_cons_zero] at c24
  have f24 := HTW0.out.frozen 24
  obtain ⟨w1, hw1⟩ : ∃ y, y = w.setCell ⟨t, 24, none⟩ (.int .i64 (N : Int)) := ⟨_, rfl⟩
  have HC1 := hid (show Chg (fun k => k = t) w w1 by rw [hw1]; exact (Chg.refl (fun k => k = t) w).set ⟨t, 24, none⟩ _ (.inl rfl))
  obtain ⟨T1, hT1⟩ : ∃ y, y = ({ T with now := N } : TwoD) := ⟨_, rfl⟩
  have HM1 := hid (show Two w0.heap.size w1 t ga gb vra vrb T1 from HM0.out.set (by decide) (by decide) (by decide) HC1.out (by rw [hw1, hT1]; exact HTW0.out.store 24 (.int .i64 (N : Int))) (by rw [hT1]) (by rw [hT1]))
  have HG1 := hid (HG0.out.trans (HC1.out.below HG0.out.size (fun k e => e ▸ HM0.out.tB)))
  have HT1 := hid hT1
  have HLT1 := hid (show T1.a.row.length ≤ 1000000 ∧ T1.b.row.length ≤ 1000000 by rw [hT1]; exact HBN.out.2.2)
  have HE1 := hid hw1
  go_enter Tryd.func12, Tryd.ntmps12
  go_upto_region 1 with fail
  rw [← HE1.out]
  clear c24 f24 hw1 hT1
  have HAS := hid HM1.out.pa
  have HTW := hid HM1.out.two
  have HC2 := hid (HTW.out.at 2 (by simp [TwoD.cells]))
  simp only [TwoD.cells, List.getElem_cons_succ, List.getElem_cons_zero] at HC2
  have HC0 := hid (HTW.out.at 0 (by simp [TwoD.cells]))
  simp only [TwoD.cells, List.getElem_cons_succ, List.getElem_cons_zero] at HC0
  have HNG := hid (show ¬ t = ga from by
    obtain ⟨m, hm⟩ := AsAt.row HAS.out
    exact fun e => rowV_ne HTW.out hm (by decide) e)
  have HJ0 := hid (show JJ (fun wx => As w0.heap.size wx ga vra T1.a) (fun wx => As w0.heap.size wx ga (.slice none 0 0) { (T1.a) with row := [] } ∧ OutsAt 59 5 w0.heap.size wx vra (T1.a).row) 0 w1 from HAS.out)
  refine wp_region_chg 9 (fun k => k = ga) [8] (JJ (fun wx => As w0.heap.size wx ga vra T1.a) (fun wx => As w0.heap.size wx ga (.slice none 0 0) { (T1.a) with row := [] } ∧ OutsAt 59 5 w0.heap.size wx vra (T1.a).row)) [Is (.pointer (some ⟨t, 0, none⟩)), Is (.pointer (some ⟨t, 0, none⟩)), Is (.pointer (some ⟨t, 2, none⟩)), Is (.slice none 0 0), Is (.pointer (some ⟨t, 0, none⟩)), Is (.pointer (some ⟨t, 0, none⟩)), Is (.pointer (some ⟨t, 0, none⟩)), Is (.pointer (some ⟨ga, 0, none⟩)), Is (vra)] (by kernel_rfl) (by kernel_rfl) (by kernel_rfl) (by kernel_rfl) (by kernel_rfl) (by kernel_rfl) (by kernel_rfl) (HJ0.out) (JJ.st (fun _ _ h k => AsAt.mono h k) (fun _ _ h k => ⟨AsAt.mono h.1 k, OutsAt.mono h.2 k⟩)) ?_ ?_ ?_
  · simp only [StabAll, Is.ch, AnyF.ch, and_self]
  · try (rename_i Kk hKk; clear hKk Kk)
    simp only [List.take_succ_cons, List.take_zero, AllOpsC, wrAt, Nat.reduceAdd, Nat.reduceEqDiff, Option.map_some, Option.map_none, List.map_cons, List.map_nil, depsOf, List.filterMap_cons, List.filterMap_nil, Region.binds, depFacts, guardF, reduceIte, List.getD_eq_getElem?_getD, List.getElem?_cons_succ, List.getElem?_cons_zero, Option.getD_some, factAt, and_true]
    refine ⟨?_, ?_, ?_, ?_, ?_, ?_, ?_, ?_, ?_⟩
    all_goals intro ρ wv hρ hR hd
    all_goals try simp only [Is] at hd
    · exact opOk_move (.inl rfl) ⟨by simp only [Is]; (first | exact hρ.2 0 rfl | exact hd | exact hd.1 | exact hd.2 | simp [hd]), GrR.refl _⟩
    · exact opOk_val (v := .pointer (some ⟨t, 0, none⟩)) (w' := wv) (by simp [execOp, go_sem, hρ.1.const, hρ.1.func, hd]) ⟨rfl, GrR.refl _⟩
    · exact opOk_val (v := .pointer (some ⟨t, 2, none⟩)) (w' := wv) (by simp [execOp, go_sem, hρ.1.const, hρ.1.func, hd]) ⟨rfl, GrR.refl _⟩
    · (have h0 := cell_chg hR HC2.out HNG.out; exact opOk_val (v := .slice none 0 0) (w' := wv) (by simp [execOp, go_sem, hd, h0]) ⟨rfl, GrR.refl _⟩)
    · exact opOk_move (.inl rfl) ⟨by simp only [Is]; (first | exact hρ.2 0 rfl | exact hd | exact hd.1 | exact hd.2 | simp [hd]), GrR.refl _⟩
    · exact opOk_val (v := .pointer (some ⟨t, 0, none⟩)) (w' := wv) (by simp [execOp, go_sem, hρ.1.const, hρ.1.func, hd]) ⟨rfl, GrR.refl _⟩
    · exact opOk_val (v := .pointer (some ⟨t, 0, none⟩)) (w' := wv) (by simp [execOp, go_sem, hρ.1.const, hρ.1.func, hd]) ⟨rfl, GrR.refl _⟩
    · (have h0 := cell_chg hR HC0.out HNG.out; exact opOk_val (v := .pointer (some ⟨ga, 0, none⟩)) (w' := wv) (by simp [execOp, go_sem, hd, h0]) ⟨rfl, GrR.refl _⟩)
    · (first | refine ⟨rfl, fun hJ => ?_⟩ | refine ⟨trivial, fun hJ => ?_⟩ | intro hJ); exact opOk_call hρ.1 rfl rfl Tryd.func19 (by kernel_rfl) rfl (by simp [hd, hρ.1.const, hρ.1.func]) ((out_any w0.heap.size wv ga vra (T1.a) hJ).mono fun e w' ⟨h1, h2, h3, h4⟩ => ⟨_, h1, rfl, h4, h2, h3⟩)
  · intro vals wv hR hJ hall
    have i3 := hall 3 (by omega)
    have i8 := hall 8 (by omega)
    simp only [factAt, Is, List.getD_eq_getElem?_getD, List.getElem?_cons_succ, List.getElem?_cons_zero, Option.getD_some] at i3 i8
    clear hall
    obtain ⟨hj1, hj2⟩ := hJ
    simp only [List.take_succ_cons, List.take_zero, List.drop_succ_cons, List.drop_zero, fillFrom, Act.put, i3, i8, List.setIfInBounds_toArray, List.set_cons_zero, List.set_cons_succ, Nat.zero_add, Nat.reduceAdd]
    obtain ⟨w2, hw2⟩ : ∃ x, x = wv := ⟨_, rfl⟩
    subst hw2
    obtain ⟨T2, hT2⟩ : ∃ y, y = ({ T1 with a := { T1.a with row := [] } } : TwoD) := ⟨_, rfl⟩
    have HM := hid (show Mid w0.heap.size w2 t ga gb (.slice none 0 0) vrb (.slice none 0 0) (.slice none 0 0) T2 [] [] from by rw [hT2]; exact HM1.out.outA (by decide) (by decide) (by decide) (by decide) hj1 hR)
    have HG := hid (HG1.out.trans (hR.below HG1.out.size (fun k e => by have := HAS.out.ge k (.inl e); exact this)))
    have HOUT := hid hj2
    have HTT2 := hid hT2
    have HLT2 := hid (show T2.b.row.length ≤ 1000000 by rw [hT2]; first | exact HLT1.out.2 | exact Nat.zero_le _)
    clear hR hj1 hj2 i3 i8 HC2 HC0 HJ0 HNG HAS HTW hT2
    obtain ⟨so, hso1, hso2, hso3⟩ := id HOUT.out
    have HOL := hid (show (outCells T1.a.row so).length = T1.a.row.length * 5 from outCells_length _ _ hso1)
    have HXO := hid hso2.rd.lax
    have HOB := hid hso3
    have HON := hid hso1
    have HONE := hid (outCells_one _ _ hso1 hso3)
    clear hso1 hso2 hso3
    go_wp2_with (at_builtin; refine wpList_append_OwnL rfl (.tmp 18) (.tmp 23) 28 rfl w2.heap.size 59 (.agg #[.int .i64 0, .int .u32 0, .int .u8 0, .int .u8 0, .slice none 0 0]) 5 48 rfl (by decide) Tryd.underlying28 infoOut _ _ 0 T1.a.row.length [] (outCells T1.a.row so) HONE.out rfl (OwnK.nil _ _ _ _) rfl HXO.out ?hlen ?hlen2 (Nat.le_refl _) ?_)
    case hlen => have := HLT1.out; omega
    case hlen2 => have := HLT1.out; omega
    intro xa w3 hx1 hx2 hx3
    have gx := gr_of_grown hx2 rfl
    have HX := hid (OutsAt.copied HON.out HG.out.size hx1 gx HOB.out)
    have HMX := hid (HM.out.newA gx HX.out hx1.ge)
    have HGX := hid (HG.out.trans (gx.mono HG.out.size))
    clear hx1 hx2 hx3 gx HXO HOB HON HONE HOL HM HG HX HOUT
    go_wp2_with fail
    have HAS := hid HMX.out.pb
    have HTW := hid HMX.out.two
    have HC2 := hid (HTW.out.at 3 (by simp [TwoD.cells]))
    simp only [TwoD.cells, List.getElem_cons_succ, List.getElem_cons_zero] at HC2
    have HC0 := hid (HTW.out.at 1 (by simp [TwoD.cells]))
    simp only [TwoD.cells, List.getElem_cons_succ, List.getElem_cons_zero] at HC0
    have HNG := hid (show ¬ t = gb from by
      obtain ⟨m, hm⟩ := AsAt.row HAS.out
      exact fun e => rowV_ne HTW.out hm (by decide) e)
    have HJ0 := hid (show JJ (fun wx => As w0.heap.size wx gb vrb T2.b) (fun wx => As w0.heap.size wx gb (.slice none 0 0) { (T2.b) with row := [] } ∧ OutsAt 59 5 w0.heap.size wx vrb (T2.b).row) 0 w3 from HAS.out)
    refine wp_region_chg 9 (fun k => k = gb) [8] (JJ (fun wx => As w0.heap.size wx gb vrb T2.b) (fun wx => As w0.heap.size wx gb (.slice none 0 0) { (T2.b) with row := [] } ∧ OutsAt 59 5 w0.heap.size wx vrb (T2.b).row)) [Is (.pointer (some ⟨t, 0, none⟩)), Is (.pointer (some ⟨t, 0, none⟩)), Is (.pointer (some ⟨t, 3, none⟩)), Is (.slice none 0 0), Is (.pointer (some ⟨t, 0, none⟩)), Is (.pointer (some ⟨t, 0, none⟩)), Is (.pointer (some ⟨t, 1, none⟩)), Is (.pointer (some ⟨gb, 0, none⟩)), Is (vrb)] (by kernel_rfl) (by kernel_rfl) (by kernel_rfl) (by kernel_rfl) (by kernel_rfl) (by kernel_rfl) (by kernel_rfl) (HJ0.out) (JJ.st (fun _ _ h k => AsAt.mono h k) (fun _ _ h k => ⟨AsAt.mono h.1 k, OutsAt.mono h.2 k⟩)) ?_ ?_ ?_
    · simp only [StabAll, Is.ch, AnyF.ch, and_self]
    · try (rename_i Kk hKk; clear hKk Kk)
      simp only [List.take_succ_cons, List.take_zero, AllOpsC, wrAt, Nat.reduceAdd, Nat.reduceEqDiff, Option.map_some, Option.map_none, List.map_cons, List.map_nil, depsOf, List.filterMap_cons, List.filterMap_nil, Region.binds, depFacts, guardF, reduceIte, List.getD_eq_getElem?_getD, List.getElem?_cons_succ, List.getElem?_cons_zero, Option.getD_some, factAt, and_true]
      refine ⟨?_, ?_, ?_, ?_, ?_, ?_, ?_, ?_, ?_⟩
      all_goals intro ρ wv hρ hR hd
      all_goals try simp only [Is] at hd
      · exact opOk_move (.inl rfl) ⟨by simp only [Is]; (first | exact hρ.2 0 rfl | exact hd | exact hd.1 | exact hd.2 | simp [hd]), GrR.refl _⟩
      · exact opOk_val (v := .pointer (some ⟨t, 0, none⟩)) (w' := wv) (by simp [execOp, go_sem, hρ.1.const, hρ.1.func, hd]) ⟨rfl, GrR.refl _⟩
      · exact opOk_val (v := .pointer (some ⟨t, 3, none⟩)) (w' := wv) (by simp [execOp, go_sem, hρ.1.const, hρ.1.func, hd]) ⟨rfl, GrR.refl _⟩
      · (have h0 := cell_chg hR HC2.out HNG.out; exact opOk_val (v := .slice none 0 0) (w' := wv) (by simp [execOp, go_sem, hd, h0]) ⟨rfl, GrR.refl _⟩)
      · exact opOk_move (.inl rfl) ⟨by simp only [Is]; (first | exact hρ.2 0 rfl | exact hd | exact hd.1 | exact hd.2 | simp [hd]), GrR.refl _⟩
      · exact opOk_val (v := .pointer (some ⟨t, 0, none⟩)) (w' := wv) (by simp [execOp, go_sem, hρ.1.const, hρ.1.func, hd]) ⟨rfl, GrR.refl _⟩
      · exact opOk_val (v := .pointer (some ⟨t, 1, none⟩)) (w' := wv) (by simp [execOp, go_sem, hρ.1.const, hρ.1.func, hd]) ⟨rfl, GrR.refl _⟩
      · (have h0 := cell_chg hR HC0.out HNG.out; exact opOk_val (v := .pointer (some ⟨gb, 0, none⟩)) (w' := wv) (by simp [execOp, go_sem, hd, h0]) ⟨rfl, GrR.refl _⟩)
      · (first | refine ⟨rfl, fun hJ => ?_⟩ | refine ⟨trivial, fun hJ => ?_⟩ | intro hJ); exact opOk_call hρ.1 rfl rfl Tryd.func19 (by kernel_rfl) rfl (by simp [hd, hρ.1.const, hρ.1.func]) ((out_any w0.heap.size wv gb vrb (T2.b) hJ).mono fun e w' ⟨h1, h2, h3, h4⟩ => ⟨_, h1, rfl, h4, h2, h3⟩)
    · intro vals wv hR hJ hall
      have i3 := hall 3 (by omega)
      have i8 := hall 8 (by omega)
      simp only [factAt, Is, List.getD_eq_getElem?_getD, List.getElem?_cons_succ, List.getElem?_cons_zero, Option.getD_some] at i3 i8
      clear hall
      obtain ⟨hj1, hj2⟩ := hJ
      simp only [List.take_succ_cons, List.take_zero, List.drop_succ_cons, List.drop_zero, fillFrom, Act.put, i3, i8, List.setIfInBounds_toArray, List.set_cons_zero, List.set_cons_succ, Nat.zero_add, Nat.reduceAdd]
      obtain ⟨w4, hw2⟩ : ∃ x, x = wv := ⟨_, rfl⟩
      subst hw2
      obtain ⟨T3, hT2⟩ : ∃ y, y = ({ T2 with b := { T2.b with row := [] } } : TwoD) := ⟨_, rfl⟩
      have HM := hid (show Mid w0.heap.size w4 t ga gb (.slice none 0 0) (.slice none 0 0) xa (.slice none 0 0) T3 T1.a.row [] from by rw [hT2]; exact HMX.out.outB (by decide) (by decide) (by decide) (by decide) hj1 hR)
      have HG := hid (HGX.out.trans (hR.below HGX.out.size (fun k e => by have := HAS.out.ge k (.inl e); exact this)))
      have HOUT := hid hj2
      have HTT3 := hid hT2
      have HLT3 := hid (show T3.b.row.length ≤ 1000000 by rw [hT2]; first | exact HLT2.out.2 | exact Nat.zero_le _)
      clear hR hj1 hj2 i3 i8 HC2 HC0 HJ0 HNG HAS HTW hT2
      obtain ⟨so, hso1, hso2, hso3⟩ := id HOUT.out
      have HOL := hid (show (outCells T2.b.row so).length = T2.b.row.length * 5 from outCells_length _ _ hso1)
      have HXO := hid hso2.rd.lax
      have HOB := hid hso3
      have HON := hid hso1
      have HONE := hid (outCells_one _ _ hso1 hso3)
      clear hso1 hso2 hso3
      go_wp2_with (at_builtin; refine wpList_append_OwnL rfl (.tmp 28) (.tmp 33) 28 rfl w4.heap.size 59 (.agg #[.int .i64 0, .int .u32 0, .int .u8 0, .int .u8 0, .slice none 0 0]) 5 48 rfl (by decide) Tryd.underlying28 infoOut _ _ 0 T2.b.row.length [] (outCells T2.b.row so) HONE.out rfl (OwnK.nil _ _ _ _) rfl HXO.out ?hlen ?hlen2 (Nat.le_refl _) ?_)
      case hlen => have := HLT2.out; omega
      case hlen2 => have := HLT2.out; omega
      intro xb w5 hx1 hx2 hx3
      have gx := gr_of_grown hx2 rfl
      have HX := hid (OutsAt.copied HON.out HG.out.size hx1 gx HOB.out)
      have HMX := hid (HM.out.newB gx HX.out hx1.ge)
      have HGX := hid (HG.out.trans (gx.mono HG.out.size))
      clear hx1 hx2 hx3 gx HXO HOB HON HONE HOL HM HG HX HOUT
      obtain ⟨b1, eb1, pk1, a1, ea1, pk2, a2, va, b2, vb, hs1, hs2, hs3, hs4, hs5, hs6, hs7⟩ := turnD_some HT0.out
      rw [← HN.out] at hs1 hs2 hs3 hs4 hs7
      obtain ⟨A, hA⟩ : ∃ y, y = T1.a.row := ⟨_, rfl⟩
      obtain ⟨L, hL⟩ : ∃ y, y = T2.b.row := ⟨_, rfl⟩
      obtain ⟨na, hna⟩ : ∃ y, y = A.length := ⟨_, rfl⟩
      obtain ⟨nb, hnb⟩ : ∃ y, y = L.length := ⟨_, rfl⟩
      have HNA := hid hna
      have HNB := hid hnb
      have HLA := hid (show na ≤ 1000000 by rw [hna, hA]; exact HLT1.out.1)
      have HLB := hid (show nb ≤ 1000000 by rw [hnb, hL]; exact HLT2.out)
      have HS1 := hid (show stepsD lost N (T3.b, T3.eb, T3.pk) (A.drop 0) = some (b1, eb1, pk1) by rw [HTT3.out, HTT2.out, hA, HT1.out]; exact hs1)
      have HS2 := hid (show stepsD lost N (T3.a, T3.ea, pk1) (L.drop 0) = some (a1, ea1, pk2) by rw [hL, HTT3.out, HTT2.out, HT1.out]; exact hs2)
      have HS3 := hid hs3
      have HS4 := hid hs4
      have HS56 := hid (And.intro hs5 hs6)
      have HS7 := hid hs7
      have HPK3 := hid (show T3.pk ≤ 1000000 by rw [HTT3.out, HTT2.out, HT1.out]; exact Nat.le_of_lt HBN.out.2.1)
      have HNW3 := hid (show T3.now = N by rw [HTT3.out, HTT2.out, HT1.out])
      clear hs1 hs2 hs3 hs4 hs5 hs6 hs7 HT0
      rw [← hA, ← hL] at HMX
      obtain ⟨pa, ca, hxa⟩ := HMX.out.la.form
      obtain ⟨pb, cb, hxb⟩ := HMX.out.lb.form
      rw [← hna] at hxa
      rw [← hnb] at hxb
      subst hxa hxb
      clear hA hL hna hnb
      have HTW5 := hid HMX.out.two
      have c2 := HTW5.out.at 2 (by simp [TwoD.cells])
      have c3 := HTW5.out.at 3 (by simp [TwoD.cells])
      simp only [TwoD.cells, List.getElem_cons_succ, List.getElem_cons_zero] at c2 c3
      have f2 := HTW5.out.frozen 2
      have f3 := HTW5.out.frozen 3
      obtain ⟨w6, hw6⟩ : ∃ y, y = ((w5.setCell ⟨t, 2, none⟩ (.slice none 0 0)).setCell ⟨t, 3, none⟩ (.slice none 0 0)) := ⟨_, rfl⟩
      have HC6 := hid (show Chg (fun k => k = t) w5 w6 by rw [hw6]; exact (((Chg.refl (fun k => k = t) w5).set ⟨t, 2, none⟩ (.slice none 0 0) (.inl rfl)).set ⟨t, 3, none⟩ (.slice none 0 0) (.inl rfl)))
      have HM6 := hid (show Mid w0.heap.size w6 t ga gb (.slice none 0 0) (.slice none 0 0) (.slice pa na ca) (.slice pb nb cb) T3 A L from HMX.out.set (by decide) (by decide) (by decide) HC6.out (by rw [hw6]; exact ((HTW5.out.store 2 (.slice none 0 0)).store 3 (.slice none 0 0))) rfl rfl)
      have HG6 := hid (HGX.out.trans (HC6.out.below HGX.out.size (fun k e => e ▸ HMX.out.tB)))
      have HE6 := hid hw6
      clear HTT3 HTT2 HT1
      go_upto_region 5 with fail
      rw [← HE6.out]
      clear hw6 c2 c3 f2 f3 HMX HGX HTW5 HC6 HE6
      go_wp2_with fail
      go_loopw [6] (fun y wr => ∃ i : Nat, i ≤ na ∧ y = .int .i64 (i : Int) ∧ Hid (∃ (vx : Value) (x : AsD) (ex : EvD) (pk : Nat), Mid w0.heap.size wr t ga gb (.slice none 0 0) vx (.slice pa na ca) (.slice pb nb cb) ({ T3 with b := x, eb := ex, pk := pk }) A L ∧ Below w0.heap.size w0 wr ∧ pk ≤ 1000000 + i ∧ stepsD lost N (x, ex, pk) (A.drop i) = some (b1, eb1, pk1))) (fun y _ => na - (intOf y).toNat)
      case atStart => exact ⟨0, Nat.zero_le _, rfl, hid ⟨_, _, _, _, HM6.out, HG6.out, by have := HPK3.out; omega, HS1.out⟩⟩
      case round =>
        obtain ⟨i, hi, rfl, HL⟩ := hrel
        by_cases hlt : i < na
        · obtain ⟨vx, x, ex, pk, hm, hg, hpk, hst⟩ := HL.out
          have hlt2 : i < A.length := by rw [← HNA.out]; exact hlt
          obtain ⟨rb, c9, s9, hxs, hrb, e0, e1, e2, e3, e4, hob⟩ := hm.la.elem i hlt2
          simp only [Value.slice.injEq] at hxs
          obtain ⟨rfl, -, -⟩ := hxs
          obtain ⟨y, hy, hst2⟩ := stepsD_cons hlt2 hst
          have HM := hid hm
          have HG := hid hg
          have HPK := hid hpk
          have HST := hid hst2
          have HRB := hid hrb
          obtain ⟨ps, nq, cps, rfl⟩ : ∃ p n c, s9 = Value.slice p n c := by
            obtain ⟨p9, c9, hsf, -⟩ := hob.rd
            exact ⟨_, _, _, hsf⟩
          obtain ⟨o, ho⟩ : ∃ o, o = A[i] := ⟨_, rfl⟩
          have HY := hid (show stepD lost N (x, ex, pk) o = some y by rw [ho]; exact hy)
          rw [← ho] at e0 e1 e2 e3 hob
          clear ho hy hst hst2 hm hg hpk hrb
          obtain ⟨opath, otag, ⟨ok, of, ob⟩⟩ := o
          simp only at e0 e1 e2 e3 hob
          have HOB := hid hob
          have E0 := hid e0
          have E1 := hid e1
          have E2 := hid e2
          have E3 := hid e3
          have E4 := hid e4
          have i0 : (0 : Int) ≤ (i : Int) := by omega
          have i1 : (i : Int) < (na : Int) := by omega
          have i2 : ((i : Int)).toNat = i := by omega
          have I012 := hid (And.intro i0 (And.intro i1 i2))
          obtain ⟨k, hk⟩ : ∃ k, k = pk + 1 := ⟨_, rfl⟩
          have HK := hid hk
          have hwk : IntKind.i64.wrap ((pk : Int) + 1) = (k : Int) := by have := HPK.out; have := HLA.out; have := HLB.out; rw [IntKind.wrap_i64]; omega
          have hwi : IntKind.i64.wrap ((i : Int) + 1) = ((i + 1 : Nat) : Int) := by have := HLA.out; have := HLB.out; rw [IntKind.wrap_i64]; omega
          have HKB := hid (show 1 ≤ k ∧ k ≤ 3000001 by have := HPK.out; have := HLA.out; have := HLB.out; omega)
          clear hk e0 e1 e2 e3 e4 i0 i2 hlt2 hob
          have HTW := hid HM.out.two
          have c25 := HTW.out.at 25 (by simp [TwoD.cells])
          simp only [TwoD.cells, List.getElem_cons_succ, List.getElem_cons_zero] at c25
          have f25 := HTW.out.frozen 25
          obtain ⟨w7, hw7⟩ : ∃ y, y = wr.setCell ⟨t, 25, none⟩ (.int .i64 (k : Int)) := ⟨_, rfl⟩
          have HC7 := hid (show Chg (fun k => k = t) wr w7 by rw [hw7]; exact (Chg.refl (fun k => k = t) wr).set ⟨t, 25, none⟩ _ (.inl rfl))
          have HM7 := hid (show Mid w0.heap.size w7 t ga gb (.slice none 0 0) vx (.slice (some ⟨rb, 0, none⟩) na ca) (.slice pb nb cb) ({ T3 with b := x, eb := ex, pk := k }) A L from HM.out.set (by decide) (by decide) (by decide) HC7.out (by rw [hw7]; exact HTW.out.store 25 (.int .i64 (k : Int))) rfl rfl)
          have HG7 := hid (HG.out.trans (HC7.out.below HG.out.size (fun k e => e ▸ HM.out.tB)))
          have HNO := hid (show ¬ rb = t from fun e => HM.out.la.ne HTW.out (by decide) rb rfl e)
          have E0 := hid (cell_chg HC7.out E0.out HNO.out)
          have E1 := hid (cell_chg HC7.out E1.out HNO.out)
          have E2 := hid (cell_chg HC7.out E2.out HNO.out)
          have E3 := hid (cell_chg HC7.out E3.out HNO.out)
          have E4 := hid (cell_chg HC7.out E4.out HNO.out)
          have HOB := hid (HOB.out.chg HC7.out (own_ne_row HOB.out HTW.out (by decide)))
          have HE7 := hid hw7
          go_upto_region 9 with fail
          rw [← HE7.out]
          clear hw7 c25 f25 HTW HC7 i1 HE7 HL HM HG HNO
          have HTW := hid HM7.out.two
          have c25 := HTW.out.at 25 (by simp [TwoD.cells])
          simp only [TwoD.cells, List.getElem_cons_succ, List.getElem_cons_zero] at c25
          have hks : IntKind.i64.wrap ((k : Int) - 1) = ((k - 1 : Nat) : Int) := by have := HKB.out; rw [IntKind.wrap_i64]; omega
          have hq := stepD_cases HY.out
          simp only at hq
          rw [← HK.out] at hq
          by_cases q64 : k ≤ 64
          · have z64 : (k : Int) ≤ 64 := by omega
            obtain ⟨lb, hlb⟩ : ∃ lb, lb = lostB lost k := ⟨_, rfl⟩
            have zl : (bits .and .u64 ((lost : Int) / 2 ^ (k - 1)) 1 == 1) = lb := by rw [lost_bit lost k HLO.out, hlb]; unfold lostB; rw [decide_eq_true q64, Bool.true_and]
            rw [← hlb] at hq
            clear hlb
            cases lb
            case true =>
              have HST2 := hid (show stepsD lost N (x, ex, pk + 1) (A.drop (i + 1)) = some (b1, eb1, pk1) from by
                rcases hq with ⟨-, hy⟩ | ⟨hf, -⟩
                · rw [← HK.out, ← hy]; exact HST.out
                · cases hf)
              clear hq q64
              go_wp2_with fail
              have hna := HLA.out
              have hnb := HLB.out
              go_roundw
              case rel => exact ⟨i + 1, by omega, by go_num, hid ⟨_, _, _, _, HM7.out, HG7.out, by have := HK.out; have := HPK.out; omega, by rw [HK.out]; exact HST2.out⟩⟩
              case measure => simp [intOf]; omega
            case false =>
              have hq2 := Or.resolve_left hq (fun h => by cases h.1) |>.2
              rw [HK.out] at hq2
              clear hq q64
              go_wp2_with fail
              clear z64 zl
              obtain ⟨hsx, hcase⟩ := hq2
              have HSTX := hid hsx
              have HPX := hid HM7.out.pb
              have HCP := hid (HTW.out.at 1 (by simp [TwoD.cells]))
              simp only [TwoD.cells, List.getElem_cons_succ, List.getElem_cons_zero] at HCP
              obtain ⟨tb, htb⟩ : ∃ tb, tb = takesB x otag [(⟨ok, of, ob⟩ : Chk)] := ⟨_, rfl⟩
              have HTB := hid htb
              rw [← htb] at hcase
              have HCASE := hid hcase
              clear hcase hsx htb c25
              refine wp_region_gr [Is (.pointer (some ⟨t, 0, none⟩)), Is (.pointer (some ⟨t, 0, none⟩)), Is (.pointer (some ⟨t, 1, none⟩)), Is (.pointer (some ⟨gb, 0, none⟩)), Is (.slice (some ⟨rb, 0, none⟩) na ca), Is (.int .i64 (i : Int)), Is (.pointer (some ⟨rb, i * 5, none⟩)), Is (.pointer (some ⟨rb, i * 5 + 1, none⟩)), Is (.int .u32 (otag : Int)), Is (.slice (some ⟨rb, 0, none⟩) na ca), Is (.int .i64 (i : Int)), Is (.pointer (some ⟨rb, i * 5, none⟩)), Is (.pointer (some ⟨rb, i * 5 + 2, none⟩)), Is (.agg #[.int .u8 (ok.toNat : Int), .int .u8 (of.toNat : Int), .slice ps nq cps]), ChsF [(⟨ok, of, ob⟩ : Chk)], PkF otag [(⟨ok, of, ob⟩ : Chk)], Is (.bool tb)] (by kernel_rfl) (by kernel_rfl) (by kernel_rfl) ?_ ?_ ?_
              · simp only [StabAll, Is.gr, RdF.gr, OwnF.gr, AnyF.gr, ChsF.gr, PkF.gr, and_self]
              · try (rename_i Kk hKk; clear hKk Kk)
                simp only [AllOps, List.map_cons, List.map_nil, depsOf, List.filterMap_cons, List.filterMap_nil, Region.binds, depFacts, guardF, reduceIte, List.getD_eq_getElem?_getD, List.getElem?_cons_succ, List.getElem?_cons_zero, Option.getD_some, factAt, and_true]
                refine ⟨?_, ?_, ?_, ?_, ?_, ?_, ?_, ?_, ?_, ?_, ?_, ?_, ?_, ?_, ?_, ?_, ?_⟩
                all_goals intro ρ wv hρ hR hd
                all_goals try simp only [Is] at hd
                · exact opOk_move (.inl rfl) ⟨by simp only [Is]; (first | exact hρ.2 0 rfl | exact hd | exact hd.1 | exact hd.2 | simp [hd]), GrR.refl _⟩
                · exact opOk_val (v := .pointer (some ⟨t, 0, none⟩)) (w' := wv) (by simp [execOp, go_sem, hρ.1.const, hρ.1.func, hd]) ⟨rfl, GrR.refl _⟩
                · exact opOk_val (v := .pointer (some ⟨t, 1, none⟩)) (w' := wv) (by simp [execOp, go_sem, hρ.1.const, hρ.1.func, hd]) ⟨rfl, GrR.refl _⟩
                · (have h0 := cell?_of_below hR HCP.out; exact opOk_val (v := .pointer (some ⟨gb, 0, none⟩)) (w' := wv) (by simp [execOp, go_sem, hd, h0]) ⟨rfl, GrR.refl _⟩)
                · exact opOk_move (.inl rfl) ⟨by simp only [Is]; (first | exact hρ.2 4 rfl | exact hd | exact hd.1 | exact hd.2 | simp [hd]), GrR.refl _⟩
                · exact opOk_move (.inl rfl) ⟨by simp only [Is]; (first | exact hρ.2 6 rfl | exact hd | exact hd.1 | exact hd.2 | simp [hd]), GrR.refl _⟩
                · exact opOk_val (v := .pointer (some ⟨rb, i * 5, none⟩)) (w' := wv) (by simp [execOp, go_sem, hρ.1.const, hρ.1.func, hd, I012.out.1, I012.out.2.1, I012.out.2.2]) ⟨rfl, GrR.refl _⟩
                · exact opOk_val (v := .pointer (some ⟨rb, i * 5 + 1, none⟩)) (w' := wv) (by simp [execOp, go_sem, hρ.1.const, hρ.1.func, hd]) ⟨rfl, GrR.refl _⟩
                · (have h0 := cell?_of_below hR E1.out; exact opOk_val (v := .int .u32 (otag : Int)) (w' := wv) (by simp [execOp, go_sem, hd, h0]) ⟨rfl, GrR.refl _⟩)
                · exact opOk_move (.inl rfl) ⟨by simp only [Is]; (first | exact hρ.2 4 rfl | exact hd | exact hd.1 | exact hd.2 | simp [hd]), GrR.refl _⟩
                · exact opOk_move (.inl rfl) ⟨by simp only [Is]; (first | exact hρ.2 6 rfl | exact hd | exact hd.1 | exact hd.2 | simp [hd]), GrR.refl _⟩
                · exact opOk_val (v := .pointer (some ⟨rb, i * 5, none⟩)) (w' := wv) (by simp [execOp, go_sem, hρ.1.const, hρ.1.func, hd, I012.out.1, I012.out.2.1, I012.out.2.2]) ⟨rfl, GrR.refl _⟩
                · exact opOk_val (v := .pointer (some ⟨rb, i * 5 + 2, none⟩)) (w' := wv) (by simp [execOp, go_sem, hρ.1.const, hρ.1.func, hd]) ⟨rfl, GrR.refl _⟩
                · exact opOk_loadMid rfl rb (i * 5 + 2) (by first | exact hρ.2 _ rfl | simp [hd]) [.int .u8 (ok.toNat : Int), .int .u8 (of.toNat : Int), .slice ps nq cps] _ (range3 (cell?_of_below hR E2.out) (cell?_of_below hR E3.out) (cell?_of_below hR E4.out)) Tryd.underlying47 rfl (by kernel_rfl) ⟨rfl, GrR.refl _⟩
                · exact opOk_val (v := .slice (some ⟨wv.heap.size, 0, none⟩) 1 1) (w' := wv.alloc (.cells #[.int .u8 (ok.toNat : Int), .int .u8 (of.toNat : Int), .slice ps nq cps] 47 (0, 0))) (by simp [execOp, go_sem, hρ.1.const, hd]) ⟨chs_new wv 47 (⟨ok, of, ob⟩ : Chk) _ (HOB.out.mono hR).rd, (Below.refl _ _).alloc (Nat.le_refl _) _⟩
                · (have h9 : ChsF [(⟨ok, of, ob⟩ : Chk)] (ρ (.tmp 84)) wv := (by first | exact hd.2 | exact hd.1); obtain ⟨p9, c9, hv9, -⟩ := id h9; exact opOk_val (v := .agg #[.int .u32 (otag : Int), .slice p9 1 c9]) (w' := wv) (by simp [execOp, go_sem, hρ.1.const, hd, hv9]) ⟨⟨_, rfl, hv9 ▸ h9⟩, GrR.refl _⟩)
                · exact opOk_call hρ.1 rfl rfl Tryd.func15 (by kernel_rfl) rfl (by simp [hd, hρ.1.const, hρ.1.func]) ((takes_any w0.heap.size wv gb vx x (HPX.out.mono hR) HSTX.out otag [(⟨ok, of, ob⟩ : Chk)] (ρ (.tmp 85)) (show PkF otag [(⟨ok, of, ob⟩ : Chk)] (ρ (.tmp 85)) wv from by first | exact hd.2 | exact hd.1)).mono fun e w' ⟨h1, h2⟩ => ⟨_, h1, by rw [HTB.out]; rfl, h2⟩)
              · intro vals wv hR hall
                have i16 := hall 16 (by simp)
                simp only [factAt, Is, List.getD_eq_getElem?_getD, List.getElem?_cons_succ, List.getElem?_cons_zero, Option.getD_some] at i16
                clear hall
                simp only [fillFrom, Act.put, i16, List.setIfInBounds_toArray, List.set_cons_zero, List.set_cons_succ]
                rename_i Kk hKk
                refine hKk _ _ ?_
                clear hKk Kk
                obtain ⟨w9, hw9⟩ : ∃ y, y = wv := ⟨_, rfl⟩
                subst hw9
                have HM9 := hid (HM7.out.mono hR)
                have HG9 := hid (HG7.out.trans (hR.mono HG7.out.size))
                have E0 := hid (cell?_of_below hR E0.out)
                have E1 := hid (cell?_of_below hR E1.out)
                have E2 := hid (cell?_of_below hR E2.out)
                have E3 := hid (cell?_of_below hR E3.out)
                have E4 := hid (cell?_of_below hR E4.out)
                have HOB := hid (HOB.out.mono hR)
                clear hR i16 HCP HPX HTW HM7 HG7
                cases tb
                case false =>
                  have HST2 := hid (show stepsD lost N (x, ex, pk + 1) (A.drop (i + 1)) = some (b1, eb1, pk1) from by
                    rcases HCASE.out with ⟨-, hy⟩ | ⟨hf, -⟩
                    · rw [← hy]; exact HST.out
                    · cases hf)
                  clear HCASE
                  go_wp2_with fail
                  have hna := HLA.out
                  have hnb := HLB.out
                  go_roundw
                  case rel => exact ⟨i + 1, by omega, by go_num, hid ⟨_, _, _, _, HM9.out, HG9.out, by have := HK.out; have := HPK.out; omega, by rw [HK.out]; exact HST2.out⟩⟩
                  case measure => simp [intOf]; omega
                case true =>
                  obtain ⟨⟨x2, ev2⟩, hcd, hyy⟩ : ∃ r : AsD × EvD, chunkD x N opath (⟨ok, of, ob⟩ : Chk) = some r ∧ y = (r.1, noteE ex r.2, pk + 1) := by
                    rcases HCASE.out with ⟨hf, -⟩ | ⟨-, hr⟩
                    · cases hf
                    · exact hr
                  have HCD := hid hcd
                  have HST2 := hid (show stepsD lost N (x2, noteE ex ev2, pk + 1) (A.drop (i + 1)) = some (b1, eb1, pk1) from by rw [show (x2, noteE ex ev2, pk + 1) = y from hyy.symm]; exact HST.out)
                  clear HCASE hcd hyy
                  go_wp2_with fail
                  have HTW9 := hid HM9.out.two
                  have HCP := hid (HTW9.out.at 1 (by simp [TwoD.cells]))
                  have HCN := hid (HTW9.out.at 24 (by simp [TwoD.cells]))
                  simp only [TwoD.cells, List.getElem_cons_succ, List.getElem_cons_zero] at HCP HCN
                  rw [HNW3.out] at HCN
                  have HPX9 := hid HM9.out.pb
                  have HNT := hid (show ¬ Mine gb vx t from mine_not HPX9.out HTW9.out (by decide) (by decide))
                  have HNR := hid (show ¬ Mine gb vx rb from by
                    obtain ⟨m, hm⟩ := AsAt.row HPX9.out
                    rintro (e | e)
                    · exact HM9.out.la.ne hm (by decide) rb rfl e
                    · exact HM9.out.xab rb rfl e)
                  have HJ0 := hid (show (JJ (fun wx => As w0.heap.size wx gb vx x ∧ Own wx w0.heap.size 5 (.slice ps nq cps) ob ∧ Below w0.heap.size w0 wx) (fun wx => ∃ vx', As w0.heap.size wx gb vx' x2 ∧ RowTo w9 vx vx')) 0 w9 from ⟨HPX9.out, HOB.out, HG9.out⟩)
                  refine wp_region_chg 25 (Mine gb vx) [23] (JJ (fun wx => As w0.heap.size wx gb vx x ∧ Own wx w0.heap.size 5 (.slice ps nq cps) ob ∧ Below w0.heap.size w0 wx) (fun wx => ∃ vx', As w0.heap.size wx gb vx' x2 ∧ RowTo w9 vx vx')) [Is (.pointer (some ⟨t, 0, none⟩)), Is (.pointer (some ⟨t, 0, none⟩)), Is (.pointer (some ⟨t, 0, none⟩)), Is (.pointer (some ⟨t, 14, none⟩)), Is (ex.val), Is (.pointer (some ⟨t, 0, none⟩)), Is (.pointer (some ⟨t, 0, none⟩)), Is (.pointer (some ⟨t, 1, none⟩)), Is (.pointer (some ⟨gb, 0, none⟩)), Is (.pointer (some ⟨t, 0, none⟩)), Is (.pointer (some ⟨t, 0, none⟩)), Is (.pointer (some ⟨t, 24, none⟩)), Is (.int .i64 (N : Int)), Is (.slice (some ⟨rb, 0, none⟩) na ca), Is (.int .i64 (i : Int)), Is (.pointer (some ⟨rb, i * 5, none⟩)), Is (.pointer (some ⟨rb, i * 5, none⟩)), Is (.int .i64 (opath : Int)), Is (.slice (some ⟨rb, 0, none⟩) na ca), Is (.int .i64 (i : Int)), Is (.pointer (some ⟨rb, i * 5, none⟩)), Is (.pointer (some ⟨rb, i * 5 + 2, none⟩)), Is (.agg #[.int .u8 (ok.toNat : Int), .int .u8 (of.toNat : Int), .slice ps nq cps]), Is (ev2.val), Is ((noteE ex ev2).val)] (by kernel_rfl) (by kernel_rfl) (by kernel_rfl) (by kernel_rfl) (by kernel_rfl) (by kernel_rfl) (by kernel_rfl) (HJ0.out) (JJ.st (fun _ _ h k => ⟨AsAt.mono h.1 k, h.2.1.mono k, h.2.2.trans (k.mono h.2.2.size)⟩) (fun _ _ ⟨v, h1, h2⟩ k => ⟨v, AsAt.mono h1 k, h2⟩)) ?_ ?_ ?_
                  · simp only [StabAll, Is.ch, AnyF.ch, and_self]
                  · try (rename_i Kk hKk; clear hKk Kk)
                    simp only [List.take_succ_cons, List.take_zero, AllOpsC, wrAt, Nat.reduceAdd, Nat.reduceEqDiff, Option.map_some, Option.map_none, List.map_cons, List.map_nil, depsOf, List.filterMap_cons, List.filterMap_nil, Region.binds, depFacts, guardF, reduceIte, List.getD_eq_getElem?_getD, List.getElem?_cons_succ, List.getElem?_cons_zero, Option.getD_some, factAt, and_true]
                    refine ⟨?_, ?_, ?_, ?_, ?_, ?_, ?_, ?_, ?_, ?_, ?_, ?_, ?_, ?_, ?_, ?_, ?_, ?_, ?_, ?_, ?_, ?_, ?_, ?_, ?_⟩
                    all_goals intro ρ wv hρ hR hd
                    all_goals try simp only [Is] at hd
                    · exact opOk_move (.inl rfl) ⟨by simp only [Is]; (first | exact hρ.2 0 rfl | exact hd | exact hd.1 | exact hd.2 | simp [hd]), GrR.refl _⟩
                    · exact opOk_move (.inl rfl) ⟨by simp only [Is]; (first | exact hρ.2 0 rfl | exact hd | exact hd.1 | exact hd.2 | simp [hd]), GrR.refl _⟩
                    · exact opOk_val (v := .pointer (some ⟨t, 0, none⟩)) (w' := wv) (by simp [execOp, go_sem, hρ.1.const, hρ.1.func, hd]) ⟨rfl, GrR.refl _⟩
                    · exact opOk_val (v := .pointer (some ⟨t, 14, none⟩)) (w' := wv) (by simp [execOp, go_sem, hρ.1.const, hρ.1.func, hd]) ⟨rfl, GrR.refl _⟩
                    · exact opOk_loadMid rfl t 14 (by first | exact hρ.2 _ rfl | simp [hd]) [.bool ex.began, .bool ex.ended, .bool ex.clean, .int .u32 (ex.peer.tag : Int), .int .u32 (ex.peer.rwnd : Int), .int .u16 (ex.peer.out : Int), .int .u16 (ex.peer.in_ : Int), .int .u32 (ex.peer.tsn : Int), .slice none 0 0, .int .u32 (ex.tsn : Int)] _ ((HTW9.out.chg hR HNT.out).range 14 _ _ rfl) Tryd.underlying33 rfl (by kernel_rfl) ⟨rfl, GrR.refl _⟩
                    · exact opOk_move (.inl rfl) ⟨by simp only [Is]; (first | exact hρ.2 0 rfl | exact hd | exact hd.1 | exact hd.2 | simp [hd]), GrR.refl _⟩
                    · exact opOk_val (v := .pointer (some ⟨t, 0, none⟩)) (w' := wv) (by simp [execOp, go_sem, hρ.1.const, hρ.1.func, hd]) ⟨rfl, GrR.refl _⟩
                    · exact opOk_val (v := .pointer (some ⟨t, 1, none⟩)) (w' := wv) (by simp [execOp, go_sem, hρ.1.const, hρ.1.func, hd]) ⟨rfl, GrR.refl _⟩
                    · (have h0 := cell_chg hR HCP.out (HNT.out); exact opOk_val (v := .pointer (some ⟨gb, 0, none⟩)) (w' := wv) (by simp [execOp, go_sem, hd, h0]) ⟨rfl, GrR.refl _⟩)
                    · exact opOk_move (.inl rfl) ⟨by simp only [Is]; (first | exact hρ.2 0 rfl | exact hd | exact hd.1 | exact hd.2 | simp [hd]), GrR.refl _⟩
                    · exact opOk_val (v := .pointer (some ⟨t, 0, none⟩)) (w' := wv) (by simp [execOp, go_sem, hρ.1.const, hρ.1.func, hd]) ⟨rfl, GrR.refl _⟩
                    · exact opOk_val (v := .pointer (some ⟨t, 24, none⟩)) (w' := wv) (by simp [execOp, go_sem, hρ.1.const, hρ.1.func, hd]) ⟨rfl, GrR.refl _⟩
                    · (have h0 := cell_chg hR HCN.out (HNT.out); exact opOk_val (v := .int .i64 (N : Int)) (w' := wv) (by simp [execOp, go_sem, hd, h0]) ⟨rfl, GrR.refl _⟩)
                    · exact opOk_move (.inl rfl) ⟨by simp only [Is]; (first | exact hρ.2 4 rfl | exact hd | exact hd.1 | exact hd.2 | simp [hd]), GrR.refl _⟩
                    · exact opOk_move (.inl rfl) ⟨by simp only [Is]; (first | exact hρ.2 6 rfl | exact hd | exact hd.1 | exact hd.2 | simp [hd]), GrR.refl _⟩
                    · exact opOk_val (v := .pointer (some ⟨rb, i * 5, none⟩)) (w' := wv) (by simp [execOp, go_sem, hρ.1.const, hρ.1.func, hd, I012.out.1, I012.out.2.1, I012.out.2.2]) ⟨rfl, GrR.refl _⟩
                    · exact opOk_val (v := .pointer (some ⟨rb, i * 5, none⟩)) (w' := wv) (by simp [execOp, go_sem, hρ.1.const, hρ.1.func, hd]) ⟨rfl, GrR.refl _⟩
                    · (have h0 := cell_chg hR E0.out (HNR.out); exact opOk_val (v := .int .i64 (opath : Int)) (w' := wv) (by simp [execOp, go_sem, hd, h0]) ⟨rfl, GrR.refl _⟩)
                    · exact opOk_move (.inl rfl) ⟨by simp only [Is]; (first | exact hρ.2 4 rfl | exact hd | exact hd.1 | exact hd.2 | simp [hd]), GrR.refl _⟩
                    · exact opOk_move (.inl rfl) ⟨by simp only [Is]; (first | exact hρ.2 6 rfl | exact hd | exact hd.1 | exact hd.2 | simp [hd]), GrR.refl _⟩
                    · exact opOk_val (v := .pointer (some ⟨rb, i * 5, none⟩)) (w' := wv) (by simp [execOp, go_sem, hρ.1.const, hρ.1.func, hd, I012.out.1, I012.out.2.1, I012.out.2.2]) ⟨rfl, GrR.refl _⟩
                    · exact opOk_val (v := .pointer (some ⟨rb, i * 5 + 2, none⟩)) (w' := wv) (by simp [execOp, go_sem, hρ.1.const, hρ.1.func, hd]) ⟨rfl, GrR.refl _⟩
                    · exact opOk_loadMid rfl rb (i * 5 + 2) (by first | exact hρ.2 _ rfl | simp [hd]) [.int .u8 (ok.toNat : Int), .int .u8 (of.toNat : Int), .slice ps nq cps] _ (range3 (cell_chg hR E2.out HNR.out) (cell_chg hR E3.out HNR.out) (cell_chg hR E4.out HNR.out)) Tryd.underlying47 rfl (by kernel_rfl) ⟨rfl, GrR.refl _⟩
                    · (first | refine ⟨rfl, fun hJ => ?_⟩ | refine ⟨trivial, fun hJ => ?_⟩ | intro hJ); exact opOk_call hρ.1 rfl rfl Tryd.func27 (by kernel_rfl) rfl (by simp [hd, hρ.1.const, hρ.1.func]) ((chunkD_any w0 HLD.out wv gb vx x hJ.1 hJ.2.2 N HNOW.out opath (⟨ok, of, ob⟩ : Chk) (.slice ps nq cps) hJ.2.1 x2 ev2 HCD.out).mono fun e w' ⟨h1, vr', k1, k2, k3⟩ => ⟨_, h1, rfl, k3, vr', k1, fun j hj => (k2 j hj).imp id (fun h => Nat.le_trans hR.size h)⟩)
                    · exact opOk_call hρ.1 rfl rfl Tryd.func29 (by kernel_rfl) rfl (by simp [hd, hρ.1.const, hρ.1.func]) ((note_any ex ev2 wv).mono fun e w' ⟨h1, h2⟩ => ⟨_, h1, rfl, h2⟩)
                  · intro vals wv hR hJ hall
                    have i0 := hall 0 (by omega)
                    have i24 := hall 24 (by omega)
                    simp only [factAt, Is, List.getD_eq_getElem?_getD, List.getElem?_cons_succ, List.getElem?_cons_zero, Option.getD_some] at i0 i24
                    clear hall
                    obtain ⟨vz, hy1, hy2⟩ : ∃ vx', As w0.heap.size wv gb vx' x2 ∧ RowTo w9 vx vx' := hJ
                    obtain ⟨wa, hwa⟩ : ∃ y, y = wv := ⟨_, rfl⟩
                    subst hwa
                    obtain ⟨en, hen⟩ : ∃ en, en = noteE ex ev2 := ⟨_, rfl⟩
                    obtain ⟨vy, hma, -⟩ := (MidAt.didB HM9.out (by decide) (by decide) (by decide) (by decide) (by decide) ⟨vz, hy1, hy2, hR⟩)
                    have HMA := hid (show Mid w0.heap.size wa t ga gb (.slice none 0 0) vy (.slice (some ⟨rb, 0, none⟩) na ca) (.slice pb nb cb) ({ T3 with b := x2, eb := ex, pk := k }) A L from hma)
                    have HGA := hid (HG9.out.trans (hR.below HG9.out.size HPX9.out.ge))
                    have HTWA := hid HMA.out.two
                    rw [← hen] at i24
                    rw [show en.val = .agg #[.bool en.began, .bool en.ended, .bool en.clean, .int .u32 (en.peer.tag : Int), .int .u32 (en.peer.rwnd : Int), .int .u16 (en.peer.out : Int), .int .u16 (en.peer.in_ : Int), .int .u32 (en.peer.tsn : Int), .slice none 0 0, .int .u32 (en.tsn : Int)] from rfl] at i24
                    have HEN := hid hen
                    clear hR hy1 hy2 hma hen HCP HCN HNT HNR HJ0 HTW9 HPX9
                    simp only [List.take_succ_cons, List.take_zero, List.drop_succ_cons, List.drop_zero, fillFrom, Act.put, i0, i24, List.setIfInBounds_toArray, List.set_cons_zero, List.set_cons_succ, Nat.zero_add, Nat.reduceAdd]
                    have c14 := HTWA.out.at 14 (by simp [TwoD.cells])
                    have c15 := HTWA.out.at 15 (by simp [TwoD.cells])
                    have c16 := HTWA.out.at 16 (by simp [TwoD.cells])
                    have c17 := HTWA.out.at 17 (by simp [TwoD.cells])
                    have c18 := HTWA.out.at 18 (by simp [TwoD.cells])
                    have c19 := HTWA.out.at 19 (by simp [TwoD.cells])
                    have c20 := HTWA.out.at 20 (by simp [TwoD.cells])
                    have c21 := HTWA.out.at 21 (by simp [TwoD.cells])
                    have c22 := HTWA.out.at 22 (by simp [TwoD.cells])
                    have c23 := HTWA.out.at 23 (by simp [TwoD.cells])
                    simp only [TwoD.cells, List.getElem_cons_succ, List.getElem_cons_zero] at c14 c15 c16 c17 c18 c19 c20 c21 c22 c23
                    have f14 := HTWA.out.frozen 14
                    have f15 := HTWA.out.frozen 15
                    have f16 := HTWA.out.frozen 16
                    have f17 := HTWA.out.frozen 17
                    have f18 := HTWA.out.frozen 18
                    have f19 := HTWA.out.frozen 19
                    have f20 := HTWA.out.frozen 20
                    have f21 := HTWA.out.frozen 21
                    have f22 := HTWA.out.frozen 22
                    have f23 := HTWA.out.frozen 23
                    obtain ⟨wb, hwb⟩ : ∃ y, y = ((((((((((wa.setCell ⟨t, 14, none⟩ (.bool en.began)).setCell ⟨t, 15, none⟩ (.bool en.ended)).setCell ⟨t, 16, none⟩ (.bool en.clean)).setCell ⟨t, 17, none⟩ (.int .u32 (en.peer.tag : Int))).setCell ⟨t, 18, none⟩ (.int .u32 (en.peer.rwnd : Int))).setCell ⟨t, 19, none⟩ (.int .u16 (en.peer.out : Int))).setCell ⟨t, 20, none⟩ (.int .u16 (en.peer.in_ : Int))).setCell ⟨t, 21, none⟩ (.int .u32 (en.peer.tsn : Int))).setCell ⟨t, 22, none⟩ (.slice none 0 0)).setCell ⟨t, 23, none⟩ (.int .u32 (en.tsn : Int))) := ⟨_, rfl⟩
                    have HCB := hid (show Chg (fun k => k = t) wa wb by rw [hwb]; exact (((((((((((Chg.refl (fun k => k = t) wa).set ⟨t, 14, none⟩ (.bool en.began) (.inl rfl)).set ⟨t, 15, none⟩ (.bool en.ended) (.inl rfl)).set ⟨t, 16, none⟩ (.bool en.clean) (.inl rfl)).set ⟨t, 17, none⟩ (.int .u32 (en.peer.tag : Int)) (.inl rfl)).set ⟨t, 18, none⟩ (.int .u32 (en.peer.rwnd : Int)) (.inl rfl)).set ⟨t, 19, none⟩ (.int .u16 (en.peer.out : Int)) (.inl rfl)).set ⟨t, 20, none⟩ (.int .u16 (en.peer.in_ : Int)) (.inl rfl)).set ⟨t, 21, none⟩ (.int .u32 (en.peer.tsn : Int)) (.inl rfl)).set ⟨t, 22, none⟩ (.slice none 0 0) (.inl rfl)).set ⟨t, 23, none⟩ (.int .u32 (en.tsn : Int)) (.inl rfl)))
                    have HMB := hid (show Mid w0.heap.size wb t ga gb (.slice none 0 0) vy (.slice (some ⟨rb, 0, none⟩) na ca) (.slice pb nb cb) ({ T3 with b := x2, eb := en, pk := k }) A L from HMA.out.set (by decide) (by decide) (by decide) HCB.out (by rw [hwb]; exact ((((((((((HTWA.out.store 14 (.bool en.began)).store 15 (.bool en.ended)).store 16 (.bool en.clean)).store 17 (.int .u32 (en.peer.tag : Int))).store 18 (.int .u32 (en.peer.rwnd : Int))).store 19 (.int .u16 (en.peer.out : Int))).store 20 (.int .u16 (en.peer.in_ : Int))).store 21 (.int .u32 (en.peer.tsn : Int))).store 22 (.slice none 0 0)).store 23 (.int .u32 (en.tsn : Int)))) rfl rfl)
                    have HGB := hid (HGA.out.trans (HCB.out.below HGA.out.size (fun k e => e ▸ HMA.out.tB)))
                    have HEB := hid hwb
                    clear i0 i24
                    go_wp2_with fail
                    clear hwb c14 f14 c15 f15 c16 f16 c17 f17 c18 f18 c19 f19 c20 f20 c21 f21 c22 f22 c23 f23
                    have hna := HLA.out
                    have hnb := HLB.out
                    go_roundw
                    case rel =>
                      rw [← HEB.out]
                      exact ⟨i + 1, by omega, by go_num, hid ⟨_, _, _, _, HMB.out, HGB.out, by have := HK.out; have := HPK.out; omega, by rw [HEN.out, HK.out]; exact HST2.out⟩⟩
                    case measure => simp [intOf]; omega
          · have z64 : ¬ (k : Int) ≤ 64 := by omega
            have hlb : lostB lost k = false := by unfold lostB; rw [decide_eq_false q64, Bool.false_and]
            rw [hlb] at hq
            have hq2 := Or.resolve_left hq (fun h => by cases h.1) |>.2
            rw [HK.out] at hq2
            clear hq q64 hlb
            go_wp2_with fail
            clear z64
            obtain ⟨hsx, hcase⟩ := hq2
            have HSTX := hid hsx
            have HPX := hid HM7.out.pb
            have HCP := hid (HTW.out.at 1 (by simp [TwoD.cells]))
            simp only [TwoD.cells, List.getElem_cons_succ, List.getElem_cons_zero] at HCP
            obtain ⟨tb, htb⟩ : ∃ tb, tb = takesB x otag [(⟨ok, of, ob⟩ : Chk)] := ⟨_, rfl⟩
            have HTB := hid htb
            rw [← htb] at hcase
            have HCASE := hid hcase
            clear hcase hsx htb c25
            refine wp_region_gr [Is (.pointer (some ⟨t, 0, none⟩)), Is (.pointer (some ⟨t, 0, none⟩)), Is (.pointer (some ⟨t, 1, none⟩)), Is (.pointer (some ⟨gb, 0, none⟩)), Is (.slice (some ⟨rb, 0, none⟩) na ca), Is (.int .i64 (i : Int)), Is (.pointer (some ⟨rb, i * 5, none⟩)), Is (.pointer (some ⟨rb, i * 5 + 1, none⟩)), Is (.int .u32 (otag : Int)), Is (.slice (some ⟨rb, 0, none⟩) na ca), Is (.int .i64 (i : Int)), Is (.pointer (some ⟨rb, i * 5, none⟩)), Is (.pointer (some ⟨rb, i * 5 + 2, none⟩)), Is (.agg #[.int .u8 (ok.toNat : Int), .int .u8 (of.toNat : Int), .slice ps nq cps]), ChsF [(⟨ok, of, ob⟩ : Chk)], PkF otag [(⟨ok, of, ob⟩ : Chk)], Is (.bool tb)] (by kernel_rfl) (by kernel_rfl) (by kernel_rfl) ?_ ?_ ?_
            · simp only [StabAll, Is.gr, RdF.gr, OwnF.gr, AnyF.gr, ChsF.gr, PkF.gr, and_self]
            · try (rename_i Kk hKk; clear hKk Kk)
              simp only [AllOps, List.map_cons, List.map_nil, depsOf, List.filterMap_cons, List.filterMap_nil, Region.binds, depFacts, guardF, reduceIte, List.getD_eq_getElem?_getD, List.getElem?_cons_succ, List.getElem?_cons_zero, Option.getD_some, factAt, and_true]
              refine ⟨?_, ?_, ?_, ?_, ?_, ?_, ?_, ?_, ?_, ?_, ?_, ?_, ?_, ?_, ?_, ?_, ?_⟩
              all_goals intro ρ wv hρ hR hd
              all_goals try simp only [Is] at hd
              · exact opOk_move (.inl rfl) ⟨by simp only [Is]; (first | exact hρ.2 0 rfl | exact hd | exact hd.1 | exact hd.2 | simp [hd]), GrR.refl _⟩
              · exact opOk_val (v := .pointer (some ⟨t, 0, none⟩)) (w' := wv) (by simp [execOp, go_sem, hρ.1.const, hρ.1.func, hd]) ⟨rfl, GrR.refl _⟩
              · exact opOk_val (v := .pointer (some ⟨t, 1, none⟩)) (w' := wv) (by simp [execOp, go_sem, hρ.1.const, hρ.1.func, hd]) ⟨rfl, GrR.refl _⟩
              · (have h0 := cell?_of_below hR HCP.out; exact opOk_val (v := .pointer (some ⟨gb, 0, none⟩)) (w' := wv) (by simp [execOp, go_sem, hd, h0]) ⟨rfl, GrR.refl _⟩)
              · exact opOk_move (.inl rfl) ⟨by simp only [Is]; (first | exact hρ.2 4 rfl | exact hd | exact hd.1 | exact hd.2 | simp [hd]), GrR.refl _⟩
              · exact opOk_move (.inl rfl) ⟨by simp only [Is]; (first | exact hρ.2 6 rfl | exact hd | exact hd.1 | exact hd.2 | simp [hd]), GrR.refl _⟩
              · exact opOk_val (v := .pointer (some ⟨rb, i * 5, none⟩)) (w' := wv) (by simp [execOp, go_sem, hρ.1.const, hρ.1.func, hd, I012.out.1, I012.out.2.1, I012.out.2.2]) ⟨rfl, GrR.refl _⟩
              · exact opOk_val (v := .pointer (some ⟨rb, i * 5 + 1, none⟩)) (w' := wv) (by simp [execOp, go_sem, hρ.1.const, hρ.1.func, hd]) ⟨rfl, GrR.refl _⟩
              · (have h0 := cell?_of_below hR E1.out; exact opOk_val (v := .int .u32 (otag : Int)) (w' := wv) (by simp [execOp, go_sem, hd, h0]) ⟨rfl, GrR.refl _⟩)
              · exact opOk_move (.inl rfl) ⟨by simp only [Is]; (first | exact hρ.2 4 rfl | exact hd | exact hd.1 | exact hd.2 | simp [hd]), GrR.refl _⟩
              · exact opOk_move (.inl rfl) ⟨by simp only [Is]; (first | exact hρ.2 6 rfl | exact hd | exact hd.1 | exact hd.2 | simp [hd]), GrR.refl _⟩
              · exact opOk_val (v := .pointer (some ⟨rb, i * 5, none⟩)) (w' := wv) (by simp [execOp, go_sem, hρ.1.const, hρ.1.func, hd, I012.out.1, I012.out.2.1, I012.out.2.2]) ⟨rfl, GrR.refl _⟩
              · exact opOk_val (v := .pointer (some ⟨rb, i * 5 + 2, none⟩)) (w' := wv) (by simp [execOp, go_sem, hρ.1.const, hρ.1.func, hd]) ⟨rfl, GrR.refl _⟩
              · exact opOk_loadMid rfl rb (i * 5 + 2) (by first | exact hρ.2 _ rfl | simp [hd]) [.int .u8 (ok.toNat : Int), .int .u8 (of.toNat : Int), .slice ps nq cps] _ (range3 (cell?_of_below hR E2.out) (cell?_of_below hR E3.out) (cell?_of_below hR E4.out)) Tryd.underlying47 rfl (by kernel_rfl) ⟨rfl, GrR.refl _⟩
              · exact opOk_val (v := .slice (some ⟨wv.heap.size, 0, none⟩) 1 1) (w' := wv.alloc (.cells #[.int .u8 (ok.toNat : Int), .int .u8 (of.toNat : Int), .slice ps nq cps] 47 (0, 0))) (by simp [execOp, go_sem, hρ.1.const, hd]) ⟨chs_new wv 47 (⟨ok, of, ob⟩ : Chk) _ (HOB.out.mono hR).rd, (Below.refl _ _).alloc (Nat.le_refl _) _⟩
              · (have h9 : ChsF [(⟨ok, of, ob⟩ : Chk)] (ρ (.tmp 84)) wv := (by first | exact hd.2 | exact hd.1); obtain ⟨p9, c9, hv9, -⟩ := id h9; exact opOk_val (v := .agg #[.int .u32 (otag : Int), .slice p9 1 c9]) (w' := wv) (by simp [execOp, go_sem, hρ.1.const, hd, hv9]) ⟨⟨_, rfl, hv9 ▸ h9⟩, GrR.refl _⟩)
              · exact opOk_call hρ.1 rfl rfl Tryd.func15 (by kernel_rfl) rfl (by simp [hd, hρ.1.const, hρ.1.func]) ((takes_any w0.heap.size wv gb vx x (HPX.out.mono hR) HSTX.out otag [(⟨ok, of, ob⟩ : Chk)] (ρ (.tmp 85)) (show PkF otag [(⟨ok, of, ob⟩ : Chk)] (ρ (.tmp 85)) wv from by first | exact hd.2 | exact hd.1)).mono fun e w' ⟨h1, h2⟩ => ⟨_, h1, by rw [HTB.out]; rfl, h2⟩)
            · intro vals wv hR hall
              have i16 := hall 16 (by simp)
              simp only [factAt, Is, List.getD_eq_getElem?_getD, List.getElem?_cons_succ, List.getElem?_cons_zero, Option.getD_some] at i16
              clear hall
              simp only [fillFrom, Act.put, i16, List.setIfInBounds_toArray, List.set_cons_zero, List.set_cons_succ]
              rename_i Kk hKk
              refine hKk _ _ ?_
              clear hKk Kk
              obtain ⟨w9, hw9⟩ : ∃ y, y = wv := ⟨_, rfl⟩
              subst hw9
              have HM9 := hid (HM7.out.mono hR)
              have HG9 := hid (HG7.out.trans (hR.mono HG7.out.size))
              have E0 := hid (cell?_of_below hR E0.out)
              have E1 := hid (cell?_of_below hR E1.out)
              have E2 := hid (cell?_of_below hR E2.out)
              have E3 := hid (cell?_of_below hR E3.out)
              have E4 := hid (cell?_of_below hR E4.out)
              have HOB := hid (HOB.out.mono hR)
              clear hR i16 HCP HPX HTW HM7 HG7
              cases tb
              case false =>
                have HST2 := hid (show stepsD lost N (x, ex, pk + 1) (A.drop (i + 1)) = some (b1, eb1, pk1) from by
                  rcases HCASE.out with ⟨-, hy⟩ | ⟨hf, -⟩
                  · rw [← hy]; exact HST.out
                  · cases hf)
                clear HCASE
                go_wp2_with fail
                have hna := HLA.out
                have hnb := HLB.out
                go_roundw
                case rel => exact ⟨i + 1, by omega, by go_num, hid ⟨_, _, _, _, HM9.out, HG9.out, by have := HK.out; have := HPK.out; omega, by rw [HK.out]; exact HST2.out⟩⟩
                case measure => simp [intOf]; omega
              case true =>
                obtain ⟨⟨x2, ev2⟩, hcd, hyy⟩ : ∃ r : AsD × EvD, chunkD x N opath (⟨ok, of, ob⟩ : Chk) = some r ∧ y = (r.1, noteE ex r.2, pk + 1) := by
                  rcases HCASE.out with ⟨hf, -⟩ | ⟨-, hr⟩
                  · cases hf
                  · exact hr
                have HCD := hid hcd
                have HST2 := hid (show stepsD lost N (x2, noteE ex ev2, pk + 1) (A.drop (i + 1)) = some (b1, eb1, pk1) from by rw [show (x2, noteE ex ev2, pk + 1) = y from hyy.symm]; exact HST.out)
                clear HCASE hcd hyy
                go_wp2_with fail
                have HTW9 := hid HM9.out.two
                have HCP := hid (HTW9.out.at 1 (by simp [TwoD.cells]))
                have HCN := hid (HTW9.out.at 24 (by simp [TwoD.cells]))
                simp only [TwoD.cells, List.getElem_cons_succ, List.getElem_cons_zero] at HCP HCN
                rw [HNW3.out] at HCN
                have HPX9 := hid HM9.out.pb
                have HNT := hid (show ¬ Mine gb vx t from mine_not HPX9.out HTW9.out (by decide) (by decide))
                have HNR := hid (show ¬ Mine gb vx rb from by
                  obtain ⟨m, hm⟩ := AsAt.row HPX9.out
                  rintro (e | e)
                  · exact HM9.out.la.ne hm (by decide) rb rfl e
                  · exact HM9.out.xab rb rfl e)
                have HJ0 := hid (show (JJ (fun wx => As w0.heap.size wx gb vx x ∧ Own wx w0.heap.size 5 (.slice ps nq cps) ob ∧ Below w0.heap.size w0 wx) (fun wx => ∃ vx', As w0.heap.size wx gb vx' x2 ∧ RowTo w9 vx vx')) 0 w9 from ⟨HPX9.out, HOB.out, HG9.out⟩)
                refine wp_region_chg 25 (Mine gb vx) [23] (JJ (fun wx => As w0.heap.size wx gb vx x ∧ Own wx w0.heap.size 5 (.slice ps nq cps) ob ∧ Below w0.heap.size w0 wx) (fun wx => ∃ vx', As w0.heap.size wx gb vx' x2 ∧ RowTo w9 vx vx')) [Is (.pointer (some ⟨t, 0, none⟩)), Is (.pointer (some ⟨t, 0, none⟩)), Is (.pointer (some ⟨t, 0, none⟩)), Is (.pointer (some ⟨t, 14, none⟩)), Is (ex.val), Is (.pointer (some ⟨t, 0, none⟩)), Is (.pointer (some ⟨t, 0, none⟩)), Is (.pointer (some ⟨t, 1, none⟩)), Is (.pointer (some ⟨gb, 0, none⟩)), Is (.pointer (some ⟨t, 0, none⟩)), Is (.pointer (some ⟨t, 0, none⟩)), Is (.pointer (some ⟨t, 24, none⟩)), Is (.int .i64 (N : Int)), Is (.slice (some ⟨rb, 0, none⟩) na ca), Is (.int .i64 (i : Int)), Is (.pointer (some ⟨rb, i * 5, none⟩)), Is (.pointer (some ⟨rb, i * 5, none⟩)), Is (.int .i64 (opath : Int)), Is (.slice (some ⟨rb, 0, none⟩) na ca), Is (.int .i64 (i : Int)), Is (.pointer (some ⟨rb, i * 5, none⟩)), Is (.pointer (some ⟨rb, i * 5 + 2, none⟩)), Is (.agg #[.int .u8 (ok.toNat : Int), .int .u8 (of.toNat : Int), .slice ps nq cps]), Is (ev2.val), Is ((noteE ex ev2).val)] (by kernel_rfl) (by kernel_rfl) (by kernel_rfl) (by kernel_rfl) (by kernel_rfl) (by kernel_rfl) (by kernel_rfl) (HJ0.out) (JJ.st (fun _ _ h k => ⟨AsAt.mono h.1 k, h.2.1.mono k, h.2.2.trans (k.mono h.2.2.size)⟩) (fun _ _ ⟨v, h1, h2⟩ k => ⟨v, AsAt.mono h1 k, h2⟩)) ?_ ?_ ?_
                · simp only [StabAll, Is.ch, AnyF.ch, and_self]
                · try (rename_i Kk hKk; clear hKk Kk)
                  simp only [List.take_succ_cons, List.take_zero, AllOpsC, wrAt, Nat.reduceAdd, Nat.reduceEqDiff, Option.map_some, Option.map_none, List.map_cons, List.map_nil, depsOf, List.filterMap_cons, List.filterMap_nil, Region.binds, depFacts, guardF, reduceIte, List.getD_eq_getElem?_getD, List.getElem?_cons_succ, List.getElem?_cons_zero, Option.getD_some, factAt, and_true]
                  refine ⟨?_, ?_, ?_, ?_, ?_, ?_, ?_, ?_, ?_, ?_, ?_, ?_, ?_, ?_, ?_, ?_, ?_, ?_, ?_, ?_, ?_, ?_, ?_, ?_, ?_⟩
                  all_goals intro ρ wv hρ hR hd
                  all_goals try simp only [Is] at hd
                  · exact opOk_move (.inl rfl) ⟨by simp only [Is]; (first | exact hρ.2 0 rfl | exact hd | exact hd.1 | exact hd.2 | simp [hd]), GrR.refl _⟩
                  · exact opOk_move (.inl rfl) ⟨by simp only [Is]; (first | exact hρ.2 0 rfl | exact hd | exact hd.1 | exact hd.2 | simp [hd]), GrR.refl _⟩
                  · exact opOk_val (v := .pointer (some ⟨t, 0, none⟩)) (w' := wv) (by simp [execOp, go_sem, hρ.1.const, hρ.1.func, hd]) ⟨rfl, GrR.refl _⟩
                  · exact opOk_val (v := .pointer (some ⟨t, 14, none⟩)) (w' := wv) (by simp [execOp, go_sem, hρ.1.const, hρ.1.func, hd]) ⟨rfl, GrR.refl _⟩
                  · exact opOk_loadMid rfl t 14 (by first | exact hρ.2 _ rfl | simp [hd]) [.bool ex.began, .bool ex.ended, .bool ex.clean, .int .u32 (ex.peer.tag : Int), .int .u32 (ex.peer.rwnd : Int), .int .u16 (ex.peer.out : Int), .int .u16 (ex.peer.in_ : Int), .int .u32 (ex.peer.tsn : Int), .slice none 0 0, .int .u32 (ex.tsn : Int)] _ ((HTW9.out.chg hR HNT.out).range 14 _ _ rfl) Tryd.underlying33 rfl (by kernel_rfl) ⟨rfl, GrR.refl _⟩
                  · exact opOk_move (.inl rfl) ⟨by simp only [Is]; (first | exact hρ.2 0 rfl | exact hd | exact hd.1 | exact hd.2 | simp [hd]), GrR.refl _⟩
                  · exact opOk_val (v := .pointer (some ⟨t, 0, none⟩)) (w' := wv) (by simp [execOp, go_sem, hρ.1.const, hρ.1.func, hd]) ⟨rfl, GrR.refl _⟩
                  · exact opOk_val (v := .pointer (some ⟨t, 1, none⟩)) (w' := wv) (by simp [execOp, go_sem, hρ.1.const, hρ.1.func, hd]) ⟨rfl, GrR.refl _⟩
                  · (have h0 := cell_chg hR HCP.out (HNT.out); exact opOk_val (v := .pointer (some ⟨gb, 0, none⟩)) (w' := wv) (by simp [execOp, go_sem, hd, h0]) ⟨rfl, GrR.refl _⟩)
                  · exact opOk_move (.inl rfl) ⟨by simp only [Is]; (first | exact hρ.2 0 rfl | exact hd | exact hd.1 | exact hd.2 | simp [hd]), GrR.refl _⟩
                  · exact opOk_val (v := .pointer (some ⟨t, 0, none⟩)) (w' := wv) (by simp [execOp, go_sem, hρ.1.const, hρ.1.func, hd]) ⟨rfl, GrR.refl _⟩
                  · exact opOk_val (v := .pointer (some ⟨t, 24, none⟩)) (w' := wv) (by simp [execOp, go_sem, hρ.1.const, hρ.1.func, hd]) ⟨rfl, GrR.refl _⟩
                  · (have h0 := cell_chg hR HCN.out (HNT.out); exact opOk_val (v := .int .i64 (N : Int)) (w' := wv) (by simp [execOp, go_sem, hd, h0]) ⟨rfl, GrR.refl _⟩)
                  · exact opOk_move (.inl rfl) ⟨by simp only [Is]; (first | exact hρ.2 4 rfl | exact hd | exact hd.1 | exact hd.2 | simp [hd]), GrR.refl _⟩
                  · exact opOk_move (.inl rfl) ⟨by simp only [Is]; (first | exact hρ.2 6 rfl | exact hd | exact hd.1 | exact hd.2 | simp [hd]), GrR.refl _⟩
                  · exact opOk_val (v := .pointer (some ⟨rb, i * 5, none⟩)) (w' := wv) (by simp [execOp, go_sem, hρ.1.const, hρ.1.func, hd, I012.out.1, I012.out.2.1, I012.out.2.2]) ⟨rfl, GrR.refl _⟩
                  · exact opOk_val (v := .pointer (some ⟨rb, i * 5, none⟩)) (w' := wv) (by simp [execOp, go_sem, hρ.1.const, hρ.1.func, hd]) ⟨rfl, GrR.refl _⟩
                  · (have h0 := cell_chg hR E0.out (HNR.out); exact opOk_val (v := .int .i64 (opath : Int)) (w' := wv) (by simp [execOp, go_sem, hd, h0]) ⟨rfl, GrR.refl _⟩)
                  · exact opOk_move (.inl rfl) ⟨by simp only [Is]; (first | exact hρ.2 4 rfl | exact hd | exact hd.1 | exact hd.2 | simp [hd]), GrR.refl _⟩
                  · exact opOk_move (.inl rfl) ⟨by simp only [Is]; (first | exact hρ.2 6 rfl | exact hd | exact hd.1 | exact hd.2 | simp [hd]), GrR.refl _⟩
                  · exact opOk_val (v := .pointer (some ⟨rb, i * 5, none⟩)) (w' := wv) (by simp [execOp, go_sem, hρ.1.const, hρ.1.func, hd, I012.out.1, I012.out.2.1, I012.out.2.2]) ⟨rfl, GrR.refl _⟩
                  · exact opOk_val (v := .pointer (some ⟨rb, i * 5 + 2, none⟩)) (w' := wv) (by simp [execOp, go_sem, hρ.1.const, hρ.1.func, hd]) ⟨rfl, GrR.refl _⟩
                  · exact opOk_loadMid rfl rb (i * 5 + 2) (by first | exact hρ.2 _ rfl | simp [hd]) [.int .u8 (ok.toNat : Int), .int .u8 (of.toNat : Int), .slice ps nq cps] _ (range3 (cell_chg hR E2.out HNR.out) (cell_chg hR E3.out HNR.out) (cell_chg hR E4.out HNR.out)) Tryd.underlying47 rfl (by kernel_rfl) ⟨rfl, GrR.refl _⟩
                  · (first | refine ⟨rfl, fun hJ => ?_⟩ | refine ⟨trivial, fun hJ => ?_⟩ | intro hJ); exact opOk_call hρ.1 rfl rfl Tryd.func27 (by kernel_rfl) rfl (by simp [hd, hρ.1.const, hρ.1.func]) ((chunkD_any w0 HLD.out wv gb vx x hJ.1 hJ.2.2 N HNOW.out opath (⟨ok, of, ob⟩ : Chk) (.slice ps nq cps) hJ.2.1 x2 ev2 HCD.out).mono fun e w' ⟨h1, vr', k1, k2, k3⟩ => ⟨_, h1, rfl, k3, vr', k1, fun j hj => (k2 j hj).imp id (fun h => Nat.le_trans hR.size h)⟩)
                  · exact opOk_call hρ.1 rfl rfl Tryd.func29 (by kernel_rfl) rfl (by simp [hd, hρ.1.const, hρ.1.func]) ((note_any ex ev2 wv).mono fun e w' ⟨h1, h2⟩ => ⟨_, h1, rfl, h2⟩)
                · intro vals wv hR hJ hall
                  have i0 := hall 0 (by omega)
                  have i24 := hall 24 (by omega)
                  simp only [factAt, Is, List.getD_eq_getElem?_getD, List.getElem?_cons_succ, List.getElem?_cons_zero, Option.getD_some] at i0 i24
                  clear hall
                  obtain ⟨vz, hy1, hy2⟩ : ∃ vx', As w0.heap.size wv gb vx' x2 ∧ RowTo w9 vx vx' := hJ
                  obtain ⟨wa, hwa⟩ : ∃ y, y = wv := ⟨_, rfl⟩
                  subst hwa
                  obtain ⟨en, hen⟩ : ∃ en, en = noteE ex ev2 := ⟨_, rfl⟩
                  obtain ⟨vy, hma, -⟩ := (MidAt.didB HM9.out (by decide) (by decide) (by decide) (by decide) (by decide) ⟨vz, hy1, hy2, hR⟩)
                  have HMA := hid (show Mid w0.heap.size wa t ga gb (.slice none 0 0) vy (.slice (some ⟨rb, 0, none⟩) na ca) (.slice pb nb cb) ({ T3 with b := x2, eb := ex, pk := k }) A L from hma)
                  have HGA := hid (HG9.out.trans (hR.below HG9.out.size HPX9.out.ge))
                  have HTWA := hid HMA.out.two
                  rw [← hen] at i24
                  rw [show en.val = .agg #[.bool en.began, .bool en.ended, .bool en.clean, .int .u32 (en.peer.tag : Int), .int .u32 (en.peer.rwnd : Int), .int .u16 (en.peer.out : Int), .int .u16 (en.peer.in_ : Int), .int .u32 (en.peer.tsn : Int), .slice none 0 0, .int .u32 (en.tsn : Int)] from rfl] at i24
                  have HEN := hid hen
                  clear hR hy1 hy2 hma hen HCP HCN HNT HNR HJ0 HTW9 HPX9
                  simp only [List.take_succ_cons, List.take_zero, List.drop_succ_cons, List.drop_zero, fillFrom, Act.put, i0, i24, List.setIfInBounds_toArray, List.set_cons_zero, List.set_cons_succ, Nat.zero_add, Nat.reduceAdd]
                  have c14 := HTWA.out.at 14 (by simp [TwoD.cells])
                  have c15 := HTWA.out.at 15 (by simp [TwoD.cells])
                  have c16 := HTWA.out.at 16 (by simp [TwoD.cells])
                  have c17 := HTWA.out.at 17 (by simp [TwoD.cells])
                  have c18 := HTWA.out.at 18 (by simp [TwoD.cells])
                  have c19 := HTWA.out.at 19 (by simp [TwoD.cells])
                  have c20 := HTWA.out.at 20 (by simp [TwoD.cells])
                  have c21 := HTWA.out.at 21 (by simp [TwoD.cells])
                  have c22 := HTWA.out.at 22 (by simp [TwoD.cells])
                  have c23 := HTWA.out.at 23 (by simp [TwoD.cells])
                  simp only [TwoD.cells, List.getElem_cons_succ, List.getElem_cons_zero] at c14 c15 c16 c17 c18 c19 c20 c21 c22 c23
                  have f14 := HTWA.out.frozen 14
                  have f15 := HTWA.out.frozen 15
                  have f16 := HTWA.out.frozen 16
                  have f17 := HTWA.out.frozen 17
                  have f18 := HTWA.out.frozen 18
                  have f19 := HTWA.out.frozen 19
                  have f20 := HTWA.out.frozen 20
                  have f21 := HTWA.out.frozen 21
                  have f22 := HTWA.out.frozen 22
                  have f23 := HTWA.out.frozen 23
                  obtain ⟨wb, hwb⟩ : ∃ y, y = ((((((((((wa.setCell ⟨t, 14, none⟩ (.bool en.began)).setCell ⟨t, 15, none⟩ (.bool en.ended)).setCell ⟨t, 16, none⟩ (.bool en.clean)).setCell ⟨t, 17, none⟩ (.int .u32 (en.peer.tag : Int))).setCell ⟨t, 18, none⟩ (.int .u32 (en.peer.rwnd : Int))).setCell ⟨t, 19, none⟩ (.int .u16 (en.peer.out : Int))).setCell ⟨t, 20, none⟩ (.int .u16 (en.peer.in_ : Int))).setCell ⟨t, 21, none⟩ (.int .u32 (en.peer.tsn : Int))).setCell ⟨t, 22, none⟩ (.slice none 0 0)).setCell ⟨t, 23, none⟩ (.int .u32 (en.tsn : Int))) := ⟨_, rfl⟩
                  have HCB := hid (show Chg (fun k => k = t) wa wb by rw [hwb]; exact (((((((((((Chg.refl (fun k => k = t) wa).set ⟨t, 14, none⟩ (.bool en.began) (.inl rfl)).set ⟨t, 15, none⟩ (.bool en.ended) (.inl rfl)).set ⟨t, 16, none⟩ (.bool en.clean) (.inl rfl)).set ⟨t, 17, none⟩ (.int .u32 (en.peer.tag : Int)) (.inl rfl)).set ⟨t, 18, none⟩ (.int .u32 (en.peer.rwnd : Int)) (.inl rfl)).set ⟨t, 19, none⟩ (.int .u16 (en.peer.out : Int)) (.inl rfl)).set ⟨t, 20, none⟩ (.int .u16 (en.peer.in_ : Int)) (.inl rfl)).set ⟨t, 21, none⟩ (.int .u32 (en.peer.tsn : Int)) (.inl rfl)).set ⟨t, 22, none⟩ (.slice none 0 0) (.inl rfl)).set ⟨t, 23, none⟩ (.int .u32 (en.tsn : Int)) (.inl rfl)))
                  have HMB := hid (show Mid w0.heap.size wb t ga gb (.slice none 0 0) vy (.slice (some ⟨rb, 0, none⟩) na ca) (.slice pb nb cb) ({ T3 with b := x2, eb := en, pk := k }) A L from HMA.out.set (by decide) (by decide) (by decide) HCB.out (by rw [hwb]; exact ((((((((((HTWA.out.store 14 (.bool en.began)).store 15 (.bool en.ended)).store 16 (.bool en.clean)).store 17 (.int .u32 (en.peer.tag : Int))).store 18 (.int .u32 (en.peer.rwnd : Int))).store 19 (.int .u16 (en.peer.out : Int))).store 20 (.int .u16 (en.peer.in_ : Int))).store 21 (.int .u32 (en.peer.tsn : Int))).store 22 (.slice none 0 0)).store 23 (.int .u32 (en.tsn : Int)))) rfl rfl)
                  have HGB := hid (HGA.out.trans (HCB.out.below HGA.out.size (fun k e => e ▸ HMA.out.tB)))
                  have HEB := hid hwb
                  clear i0 i24
                  go_wp2_with fail
                  clear hwb c14 f14 c15 f15 c16 f16 c17 f17 c18 f18 c19 f19 c20 f20 c21 f21 c22 f22 c23 f23
                  have hna := HLA.out
                  have hnb := HLB.out
                  go_roundw
                  case rel =>
                    rw [← HEB.out]
                    exact ⟨i + 1, by omega, by go_num, hid ⟨_, _, _, _, HMB.out, HGB.out, by have := HK.out; have := HPK.out; omega, by rw [HEN.out, HK.out]; exact HST2.out⟩⟩
                  case measure => simp [intOf]; omega
        · have hin : na = i := by omega
          subst hin
          obtain ⟨vrb1, x, ex, pk, hm, hg, hpk, hst⟩ := HL.out
          have hex := stepsD_nil (by rw [← HNA.out]; exact Nat.le_refl _) hst
          simp only [Prod.mk.injEq] at hex
          obtain ⟨rfl, rfl, rfl⟩ := hex
          obtain ⟨w10, hw10⟩ : ∃ y, y = wr := ⟨_, rfl⟩
          subst hw10
          obtain ⟨T4, hT4⟩ : ∃ y, y = ({ T3 with b := b1, eb := eb1, pk := pk1 } : TwoD) := ⟨_, rfl⟩
          rw [← hT4] at hm
          have HM10 := hid hm
          have HG10 := hid hg
          have HPKB := hid (show T4.pk ≤ 1000000 + na by rw [hT4]; exact hpk)
          have HNW3 := hid (show T4.now = N by rw [hT4]; exact HNW3.out)
          have HS2 := hid (show stepsD lost N (T4.a, T4.ea, T4.pk) (L.drop 0) = some (a1, ea1, pk2) by rw [hT4]; exact HS2.out)
          have HT4b := hid (show T4.b = b1 by rw [hT4])
          have HT4e := hid (show T4.eb = eb1 by rw [hT4])
          clear hm hg hpk hst hT4 HL hlt hi
          go_wp2_with fail
          go_loopw [7] (fun y wr => ∃ i : Nat, i ≤ nb ∧ y = .int .i64 (i : Int) ∧ Hid (∃ (vx : Value) (x : AsD) (ex : EvD) (pk : Nat), Mid w0.heap.size wr t ga gb vx vrb1 (.slice pa na ca) (.slice pb nb cb) ({ T4 with a := x, ea := ex, pk := pk }) A L ∧ Below w0.heap.size w0 wr ∧ pk ≤ (1000000 + na) + i ∧ stepsD lost N (x, ex, pk) (L.drop i) = some (a1, ea1, pk2))) (fun y _ => nb - (intOf y).toNat)
          case atStart => exact ⟨0, Nat.zero_le _, rfl, hid ⟨_, _, _, _, HM10.out, HG10.out, by have := HPKB.out; omega, HS2.out⟩⟩
          case round =>
            obtain ⟨i, hi, rfl, HL⟩ := hrel
            by_cases hlt : i < nb
            · obtain ⟨vx, x, ex, pk, hm, hg, hpk, hst⟩ := HL.out
              have hlt2 : i < L.length := by rw [← HNB.out]; exact hlt
              obtain ⟨rb, c9, s9, hxs, hrb, e0, e1, e2, e3, e4, hob⟩ := hm.lb.elem i hlt2
              simp only [Value.slice.injEq] at hxs
              obtain ⟨rfl, -, -⟩ := hxs
              obtain ⟨y, hy, hst2⟩ := stepsD_cons hlt2 hst
              have HM := hid hm
              have HG := hid hg
              have HPK := hid hpk
              have HST := hid hst2
              have HRB := hid hrb
              obtain ⟨ps, nq, cps, rfl⟩ : ∃ p n c, s9 = Value.slice p n c := by
                obtain ⟨p9, c9, hsf, -⟩ := hob.rd
                exact ⟨_, _, _, hsf⟩
              obtain ⟨o, ho⟩ : ∃ o, o = L[i] := ⟨_, rfl⟩
              have HY := hid (show stepD lost N (x, ex, pk) o = some y by rw [ho]; exact hy)
              rw [← ho] at e0 e1 e2 e3 hob
              clear ho hy hst hst2 hm hg hpk hrb
              obtain ⟨opath, otag, ⟨ok, of, ob⟩⟩ := o
              simp only at e0 e1 e2 e3 hob
              have HOB := hid hob
              have E0 := hid e0
              have E1 := hid e1
              have E2 := hid e2
              have E3 := hid e3
              have E4 := hid e4
              have i0 : (0 : Int) ≤ (i : Int) := by omega
              have i1 : (i : Int) < (nb : Int) := by omega
              have i2 : ((i : Int)).toNat = i := by omega
              have I012 := hid (And.intro i0 (And.intro i1 i2))
              obtain ⟨k, hk⟩ : ∃ k, k = pk + 1 := ⟨_, rfl⟩
              have HK := hid hk
              have hwk : IntKind.i64.wrap ((pk : Int) + 1) = (k : Int) := by have := HPK.out; have := HLA.out; have := HLB.out; rw [IntKind.wrap_i64]; omega
              have hwi : IntKind.i64.wrap ((i : Int) + 1) = ((i + 1 : Nat) : Int) := by have := HLA.out; have := HLB.out; rw [IntKind.wrap_i64]; omega
              have HKB := hid (show 1 ≤ k ∧ k ≤ 3000001 by have := HPK.out; have := HLA.out; have := HLB.out; omega)
              clear hk e0 e1 e2 e3 e4 i0 i2 hlt2 hob
              have HTW := hid HM.out.two
              have c25 := HTW.out.at 25 (by simp [TwoD.cells])
              simp only [TwoD.cells, List.getElem_cons_succ, List.getElem_cons_zero] at c25
              have f25 := HTW.out.frozen 25
              obtain ⟨w7, hw7⟩ : ∃ y, y = wr.setCell ⟨t, 25, none⟩ (.int .i64 (k : Int)) := ⟨_, rfl⟩
              have HC7 := hid (show Chg (fun k => k = t) wr w7 by rw [hw7]; exact (Chg.refl (fun k => k = t) wr).set ⟨t, 25, none⟩ _ (.inl rfl))
              have HM7 := hid (show Mid w0.heap.size w7 t ga gb vx vrb1 (.slice pa na ca) (.slice (some ⟨rb, 0, none⟩) nb cb) ({ T4 with a := x, ea := ex, pk := k }) A L from HM.out.set (by decide) (by decide) (by decide) HC7.out (by rw [hw7]; exact HTW.out.store 25 (.int .i64 (k : Int))) rfl rfl)
              have HG7 := hid (HG.out.trans (HC7.out.below HG.out.size (fun k e => e ▸ HM.out.tB)))
              have HNO := hid (show ¬ rb = t from fun e => HM.out.lb.ne HTW.out (by decide) rb rfl e)
              have E0 := hid (cell_chg HC7.out E0.out HNO.out)
              have E1 := hid (cell_chg HC7.out E1.out HNO.out)
              have E2 := hid (cell_chg HC7.out E2.out HNO.out)
              have E3 := hid (cell_chg HC7.out E3.out HNO.out)
              have E4 := hid (cell_chg HC7.out E4.out HNO.out)
              have HOB := hid (HOB.out.chg HC7.out (own_ne_row HOB.out HTW.out (by decide)))
              have HE7 := hid hw7
              go_upto_region 16 with fail
              rw [← HE7.out]
              clear hw7 c25 f25 HTW HC7 i1 HE7 HL HM HG HNO
              have HTW := hid HM7.out.two
              have c25 := HTW.out.at 25 (by simp [TwoD.cells])
              simp only [TwoD.cells, List.getElem_cons_succ, List.getElem_cons_zero] at c25
              have hks : IntKind.i64.wrap ((k : Int) - 1) = ((k - 1 : Nat) : Int) := by have := HKB.out; rw [IntKind.wrap_i64]; omega
              have hq := stepD_cases HY.out
              simp only at hq
              rw [← HK.out] at hq
              by_cases q64 : k ≤ 64
              · have z64 : (k : Int) ≤ 64 := by omega
                obtain ⟨lb, hlb⟩ : ∃ lb, lb = lostB lost k := ⟨_, rfl⟩
                have zl : (bits .and .u64 ((lost : Int) / 2 ^ (k - 1)) 1 == 1) = lb := by rw [lost_bit lost k HLO.out, hlb]; unfold lostB; rw [decide_eq_true q64, Bool.true_and]
                rw [← hlb] at hq
                clear hlb
                cases lb
                case true =>
                  have HST2 := hid (show stepsD lost N (x, ex, pk + 1) (L.drop (i + 1)) = some (a1, ea1, pk2) from by
                    rcases hq with ⟨-, hy⟩ | ⟨hf, -⟩
                    · rw [← HK.out, ← hy]; exact HST.out
                    · cases hf)
                  clear hq q64
                  go_wp2_with fail
                  have hna := HLA.out
                  have hnb := HLB.out
                  go_roundw
                  case rel => exact ⟨i + 1, by omega, by go_num, hid ⟨_, _, _, _, HM7.out, HG7.out, by have := HK.out; have := HPK.out; omega, by rw [HK.out]; exact HST2.out⟩⟩
                  case measure => simp [intOf]; omega
                case false =>
                  have hq2 := Or.resolve_left hq (fun h => by cases h.1) |>.2
                  rw [HK.out] at hq2
                  clear hq q64
                  go_wp2_with fail
                  clear z64 zl
                  obtain ⟨hsx, hcase⟩ := hq2
                  have HSTX := hid hsx
                  have HPX := hid HM7.out.pa
                  have HCP := hid (HTW.out.at 0 (by simp [TwoD.cells]))
                  simp only [TwoD.cells, List.getElem_cons_succ, List.getElem_cons_zero] at HCP
                  obtain ⟨tb, htb⟩ : ∃ tb, tb = takesB x otag [(⟨ok, of, ob⟩ : Chk)] := ⟨_, rfl⟩
                  have HTB := hid htb
                  rw [← htb] at hcase
                  have HCASE := hid hcase
                  clear hcase hsx htb c25
                  refine wp_region_gr [Is (.pointer (some ⟨t, 0, none⟩)), Is (.pointer (some ⟨t, 0, none⟩)), Is (.pointer (some ⟨t, 0, none⟩)), Is (.pointer (some ⟨ga, 0, none⟩)), Is (.slice (some ⟨rb, 0, none⟩) nb cb), Is (.int .i64 (i : Int)), Is (.pointer (some ⟨rb, i * 5, none⟩)), Is (.pointer (some ⟨rb, i * 5 + 1, none⟩)), Is (.int .u32 (otag : Int)), Is (.slice (some ⟨rb, 0, none⟩) nb cb), Is (.int .i64 (i : Int)), Is (.pointer (some ⟨rb, i * 5, none⟩)), Is (.pointer (some ⟨rb, i * 5 + 2, none⟩)), Is (.agg #[.int .u8 (ok.toNat : Int), .int .u8 (of.toNat : Int), .slice ps nq cps]), ChsF [(⟨ok, of, ob⟩ : Chk)], PkF otag [(⟨ok, of, ob⟩ : Chk)], Is (.bool tb)] (by kernel_rfl) (by kernel_rfl) (by kernel_rfl) ?_ ?_ ?_
                  · simp only [StabAll, Is.gr, RdF.gr, OwnF.gr, AnyF.gr, ChsF.gr, PkF.gr, and_self]
                  · try (rename_i Kk hKk; clear hKk Kk)
                    simp only [AllOps, List.map_cons, List.map_nil, depsOf, List.filterMap_cons, List.filterMap_nil, Region.binds, depFacts, guardF, reduceIte, List.getD_eq_getElem?_getD, List.getElem?_cons_succ, List.getElem?_cons_zero, Option.getD_some, factAt, and_true]
                    refine ⟨?_, ?_, ?_, ?_, ?_, ?_, ?_, ?_, ?_, ?_, ?_, ?_, ?_, ?_, ?_, ?_, ?_⟩
                    all_goals intro ρ wv hρ hR hd
                    all_goals try simp only [Is] at hd
                    · exact opOk_move (.inl rfl) ⟨by simp only [Is]; (first | exact hρ.2 0 rfl | exact hd | exact hd.1 | exact hd.2 | simp [hd]), GrR.refl _⟩
                    · exact opOk_val (v := .pointer (some ⟨t, 0, none⟩)) (w' := wv) (by simp [execOp, go_sem, hρ.1.const, hρ.1.func, hd]) ⟨rfl, GrR.refl _⟩
                    · exact opOk_val (v := .pointer (some ⟨t, 0, none⟩)) (w' := wv) (by simp [execOp, go_sem, hρ.1.const, hρ.1.func, hd]) ⟨rfl, GrR.refl _⟩
                    · (have h0 := cell?_of_below hR HCP.out; exact opOk_val (v := .pointer (some ⟨ga, 0, none⟩)) (w' := wv) (by simp [execOp, go_sem, hd, h0]) ⟨rfl, GrR.refl _⟩)
                    · exact opOk_move (.inl rfl) ⟨by simp only [Is]; (first | exact hρ.2 5 rfl | exact hd | exact hd.1 | exact hd.2 | simp [hd]), GrR.refl _⟩
                    · exact opOk_move (.inl rfl) ⟨by simp only [Is]; (first | exact hρ.2 7 rfl | exact hd | exact hd.1 | exact hd.2 | simp [hd]), GrR.refl _⟩
                    · exact opOk_val (v := .pointer (some ⟨rb, i * 5, none⟩)) (w' := wv) (by simp [execOp, go_sem, hρ.1.const, hρ.1.func, hd, I012.out.1, I012.out.2.1, I012.out.2.2]) ⟨rfl, GrR.refl _⟩
                    · exact opOk_val (v := .pointer (some ⟨rb, i * 5 + 1, none⟩)) (w' := wv) (by simp [execOp, go_sem, hρ.1.const, hρ.1.func, hd]) ⟨rfl, GrR.refl _⟩
                    · (have h0 := cell?_of_below hR E1.out; exact opOk_val (v := .int .u32 (otag : Int)) (w' := wv) (by simp [execOp, go_sem, hd, h0]) ⟨rfl, GrR.refl _⟩)
                    · exact opOk_move (.inl rfl) ⟨by simp only [Is]; (first | exact hρ.2 5 rfl | exact hd | exact hd.1 | exact hd.2 | simp [hd]), GrR.refl _⟩
                    · exact opOk_move (.inl rfl) ⟨by simp only [Is]; (first | exact hρ.2 7 rfl | exact hd | exact hd.1 | exact hd.2 | simp [hd]), GrR.refl _⟩
                    · exact opOk_val (v := .pointer (some ⟨rb, i * 5, none⟩)) (w' := wv) (by simp [execOp, go_sem, hρ.1.const, hρ.1.func, hd, I012.out.1, I012.out.2.1, I012.out.2.2]) ⟨rfl, GrR.refl _⟩
                    · exact opOk_val (v := .pointer (some ⟨rb, i * 5 + 2, none⟩)) (w' := wv) (by simp [execOp, go_sem, hρ.1.const, hρ.1.func, hd]) ⟨rfl, GrR.refl _⟩
                    · exact opOk_loadMid rfl rb (i * 5 + 2) (by first | exact hρ.2 _ rfl | simp [hd]) [.int .u8 (ok.toNat : Int), .int .u8 (of.toNat : Int), .slice ps nq cps] _ (range3 (cell?_of_below hR E2.out) (cell?_of_below hR E3.out) (cell?_of_below hR E4.out)) Tryd.underlying47 rfl (by kernel_rfl) ⟨rfl, GrR.refl _⟩
                    · exact opOk_val (v := .slice (some ⟨wv.heap.size, 0, none⟩) 1 1) (w' := wv.alloc (.cells #[.int .u8 (ok.toNat : Int), .int .u8 (of.toNat : Int), .slice ps nq cps] 47 (0, 0))) (by simp [execOp, go_sem, hρ.1.const, hd]) ⟨chs_new wv 47 (⟨ok, of, ob⟩ : Chk) _ (HOB.out.mono hR).rd, (Below.refl _ _).alloc (Nat.le_refl _) _⟩
                    · (have h9 : ChsF [(⟨ok, of, ob⟩ : Chk)] (ρ (.tmp 157)) wv := (by first | exact hd.2 | exact hd.1); obtain ⟨p9, c9, hv9, -⟩ := id h9; exact opOk_val (v := .agg #[.int .u32 (otag : Int), .slice p9 1 c9]) (w' := wv) (by simp [execOp, go_sem, hρ.1.const, hd, hv9]) ⟨⟨_, rfl, hv9 ▸ h9⟩, GrR.refl _⟩)
                    · exact opOk_call hρ.1 rfl rfl Tryd.func15 (by kernel_rfl) rfl (by simp [hd, hρ.1.const, hρ.1.func]) ((takes_any w0.heap.size wv ga vx x (HPX.out.mono hR) HSTX.out otag [(⟨ok, of, ob⟩ : Chk)] (ρ (.tmp 158)) (show PkF otag [(⟨ok, of, ob⟩ : Chk)] (ρ (.tmp 158)) wv from by first | exact hd.2 | exact hd.1)).mono fun e w' ⟨h1, h2⟩ => ⟨_, h1, by rw [HTB.out]; rfl, h2⟩)
                  · intro vals wv hR hall
                    have i16 := hall 16 (by simp)
                    simp only [factAt, Is, List.getD_eq_getElem?_getD, List.getElem?_cons_succ, List.getElem?_cons_zero, Option.getD_some] at i16
                    clear hall
                    simp only [fillFrom, Act.put, i16, List.setIfInBounds_toArray, List.set_cons_zero, List.set_cons_succ]
                    rename_i Kk hKk
                    refine hKk _ _ ?_
                    clear hKk Kk
                    obtain ⟨w9, hw9⟩ : ∃ y, y = wv := ⟨_, rfl⟩
                    subst hw9
                    have HM9 := hid (HM7.out.mono hR)
                    have HG9 := hid (HG7.out.trans (hR.mono HG7.out.size))
                    have E0 := hid (cell?_of_below hR E0.out)
                    have E1 := hid (cell?_of_below hR E1.out)
                    have E2 := hid (cell?_of_below hR E2.out)
                    have E3 := hid (cell?_of_below hR E3.out)
                    have E4 := hid (cell?_of_below hR E4.out)
                    have HOB := hid (HOB.out.mono hR)
                    clear hR i16 HCP HPX HTW HM7 HG7
                    cases tb
                    case false =>
                      have HST2 := hid (show stepsD lost N (x, ex, pk + 1) (L.drop (i + 1)) = some (a1, ea1, pk2) from by
                        rcases HCASE.out with ⟨-, hy⟩ | ⟨hf, -⟩
                        · rw [← hy]; exact HST.out
                        · cases hf)
                      clear HCASE
                      go_wp2_with fail
                      have hna := HLA.out
                      have hnb := HLB.out
                      go_roundw
                      case rel => exact ⟨i + 1, by omega, by go_num, hid ⟨_, _, _, _, HM9.out, HG9.out, by have := HK.out; have := HPK.out; omega, by rw [HK.out]; exact HST2.out⟩⟩
                      case measure => simp [intOf]; omega
                    case true =>
                      obtain ⟨⟨x2, ev2⟩, hcd, hyy⟩ : ∃ r : AsD × EvD, chunkD x N opath (⟨ok, of, ob⟩ : Chk) = some r ∧ y = (r.1, noteE ex r.2, pk + 1) := by
                        rcases HCASE.out with ⟨hf, -⟩ | ⟨-, hr⟩
                        · cases hf
                        · exact hr
                      have HCD := hid hcd
                      have HST2 := hid (show stepsD lost N (x2, noteE ex ev2, pk + 1) (L.drop (i + 1)) = some (a1, ea1, pk2) from by rw [show (x2, noteE ex ev2, pk + 1) = y from hyy.symm]; exact HST.out)
                      clear HCASE hcd hyy
                      go_wp2_with fail
                      have HTW9 := hid HM9.out.two
                      have HCP := hid (HTW9.out.at 0 (by simp [TwoD.cells]))
                      have HCN := hid (HTW9.out.at 24 (by simp [TwoD.cells]))
                      simp only [TwoD.cells, List.getElem_cons_succ, List.getElem_cons_zero] at HCP HCN
                      rw [HNW3.out] at HCN
                      have HPX9 := hid HM9.out.pa
                      have HNT := hid (show ¬ Mine ga vx t from mine_not HPX9.out HTW9.out (by decide) (by decide))
                      have HNR := hid (show ¬ Mine ga vx rb from by
                        obtain ⟨m, hm⟩ := AsAt.row HPX9.out
                        rintro (e | e)
                        · exact HM9.out.lb.ne hm (by decide) rb rfl e
                        · exact HM9.out.xba rb rfl e)
                      have HJ0 := hid (show (JJ (fun wx => As w0.heap.size wx ga vx x ∧ Own wx w0.heap.size 5 (.slice ps nq cps) ob ∧ Below w0.heap.size w0 wx) (fun wx => ∃ vx', As w0.heap.size wx ga vx' x2 ∧ RowTo w9 vx vx')) 0 w9 from ⟨HPX9.out, HOB.out, HG9.out⟩)
                      refine wp_region_chg 25 (Mine ga vx) [23] (JJ (fun wx => As w0.heap.size wx ga vx x ∧ Own wx w0.heap.size 5 (.slice ps nq cps) ob ∧ Below w0.heap.size w0 wx) (fun wx => ∃ vx', As w0.heap.size wx ga vx' x2 ∧ RowTo w9 vx vx')) [Is (.pointer (some ⟨t, 0, none⟩)), Is (.pointer (some ⟨t, 0, none⟩)), Is (.pointer (some ⟨t, 0, none⟩)), Is (.pointer (some ⟨t, 4, none⟩)), Is (ex.val), Is (.pointer (some ⟨t, 0, none⟩)), Is (.pointer (some ⟨t, 0, none⟩)), Is (.pointer (some ⟨t, 0, none⟩)), Is (.pointer (some ⟨ga, 0, none⟩)), Is (.pointer (some ⟨t, 0, none⟩)), Is (.pointer (some ⟨t, 0, none⟩)), Is (.pointer (some ⟨t, 24, none⟩)), Is (.int .i64 (N : Int)), Is (.slice (some ⟨rb, 0, none⟩) nb cb), Is (.int .i64 (i : Int)), Is (.pointer (some ⟨rb, i * 5, none⟩)), Is (.pointer (some ⟨rb, i * 5, none⟩)), Is (.int .i64 (opath : Int)), Is (.slice (some ⟨rb, 0, none⟩) nb cb), Is (.int .i64 (i : Int)), Is (.pointer (some ⟨rb, i * 5, none⟩)), Is (.pointer (some ⟨rb, i * 5 + 2, none⟩)), Is (.agg #[.int .u8 (ok.toNat : Int), .int .u8 (of.toNat : Int), .slice ps nq cps]), Is (ev2.val), Is ((noteE ex ev2).val)] (by kernel_rfl) (by kernel_rfl) (by kernel_rfl) (by kernel_rfl) (by kernel_rfl) (by kernel_rfl) (by kernel_rfl) (HJ0.out) (JJ.st (fun _ _ h k => ⟨AsAt.mono h.1 k, h.2.1.mono k, h.2.2.trans (k.mono h.2.2.size)⟩) (fun _ _ ⟨v, h1, h2⟩ k => ⟨v, AsAt.mono h1 k, h2⟩)) ?_ ?_ ?_
                      · simp only [StabAll, Is.ch, AnyF.ch, and_self]
                      · try (rename_i Kk hKk; clear hKk Kk)
                        simp only [List.take_succ_cons, List.take_zero, AllOpsC, wrAt, Nat.reduceAdd, Nat.reduceEqDiff, Option.map_some, Option.map_none, List.map_cons, List.map_nil, depsOf, List.filterMap_cons, List.filterMap_nil, Region.binds, depFacts, guardF, reduceIte, List.getD_eq_getElem?_getD, List.getElem?_cons_succ, List.getElem?_cons_zero, Option.getD_some, factAt, and_true]
                        refine ⟨?_, ?_, ?_, ?_, ?_, ?_, ?_, ?_, ?_, ?_, ?_, ?_, ?_, ?_, ?_, ?_, ?_, ?_, ?_, ?_, ?_, ?_, ?_, ?_, ?_⟩
                        all_goals intro ρ wv hρ hR hd
                        all_goals try simp only [Is] at hd
                        · exact opOk_move (.inl rfl) ⟨by simp only [Is]; (first | exact hρ.2 0 rfl | exact hd | exact hd.1 | exact hd.2 | simp [hd]), GrR.refl _⟩
                        · exact opOk_move (.inl rfl) ⟨by simp only [Is]; (first | exact hρ.2 0 rfl | exact hd | exact hd.1 | exact hd.2 | simp [hd]), GrR.refl _⟩
                        · exact opOk_val (v := .pointer (some ⟨t, 0, none⟩)) (w' := wv) (by simp [execOp, go_sem, hρ.1.const, hρ.1.func, hd]) ⟨rfl, GrR.refl _⟩
                        · exact opOk_val (v := .pointer (some ⟨t, 4, none⟩)) (w' := wv) (by simp [execOp, go_sem, hρ.1.const, hρ.1.func, hd]) ⟨rfl, GrR.refl _⟩
                        · exact opOk_loadMid rfl t 4 (by first | exact hρ.2 _ rfl | simp [hd]) [.bool ex.began, .bool ex.ended, .bool ex.clean, .int .u32 (ex.peer.tag : Int), .int .u32 (ex.peer.rwnd : Int), .int .u16 (ex.peer.out : Int), .int .u16 (ex.peer.in_ : Int), .int .u32 (ex.peer.tsn : Int), .slice none 0 0, .int .u32 (ex.tsn : Int)] _ ((HTW9.out.chg hR HNT.out).range 4 _ _ rfl) Tryd.underlying33 rfl (by kernel_rfl) ⟨rfl, GrR.refl _⟩
                        · exact opOk_move (.inl rfl) ⟨by simp only [Is]; (first | exact hρ.2 0 rfl | exact hd | exact hd.1 | exact hd.2 | simp [hd]), GrR.refl _⟩
                        · exact opOk_val (v := .pointer (some ⟨t, 0, none⟩)) (w' := wv) (by simp [execOp, go_sem, hρ.1.const, hρ.1.func, hd]) ⟨rfl, GrR.refl _⟩
                        · exact opOk_val (v := .pointer (some ⟨t, 0, none⟩)) (w' := wv) (by simp [execOp, go_sem, hρ.1.const, hρ.1.func, hd]) ⟨rfl, GrR.refl _⟩
                        · (have h0 := cell_chg hR HCP.out (HNT.out); exact opOk_val (v := .pointer (some ⟨ga, 0, none⟩)) (w' := wv) (by simp [execOp, go_sem, hd, h0]) ⟨rfl, GrR.refl _⟩)
                        · exact opOk_move (.inl rfl) ⟨by simp only [Is]; (first | exact hρ.2 0 rfl | exact hd | exact hd.1 | exact hd.2 | simp [hd]), GrR.refl _⟩
                        · exact opOk_val (v := .pointer (some ⟨t, 0, none⟩)) (w' := wv) (by simp [execOp, go_sem, hρ.1.const, hρ.1.func, hd]) ⟨rfl, GrR.refl _⟩
                        · exact opOk_val (v := .pointer (some ⟨t, 24, none⟩)) (w' := wv) (by simp [execOp, go_sem, hρ.1.const, hρ.1.func, hd]) ⟨rfl, GrR.refl _⟩
                        · (have h0 := cell_chg hR HCN.out (HNT.out); exact opOk_val (v := .int .i64 (N : Int)) (w' := wv) (by simp [execOp, go_sem, hd, h0]) ⟨rfl, GrR.refl _⟩)
                        · exact opOk_move (.inl rfl) ⟨by simp only [Is]; (first | exact hρ.2 5 rfl | exact hd | exact hd.1 | exact hd.2 | simp [hd]), GrR.refl _⟩
                        · exact opOk_move (.inl rfl) ⟨by simp only [Is]; (first | exact hρ.2 7 rfl | exact hd | exact hd.1 | exact hd.2 | simp [hd]), GrR.refl _⟩
                        · exact opOk_val (v := .pointer (some ⟨rb, i * 5, none⟩)) (w' := wv) (by simp [execOp, go_sem, hρ.1.const, hρ.1.func, hd, I012.out.1, I012.out.2.1, I012.out.2.2]) ⟨rfl, GrR.refl _⟩
                        · exact opOk_val (v := .pointer (some ⟨rb, i * 5, none⟩)) (w' := wv) (by simp [execOp, go_sem, hρ.1.const, hρ.1.func, hd]) ⟨rfl, GrR.refl _⟩
                        · (have h0 := cell_chg hR E0.out (HNR.out); exact opOk_val (v := .int .i64 (opath : Int)) (w' := wv) (by simp [execOp, go_sem, hd, h0]) ⟨rfl, GrR.refl _⟩)
                        · exact opOk_move (.inl rfl) ⟨by simp only [Is]; (first | exact hρ.2 5 rfl | exact hd | exact hd.1 | exact hd.2 | simp [hd]), GrR.refl _⟩
                        · exact opOk_move (.inl rfl) ⟨by simp only [Is]; (first | exact hρ.2 7 rfl | exact hd | exact hd.1 | exact hd.2 | simp [hd]), GrR.refl _⟩
                        · exact opOk_val (v := .pointer (some ⟨rb, i * 5, none⟩)) (w' := wv) (by simp [execOp, go_sem, hρ.1.const, hρ.1.func, hd, I012.out.1, I012.out.2.1, I012.out.2.2]) ⟨rfl, GrR.refl _⟩
                        · exact opOk_val (v := .pointer (some ⟨rb, i * 5 + 2, none⟩)) (w' := wv) (by simp [execOp, go_sem, hρ.1.const, hρ.1.func, hd]) ⟨rfl, GrR.refl _⟩
                        · exact opOk_loadMid rfl rb (i * 5 + 2) (by first | exact hρ.2 _ rfl | simp [hd]) [.int .u8 (ok.toNat : Int), .int .u8 (of.toNat : Int), .slice ps nq cps] _ (range3 (cell_chg hR E2.out HNR.out) (cell_chg hR E3.out HNR.out) (cell_chg hR E4.out HNR.out)) Tryd.underlying47 rfl (by kernel_rfl) ⟨rfl, GrR.refl _⟩
                        · (first | refine ⟨rfl, fun hJ => ?_⟩ | refine ⟨trivial, fun hJ => ?_⟩ | intro hJ); exact opOk_call hρ.1 rfl rfl Tryd.func27 (by kernel_rfl) rfl (by simp [hd, hρ.1.const, hρ.1.func]) ((chunkD_any w0 HLD.out wv ga vx x hJ.1 hJ.2.2 N HNOW.out opath (⟨ok, of, ob⟩ : Chk) (.slice ps nq cps) hJ.2.1 x2 ev2 HCD.out).mono fun e w' ⟨h1, vr', k1, k2, k3⟩ => ⟨_, h1, rfl, k3, vr', k1, fun j hj => (k2 j hj).imp id (fun h => Nat.le_trans hR.size h)⟩)
                        · exact opOk_call hρ.1 rfl rfl Tryd.func29 (by kernel_rfl) rfl (by simp [hd, hρ.1.const, hρ.1.func]) ((note_any ex ev2 wv).mono fun e w' ⟨h1, h2⟩ => ⟨_, h1, rfl, h2⟩)
                      · intro vals wv hR hJ hall
                        have i0 := hall 0 (by omega)
                        have i24 := hall 24 (by omega)
                        simp only [factAt, Is, List.getD_eq_getElem?_getD, List.getElem?_cons_succ, List.getElem?_cons_zero, Option.getD_some] at i0 i24
                        clear hall
                        obtain ⟨vz, hy1, hy2⟩ : ∃ vx', As w0.heap.size wv ga vx' x2 ∧ RowTo w9 vx vx' := hJ
                        obtain ⟨wa, hwa⟩ : ∃ y, y = wv := ⟨_, rfl⟩
                        subst hwa
                        obtain ⟨en, hen⟩ : ∃ en, en = noteE ex ev2 := ⟨_, rfl⟩
                        obtain ⟨vy, hma, -⟩ := (MidAt.didA HM9.out (by decide) (by decide) (by decide) (by decide) (by decide) ⟨vz, hy1, hy2, hR⟩)
                        have HMA := hid (show Mid w0.heap.size wa t ga gb vy vrb1 (.slice pa na ca) (.slice (some ⟨rb, 0, none⟩) nb cb) ({ T4 with a := x2, ea := ex, pk := k }) A L from hma)
                        have HGA := hid (HG9.out.trans (hR.below HG9.out.size HPX9.out.ge))
                        have HTWA := hid HMA.out.two
                        rw [← hen] at i24
                        rw [show en.val = .agg #[.bool en.began, .bool en.ended, .bool en.clean, .int .u32 (en.peer.tag : Int), .int .u32 (en.peer.rwnd : Int), .int .u16 (en.peer.out : Int), .int .u16 (en.peer.in_ : Int), .int .u32 (en.peer.tsn : Int), .slice none 0 0, .int .u32 (en.tsn : Int)] from rfl] at i24
                        have HEN := hid hen
                        clear hR hy1 hy2 hma hen HCP HCN HNT HNR HJ0 HTW9 HPX9
                        simp only [List.take_succ_cons, List.take_zero, List.drop_succ_cons, List.drop_zero, fillFrom, Act.put, i0, i24, List.setIfInBounds_toArray, List.set_cons_zero, List.set_cons_succ, Nat.zero_add, Nat.reduceAdd]
                        have c4 := HTWA.out.at 4 (by simp [TwoD.cells])
                        have c5 := HTWA.out.at 5 (by simp [TwoD.cells])
                        have c6 := HTWA.out.at 6 (by simp [TwoD.cells])
                        have c7 := HTWA.out.at 7 (by simp [TwoD.cells])
                        have c8 := HTWA.out.at 8 (by simp [TwoD.cells])
                        have c9 := HTWA.out.at 9 (by simp [TwoD.cells])
                        have c10 := HTWA.out.at 10 (by simp [TwoD.cells])
                        have c11 := HTWA.out.at 11 (by simp [TwoD.cells])
                        have c12 := HTWA.out.at 12 (by simp [TwoD.cells])
                        have c13 := HTWA.out.at 13 (by simp [TwoD.cells])
                        simp only [TwoD.cells, List.getElem_cons_succ, List.getElem_cons_zero] at c4 c5 c6 c7 c8 c9 c10 c11 c12 c13
                        have f4 := HTWA.out.frozen 4
                        have f5 := HTWA.out.frozen 5
                        have f6 := HTWA.out.frozen 6
                        have f7 := HTWA.out.frozen 7
                        have f8 := HTWA.out.frozen 8
                        have f9 := HTWA.out.frozen 9
                        have f10 := HTWA.out.frozen 10
                        have f11 := HTWA.out.frozen 11
                        have f12 := HTWA.out.frozen 12
                        have f13 := HTWA.out.frozen 13
                        obtain ⟨wb, hwb⟩ : ∃ y, y = ((((((((((wa.setCell ⟨t, 4, none⟩ (.bool en.began)).setCell ⟨t, 5, none⟩ (.bool en.ended)).setCell ⟨t, 6, none⟩ (.bool en.clean)).setCell ⟨t, 7, none⟩ (.int .u32 (en.peer.tag : Int))).setCell ⟨t, 8, none⟩ (.int .u32 (en.peer.rwnd : Int))).setCell ⟨t, 9, none⟩ (.int .u16 (en.peer.out : Int))).setCell ⟨t, 10, none⟩ (.int .u16 (en.peer.in_ : Int))).setCell ⟨t, 11, none⟩ (.int .u32 (en.peer.tsn : Int))).setCell ⟨t, 12, none⟩ (.slice none 0 0)).setCell ⟨t, 13, none⟩ (.int .u32 (en.tsn : Int))) := ⟨_, rfl⟩
                        have HCB := hid (show Chg (fun k => k = t) wa wb by rw [hwb]; exact (((((((((((Chg.refl (fun k => k = t) wa).set ⟨t, 4, none⟩ (.bool en.began) (.inl rfl)).set ⟨t, 5, none⟩ (.bool en.ended) (.inl rfl)).set ⟨t, 6, none⟩ (.bool en.clean) (.inl rfl)).set ⟨t, 7, none⟩ (.int .u32 (en.peer.tag : Int)) (.inl rfl)).set ⟨t, 8, none⟩ (.int .u32 (en.peer.rwnd : Int)) (.inl rfl)).set ⟨t, 9, none⟩ (.int .u16 (en.peer.out : Int)) (.inl rfl)).set ⟨t, 10, none⟩ (.int .u16 (en.peer.in_ : Int)) (.inl rfl)).set ⟨t, 11, none⟩ (.int .u32 (en.peer.tsn : Int)) (.inl rfl)).set ⟨t, 12, none⟩ (.slice none 0 0) (.inl rfl)).set ⟨t, 13, none⟩ (.int .u32 (en.tsn : Int)) (.inl rfl)))
                        have HMB := hid (show Mid w0.heap.size wb t ga gb vy vrb1 (.slice pa na ca) (.slice (some ⟨rb, 0, none⟩) nb cb) ({ T4 with a := x2, ea := en, pk := k }) A L from HMA.out.set (by decide) (by decide) (by decide) HCB.out (by rw [hwb]; exact ((((((((((HTWA.out.store 4 (.bool en.began)).store 5 (.bool en.ended)).store 6 (.bool en.clean)).store 7 (.int .u32 (en.peer.tag : Int))).store 8 (.int .u32 (en.peer.rwnd : Int))).store 9 (.int .u16 (en.peer.out : Int))).store 10 (.int .u16 (en.peer.in_ : Int))).store 11 (.int .u32 (en.peer.tsn : Int))).store 12 (.slice none 0 0)).store 13 (.int .u32 (en.tsn : Int)))) rfl rfl)
                        have HGB := hid (HGA.out.trans (HCB.out.below HGA.out.size (fun k e => e ▸ HMA.out.tB)))
                        have HEB := hid hwb
                        clear i0 i24
                        go_wp2_with fail
                        clear hwb c4 f4 c5 f5 c6 f6 c7 f7 c8 f8 c9 f9 c10 f10 c11 f11 c12 f12 c13 f13
                        have hna := HLA.out
                        have hnb := HLB.out
                        go_roundw
                        case rel =>
                          rw [← HEB.out]
                          exact ⟨i + 1, by omega, by go_num, hid ⟨_, _, _, _, HMB.out, HGB.out, by have := HK.out; have := HPK.out; omega, by rw [HEN.out, HK.out]; exact HST2.out⟩⟩
                        case measure => simp [intOf]; omega
              · have z64 : ¬ (k : Int) ≤ 64 := by omega
                have hlb : lostB lost k = false := by unfold lostB; rw [decide_eq_false q64, Bool.false_and]
                rw [hlb] at hq
                have hq2 := Or.resolve_left hq (fun h => by cases h.1) |>.2
                rw [HK.out] at hq2
                clear hq q64 hlb
                go_wp2_with fail
                clear z64
                obtain ⟨hsx, hcase⟩ := hq2
                have HSTX := hid hsx
                have HPX := hid HM7.out.pa
                have HCP := hid (HTW.out.at 0 (by simp [TwoD.cells]))
                simp only [TwoD.cells, List.getElem_cons_succ, List.getElem_cons_zero] at HCP
                obtain ⟨tb, htb⟩ : ∃ tb, tb = takesB x otag [(⟨ok, of, ob⟩ : Chk)] := ⟨_, rfl⟩
                have HTB := hid htb
                rw [← htb] at hcase
                have HCASE := hid hcase
                clear hcase hsx htb c25
                refine wp_region_gr [Is (.pointer (some ⟨t, 0, none⟩)), Is (.pointer (some ⟨t, 0, none⟩)), Is (.pointer (some ⟨t, 0, none⟩)), Is (.pointer (some ⟨ga, 0, none⟩)), Is (.slice (some ⟨rb, 0, none⟩) nb cb), Is (.int .i64 (i : Int)), Is (.pointer (some ⟨rb, i * 5, none⟩)), Is (.pointer (some ⟨rb, i * 5 + 1, none⟩)), Is (.int .u32 (otag : Int)), Is (.slice (some ⟨rb, 0, none⟩) nb cb), Is (.int .i64 (i : Int)), Is (.pointer (some ⟨rb, i * 5, none⟩)), Is (.pointer (some ⟨rb, i * 5 + 2, none⟩)), Is (.agg #[.int .u8 (ok.toNat : Int), .int .u8 (of.toNat : Int), .slice ps nq cps]), ChsF [(⟨ok, of, ob⟩ : Chk)], PkF otag [(⟨ok, of, ob⟩ : Chk)], Is (.bool tb)] (by kernel_rfl) (by kernel_rfl) (by kernel_rfl) ?_ ?_ ?_
                · simp only [StabAll, Is.gr, RdF.gr, OwnF.gr, AnyF.gr, ChsF.gr, PkF.gr, and_self]
                · try (rename_i Kk hKk; clear hKk Kk)
                  simp only [AllOps, List.map_cons, List.map_nil, depsOf, List.filterMap_cons, List.filterMap_nil, Region.binds, depFacts, guardF, reduceIte, List.getD_eq_getElem?_getD, List.getElem?_cons_succ, List.getElem?_cons_zero, Option.getD_some, factAt, and_true]
                  refine ⟨?_, ?_, ?_, ?_, ?_, ?_, ?_, ?_, ?_, ?_, ?_, ?_, ?_, ?_, ?_, ?_, ?_⟩
                  all_goals intro ρ wv hρ hR hd
                  all_goals try simp only [Is] at hd
                  · exact opOk_move (.inl rfl) ⟨by simp only [Is]; (first | exact hρ.2 0 rfl | exact hd | exact hd.1 | exact hd.2 | simp [hd]), GrR.refl _⟩
                  · exact opOk_val (v := .pointer (some ⟨t, 0, none⟩)) (w' := wv) (by simp [execOp, go_sem, hρ.1.const, hρ.1.func, hd]) ⟨rfl, GrR.refl _⟩
                  · exact opOk_val (v := .pointer (some ⟨t, 0, none⟩)) (w' := wv) (by simp [execOp, go_sem, hρ.1.const, hρ.1.func, hd]) ⟨rfl, GrR.refl _⟩
                  · (have h0 := cell?_of_below hR HCP.out; exact opOk_val (v := .pointer (some ⟨ga, 0, none⟩)) (w' := wv) (by simp [execOp, go_sem, hd, h0]) ⟨rfl, GrR.refl _⟩)
                  · exact opOk_move (.inl rfl) ⟨by simp only [Is]; (first | exact hρ.2 5 rfl | exact hd | exact hd.1 | exact hd.2 | simp [hd]), GrR.refl _⟩
                  · exact opOk_move (.inl rfl) ⟨by simp only [Is]; (first | exact hρ.2 7 rfl | exact hd | exact hd.1 | exact hd.2 | simp [hd]), GrR.refl _⟩
                  · exact opOk_val (v := .pointer (some ⟨rb, i * 5, none⟩)) (w' := wv) (by simp [execOp, go_sem, hρ.1.const, hρ.1.func, hd, I012.out.1, I012.out.2.1, I012.out.2.2]) ⟨rfl, GrR.refl _⟩
                  · exact opOk_val (v := .pointer (some ⟨rb, i * 5 + 1, none⟩)) (w' := wv) (by simp [execOp, go_sem, hρ.1.const, hρ.1.func, hd]) ⟨rfl, GrR.refl _⟩
                  · (have h0 := cell?_of_below hR E1.out; exact opOk_val (v := .int .u32 (otag : Int)) (w' := wv) (by simp [execOp, go_sem, hd, h0]) ⟨rfl, GrR.refl _⟩)
                  · exact opOk_move (.inl rfl) ⟨by simp only [Is]; (first | exact hρ.2 5 rfl | exact hd | exact hd.1 | exact hd.2 | simp [hd]), GrR.refl _⟩
                  · exact opOk_move (.inl rfl) ⟨by simp only [Is]; (first | exact hρ.2 7 rfl | exact hd | exact hd.1 | exact hd.2 | simp [hd]), GrR.refl _⟩
                  · exact opOk_val (v := .pointer (some ⟨rb, i * 5, none⟩)) (w' := wv) (by simp [execOp, go_sem, hρ.1.const, hρ.1.func, hd, I012.out.1, I012.out.2.1, I012.out.2.2]) ⟨rfl, GrR.refl _⟩
                  · exact opOk_val (v := .pointer (some ⟨rb, i * 5 + 2, none⟩)) (w' := wv) (by simp [execOp, go_sem, hρ.1.const, hρ.1.func, hd]) ⟨rfl, GrR.refl _⟩
                  · exact opOk_loadMid rfl rb (i * 5 + 2) (by first | exact hρ.2 _ rfl | simp [hd]) [.int .u8 (ok.toNat : Int), .int .u8 (of.toNat : Int), .slice ps nq cps] _ (range3 (cell?_of_below hR E2.out) (cell?_of_below hR E3.out) (cell?_of_below hR E4.out)) Tryd.underlying47 rfl (by kernel_rfl) ⟨rfl, GrR.refl _⟩
                  · exact opOk_val (v := .slice (some ⟨wv.heap.size, 0, none⟩) 1 1) (w' := wv.alloc (.cells #[.int .u8 (ok.toNat : Int), .int .u8 (of.toNat : Int), .slice ps nq cps] 47 (0, 0))) (by simp [execOp, go_sem, hρ.1.const, hd]) ⟨chs_new wv 47 (⟨ok, of, ob⟩ : Chk) _ (HOB.out.mono hR).rd, (Below.refl _ _).alloc (Nat.le_refl _) _⟩
                  · (have h9 : ChsF [(⟨ok, of, ob⟩ : Chk)] (ρ (.tmp 157)) wv := (by first | exact hd.2 | exact hd.1); obtain ⟨p9, c9, hv9, -⟩ := id h9; exact opOk_val (v := .agg #[.int .u32 (otag : Int), .slice p9 1 c9]) (w' := wv) (by simp [execOp, go_sem, hρ.1.const, hd, hv9]) ⟨⟨_, rfl, hv9 ▸ h9⟩, GrR.refl _⟩)
                  · exact opOk_call hρ.1 rfl rfl Tryd.func15 (by kernel_rfl) rfl (by simp [hd, hρ.1.const, hρ.1.func]) ((takes_any w0.heap.size wv ga vx x (HPX.out.mono hR) HSTX.out otag [(⟨ok, of, ob⟩ : Chk)] (ρ (.tmp 158)) (show PkF otag [(⟨ok, of, ob⟩ : Chk)] (ρ (.tmp 158)) wv from by first | exact hd.2 | exact hd.1)).mono fun e w' ⟨h1, h2⟩ => ⟨_, h1, by rw [HTB.out]; rfl, h2⟩)
                · intro vals wv hR hall
                  have i16 := hall 16 (by simp)
                  simp only [factAt, Is, List.getD_eq_getElem?_getD, List.getElem?_cons_succ, List.getElem?_cons_zero, Option.getD_some] at i16
                  clear hall
                  simp only [fillFrom, Act.put, i16, List.setIfInBounds_toArray, List.set_cons_zero, List.set_cons_succ]
                  rename_i Kk hKk
                  refine hKk _ _ ?_
                  clear hKk Kk
                  obtain ⟨w9, hw9⟩ : ∃ y, y = wv := ⟨_, rfl⟩
                  subst hw9
                  have HM9 := hid (HM7.out.mono hR)
                  have HG9 := hid (HG7.out.trans (hR.mono HG7.out.size))
                  have E0 := hid (cell?_of_below hR E0.out)
                  have E1 := hid (cell?_of_below hR E1.out)
                  have E2 := hid (cell?_of_below hR E2.out)
                  have E3 := hid (cell?_of_below hR E3.out)
                  have E4 := hid (cell?_of_below hR E4.out)
                  have HOB := hid (HOB.out.mono hR)
                  clear hR i16 HCP HPX HTW HM7 HG7
                  cases tb
                  case false =>
                    have HST2 := hid (show stepsD lost N (x, ex, pk + 1) (L.drop (i + 1)) = some (a1, ea1, pk2) from by
                      rcases HCASE.out with ⟨-, hy⟩ | ⟨hf, -⟩
                      · rw [← hy]; exact HST.out
                      · cases hf)
                    clear HCASE
                    go_wp2_with fail
                    have hna := HLA.out
                    have hnb := HLB.out
                    go_roundw
                    case rel => exact ⟨i + 1, by omega, by go_num, hid ⟨_, _, _, _, HM9.out, HG9.out, by have := HK.out; have := HPK.out; omega, by rw [HK.out]; exact HST2.out⟩⟩
                    case measure => simp [intOf]; omega
                  case true =>
                    obtain ⟨⟨x2, ev2⟩, hcd, hyy⟩ : ∃ r : AsD × EvD, chunkD x N opath (⟨ok, of, ob⟩ : Chk) = some r ∧ y = (r.1, noteE ex r.2, pk + 1) := by
                      rcases HCASE.out with ⟨hf, -⟩ | ⟨-, hr⟩
                      · cases hf
                      · exact hr
                    have HCD := hid hcd
                    have HST2 := hid (show stepsD lost N (x2, noteE ex ev2, pk + 1) (L.drop (i + 1)) = some (a1, ea1, pk2) from by rw [show (x2, noteE ex ev2, pk + 1) = y from hyy.symm]; exact HST.out)
                    clear HCASE hcd hyy
                    go_wp2_with fail
                    have HTW9 := hid HM9.out.two
                    have HCP := hid (HTW9.out.at 0 (by simp [TwoD.cells]))
                    have HCN := hid (HTW9.out.at 24 (by simp [TwoD.cells]))
                    simp only [TwoD.cells, List.getElem_cons_succ, List.getElem_cons_zero] at HCP HCN
                    rw [HNW3.out] at HCN
                    have HPX9 := hid HM9.out.pa
                    have HNT := hid (show ¬ Mine ga vx t from mine_not HPX9.out HTW9.out (by decide) (by decide))
                    have HNR := hid (show ¬ Mine ga vx rb from by
                      obtain ⟨m, hm⟩ := AsAt.row HPX9.out
                      rintro (e | e)
                      · exact HM9.out.lb.ne hm (by decide) rb rfl e
                      · exact HM9.out.xba rb rfl e)
                    have HJ0 := hid (show (JJ (fun wx => As w0.heap.size wx ga vx x ∧ Own wx w0.heap.size 5 (.slice ps nq cps) ob ∧ Below w0.heap.size w0 wx) (fun wx => ∃ vx', As w0.heap.size wx ga vx' x2 ∧ RowTo w9 vx vx')) 0 w9 from ⟨HPX9.out, HOB.out, HG9.out⟩)
                    refine wp_region_chg 25 (Mine ga vx) [23] (JJ (fun wx => As w0.heap.size wx ga vx x ∧ Own wx w0.heap.size 5 (.slice ps nq cps) ob ∧ Below w0.heap.size w0 wx) (fun wx => ∃ vx', As w0.heap.size wx ga vx' x2 ∧ RowTo w9 vx vx')) [Is (.pointer (some ⟨t, 0, none⟩)), Is (.pointer (some ⟨t, 0, none⟩)), Is (.pointer (some ⟨t, 0, none⟩)), Is (.pointer (some ⟨t, 4, none⟩)), Is (ex.val), Is (.pointer (some ⟨t, 0, none⟩)), Is (.pointer (some ⟨t, 0, none⟩)), Is (.pointer (some ⟨t, 0, none⟩)), Is (.pointer (some ⟨ga, 0, none⟩)), Is (.pointer (some ⟨t, 0, none⟩)), Is (.pointer (some ⟨t, 0, none⟩)), Is (.pointer (some ⟨t, 24, none⟩)), Is (.int .i64 (N : Int)), Is (.slice (some ⟨rb, 0, none⟩) nb cb), Is (.int .i64 (i : Int)), Is (.pointer (some ⟨rb, i * 5, none⟩)), Is (.pointer (some ⟨rb, i * 5, none⟩)), Is (.int .i64 (opath : Int)), Is (.slice (some ⟨rb, 0, none⟩) nb cb), Is (.int .i64 (i : Int)), Is (.pointer (some ⟨rb, i * 5, none⟩)), Is (.pointer (some ⟨rb, i * 5 + 2, none⟩)), Is (.agg #[.int .u8 (ok.toNat : Int), .int .u8 (of.toNat : Int), .slice ps nq cps]), Is (ev2.val), Is ((noteE ex ev2).val)] (by kernel_rfl) (by kernel_rfl) (by kernel_rfl) (by kernel_rfl) (by kernel_rfl) (by kernel_rfl) (by kernel_rfl) (HJ0.out) (JJ.st (fun _ _ h k => ⟨AsAt.mono h.1 k, h.2.1.mono k, h.2.2.trans (k.mono h.2.2.size)⟩) (fun _ _ ⟨v, h1, h2⟩ k => ⟨v, AsAt.mono h1 k, h2⟩)) ?_ ?_ ?_
                    · simp only [StabAll, Is.ch, AnyF.ch, and_self]
                    · try (rename_i Kk hKk; clear hKk Kk)
                      simp only [List.take_succ_cons, List.take_zero, AllOpsC, wrAt, Nat.reduceAdd, Nat.reduceEqDiff, Option.map_some, Option.map_none, List.map_cons, List.map_nil, depsOf, List.filterMap_cons, List.filterMap_nil, Region.binds, depFacts, guardF, reduceIte, List.getD_eq_getElem?_getD, List.getElem?_cons_succ, List.getElem?_cons_zero, Option.getD_some, factAt, and_true]
                      refine ⟨?_, ?_, ?_, ?_, ?_, ?_, ?_, ?_, ?_, ?_, ?_, ?_, ?_, ?_, ?_, ?_, ?_, ?_, ?_, ?_, ?_, ?_, ?_, ?_, ?_⟩
                      all_goals intro ρ wv hρ hR hd
                      all_goals try simp only [Is] at hd
                      · exact opOk_move (.inl rfl) ⟨by simp only [Is]; (first | exact hρ.2 0 rfl | exact hd | exact hd.1 | exact hd.2 | simp [hd]), GrR.refl _⟩
                      · exact opOk_move (.inl rfl) ⟨by simp only [Is]; (first | exact hρ.2 0 rfl | exact hd | exact hd.1 | exact hd.2 | simp [hd]), GrR.refl _⟩
                      · exact opOk_val (v := .pointer (some ⟨t, 0, none⟩)) (w' := wv) (by simp [execOp, go_sem, hρ.1.const, hρ.1.func, hd]) ⟨rfl, GrR.refl _⟩
                      · exact opOk_val (v := .pointer (some ⟨t, 4, none⟩)) (w' := wv) (by simp [execOp, go_sem, hρ.1.const, hρ.1.func, hd]) ⟨rfl, GrR.refl _⟩
                      · exact opOk_loadMid rfl t 4 (by first | exact hρ.2 _ rfl | simp [hd]) [.bool ex.began, .bool ex.ended, .bool ex.clean, .int .u32 (ex.peer.tag : Int), .int .u32 (ex.peer.rwnd : Int), .int .u16 (ex.peer.out : Int), .int .u16 (ex.peer.in_ : Int), .int .u32 (ex.peer.tsn : Int), .slice none 0 0, .int .u32 (ex.tsn : Int)] _ ((HTW9.out.chg hR HNT.out).range 4 _ _ rfl) Tryd.underlying33 rfl (by kernel_rfl) ⟨rfl, GrR.refl _⟩
                      · exact opOk_move (.inl rfl) ⟨by simp only [Is]; (first | exact hρ.2 0 rfl | exact hd | exact hd.1 | exact hd.2 | simp [hd]), GrR.refl _⟩
                      · exact opOk_val (v := .pointer (some ⟨t, 0, none⟩)) (w' := wv) (by simp [execOp, go_sem, hρ.1.const, hρ.1.func, hd]) ⟨rfl, GrR.refl _⟩
                      · exact opOk_val (v := .pointer (some ⟨t, 0, none⟩)) (w' := wv) (by simp [execOp, go_sem, hρ.1.const, hρ.1.func, hd]) ⟨rfl, GrR.refl _⟩
                      · (have h0 := cell_chg hR HCP.out (HNT.out); exact opOk_val (v := .pointer (some ⟨ga, 0, none⟩)) (w' := wv) (by simp [execOp, go_sem, hd, h0]) ⟨rfl, GrR.refl _⟩)
                      · exact opOk_move (.inl rfl) ⟨by simp only [Is]; (first | exact hρ.2 0 rfl | exact hd | exact hd.1 | exact hd.2 | simp [hd]), GrR.refl _⟩
                      · exact opOk_val (v := .pointer (some ⟨t, 0, none⟩)) (w' := wv) (by simp [execOp, go_sem, hρ.1.const, hρ.1.func, hd]) ⟨rfl, GrR.refl _⟩
                      · exact opOk_val (v := .pointer (some ⟨t, 24, none⟩)) (w' := wv) (by simp [execOp, go_sem, hρ.1.const, hρ.1.func, hd]) ⟨rfl, GrR.refl _⟩
                      · (have h0 := cell_chg hR HCN.out (HNT.out); exact opOk_val (v := .int .i64 (N : Int)) (w' := wv) (by simp [execOp, go_sem, hd, h0]) ⟨rfl, GrR.refl _⟩)
                      · exact opOk_move (.inl rfl) ⟨by simp only [Is]; (first | exact hρ.2 5 rfl | exact hd | exact hd.1 | exact hd.2 | simp [hd]), GrR.refl _⟩
                      · exact opOk_move (.inl rfl) ⟨by simp only [Is]; (first | exact hρ.2 7 rfl | exact hd | exact hd.1 | exact hd.2 | simp [hd]), GrR.refl _⟩
                      · exact opOk_val (v := .pointer (some ⟨rb, i * 5, none⟩)) (w' := wv) (by simp [execOp, go_sem, hρ.1.const, hρ.1.func, hd, I012.out.1, I012.out.2.1, I012.out.2.2]) ⟨rfl, GrR.refl _⟩
                      · exact opOk_val (v := .pointer (some ⟨rb, i * 5, none⟩)) (w' := wv) (by simp [execOp, go_sem, hρ.1.const, hρ.1.func, hd]) ⟨rfl, GrR.refl _⟩
                      · (have h0 := cell_chg hR E0.out (HNR.out); exact opOk_val (v := .int .i64 (opath : Int)) (w' := wv) (by simp [execOp, go_sem, hd, h0]) ⟨rfl, GrR.refl _⟩)
                      · exact opOk_move (.inl rfl) ⟨by simp only [Is]; (first | exact hρ.2 5 rfl | exact hd | exact hd.1 | exact hd.2 | simp [hd]), GrR.refl _⟩
                      · exact opOk_move (.inl rfl) ⟨by simp only [Is]; (first | exact hρ.2 7 rfl | exact hd | exact hd.1 | exact hd.2 | simp [hd]), GrR.refl _⟩
                      · exact opOk_val (v := .pointer (some ⟨rb, i * 5, none⟩)) (w' := wv) (by simp [execOp, go_sem, hρ.1.const, hρ.1.func, hd, I012.out.1, I012.out.2.1, I012.out.2.2]) ⟨rfl, GrR.refl _⟩
                      · exact opOk_val (v := .pointer (some ⟨rb, i * 5 + 2, none⟩)) (w' := wv) (by simp [execOp, go_sem, hρ.1.const, hρ.1.func, hd]) ⟨rfl, GrR.refl _⟩
                      · exact opOk_loadMid rfl rb (i * 5 + 2) (by first | exact hρ.2 _ rfl | simp [hd]) [.int .u8 (ok.toNat : Int), .int .u8 (of.toNat : Int), .slice ps nq cps] _ (range3 (cell_chg hR E2.out HNR.out) (cell_chg hR E3.out HNR.out) (cell_chg hR E4.out HNR.out)) Tryd.underlying47 rfl (by kernel_rfl) ⟨rfl, GrR.refl _⟩
                      · (first | refine ⟨rfl, fun hJ => ?_⟩ | refine ⟨trivial, fun hJ => ?_⟩ | intro hJ); exact opOk_call hρ.1 rfl rfl Tryd.func27 (by kernel_rfl) rfl (by simp [hd, hρ.1.const, hρ.1.func]) ((chunkD_any w0 HLD.out wv ga vx x hJ.1 hJ.2.2 N HNOW.out opath (⟨ok, of, ob⟩ : Chk) (.slice ps nq cps) hJ.2.1 x2 ev2 HCD.out).mono fun e w' ⟨h1, vr', k1, k2, k3⟩ => ⟨_, h1, rfl, k3, vr', k1, fun j hj => (k2 j hj).imp id (fun h => Nat.le_trans hR.size h)⟩)
                      · exact opOk_call hρ.1 rfl rfl Tryd.func29 (by kernel_rfl) rfl (by simp [hd, hρ.1.const, hρ.1.func]) ((note_any ex ev2 wv).mono fun e w' ⟨h1, h2⟩ => ⟨_, h1, rfl, h2⟩)
                    · intro vals wv hR hJ hall
                      have i0 := hall 0 (by omega)
                      have i24 := hall 24 (by omega)
                      simp only [factAt, Is, List.getD_eq_getElem?_getD, List.getElem?_cons_succ, List.getElem?_cons_zero, Option.getD_some] at i0 i24
                      clear hall
                      obtain ⟨vz, hy1, hy2⟩ : ∃ vx', As w0.heap.size wv ga vx' x2 ∧ RowTo w9 vx vx' := hJ
                      obtain ⟨wa, hwa⟩ : ∃ y, y = wv := ⟨_, rfl⟩
                      subst hwa
                      obtain ⟨en, hen⟩ : ∃ en, en = noteE ex ev2 := ⟨_, rfl⟩
                      obtain ⟨vy, hma, -⟩ := (MidAt.didA HM9.out (by decide) (by decide) (by decide) (by decide) (by decide) ⟨vz, hy1, hy2, hR⟩)
                      have HMA := hid (show Mid w0.heap.size wa t ga gb vy vrb1 (.slice pa na ca) (.slice (some ⟨rb, 0, none⟩) nb cb) ({ T4 with a := x2, ea := ex, pk := k }) A L from hma)
                      have HGA := hid (HG9.out.trans (hR.below HG9.out.size HPX9.out.ge))
                      have HTWA := hid HMA.out.two
                      rw [← hen] at i24
                      rw [show en.val = .agg #[.bool en.began, .bool en.ended, .bool en.clean, .int .u32 (en.peer.tag : Int), .int .u32 (en.peer.rwnd : Int), .int .u16 (en.peer.out : Int), .int .u16 (en.peer.in_ : Int), .int .u32 (en.peer.tsn : Int), .slice none 0 0, .int .u32 (en.tsn : Int)] from rfl] at i24
                      have HEN := hid hen
                      clear hR hy1 hy2 hma hen HCP HCN HNT HNR HJ0 HTW9 HPX9
                      simp only [List.take_succ_cons, List.take_zero, List.drop_succ_cons, List.drop_zero, fillFrom, Act.put, i0, i24, List.setIfInBounds_toArray, List.set_cons_zero, List.set_cons_succ, Nat.zero_add, Nat.reduceAdd]
                      have c4 := HTWA.out.at 4 (by simp [TwoD.cells])
                      have c5 := HTWA.out.at 5 (by simp [TwoD.cells])
                      have c6 := HTWA.out.at 6 (by simp [TwoD.cells])
                      have c7 := HTWA.out.at 7 (by simp [TwoD.cells])
                      have c8 := HTWA.out.at 8 (by simp [TwoD.cells])
                      have c9 := HTWA.out.at 9 (by simp [TwoD.cells])
                      have c10 := HTWA.out.at 10 (by simp [TwoD.cells])
                      have c11 := HTWA.out.at 11 (by simp [TwoD.cells])
                      have c12 := HTWA.out.at 12 (by simp [TwoD.cells])
                      have c13 := HTWA.out.at 13 (by simp [TwoD.cells])
                      simp only [TwoD.cells, List.getElem_cons_succ, List.getElem_cons_zero] at c4 c5 c6 c7 c8 c9 c10 c11 c12 c13
                      have f4 := HTWA.out.frozen 4
                      have f5 := HTWA.out.frozen 5
                      have f6 := HTWA.out.frozen 6
                      have f7 := HTWA.out.frozen 7
                      have f8 := HTWA.out.frozen 8
                      have f9 := HTWA.out.frozen 9
                      have f10 := HTWA.out.frozen 10
                      have f11 := HTWA.out.frozen 11
                      have f12 := HTWA.out.frozen 12
                      have f13 := HTWA.out.frozen 13
                      obtain ⟨wb, hwb⟩ : ∃ y, y = ((((((((((wa.setCell ⟨t, 4, none⟩ (.bool en.began)).setCell ⟨t, 5, none⟩ (.bool en.ended)).setCell ⟨t, 6, none⟩ (.bool en.clean)).setCell ⟨t, 7, none⟩ (.int .u32 (en.peer.tag : Int))).setCell ⟨t, 8, none⟩ (.int .u32 (en.peer.rwnd : Int))).setCell ⟨t, 9, none⟩ (.int .u16 (en.peer.out : Int))).setCell ⟨t, 10, none⟩ (.int .u16 (en.peer.in_ : Int))).setCell ⟨t, 11, none⟩ (.int .u32 (en.peer.tsn : Int))).setCell ⟨t, 12, none⟩ (.slice none 0 0)).setCell ⟨t, 13, none⟩ (.int .u32 (en.tsn : Int))) := ⟨_, rfl⟩
                      have HCB := hid (show Chg (fun k => k = t) wa wb by rw [hwb]; exact (((((((((((Chg.refl (fun k => k = t) wa).set ⟨t, 4, none⟩ (.bool en.began) (.inl rfl)).set ⟨t, 5, none⟩ (.bool en.ended) (.inl rfl)).set ⟨t, 6, none⟩ (.bool en.clean) (.inl rfl)).set ⟨t, 7, none⟩ (.int .u32 (en.peer.tag : Int)) (.inl rfl)).set ⟨t, 8, none⟩ (.int .u32 (en.peer.rwnd : Int)) (.inl rfl)).set ⟨t, 9, none⟩ (.int .u16 (en.peer.out : Int)) (.inl rfl)).set ⟨t, 10, none⟩ (.int .u16 (en.peer.in_ : Int)) (.inl rfl)).set ⟨t, 11, none⟩ (.int .u32 (en.peer.tsn : Int)) (.inl rfl)).set ⟨t, 12, none⟩ (.slice none 0 0) (.inl rfl)).set ⟨t, 13, none⟩ (.int .u32 (en.tsn : Int)) (.inl rfl)))
                      have HMB := hid (show Mid w0.heap.size wb t ga gb vy vrb1 (.slice pa na ca) (.slice (some ⟨rb, 0, none⟩) nb cb) ({ T4 with a := x2, ea := en, pk := k }) A L from HMA.out.set (by decide) (by decide) (by decide) HCB.out (by rw [hwb]; exact ((((((((((HTWA.out.store 4 (.bool en.began)).store 5 (.bool en.ended)).store 6 (.bool en.clean)).store 7 (.int .u32 (en.peer.tag : Int))).store 8 (.int .u32 (en.peer.rwnd : Int))).store 9 (.int .u16 (en.peer.out : Int))).store 10 (.int .u16 (en.peer.in_ : Int))).store 11 (.int .u32 (en.peer.tsn : Int))).store 12 (.slice none 0 0)).store 13 (.int .u32 (en.tsn : Int)))) rfl rfl)
                      have HGB := hid (HGA.out.trans (HCB.out.below HGA.out.size (fun k e => e ▸ HMA.out.tB)))
                      have HEB := hid hwb
                      clear i0 i24
                      go_wp2_with fail
                      clear hwb c4 f4 c5 f5 c6 f6 c7 f7 c8 f8 c9 f9 c10 f10 c11 f11 c12 f12 c13 f13
                      have hna := HLA.out
                      have hnb := HLB.out
                      go_roundw
                      case rel =>
                        rw [← HEB.out]
                        exact ⟨i + 1, by omega, by go_num, hid ⟨_, _, _, _, HMB.out, HGB.out, by have := HK.out; have := HPK.out; omega, by rw [HEN.out, HK.out]; exact HST2.out⟩⟩
                      case measure => simp [intOf]; omega
            · have hin : nb = i := by omega
              subst hin
              obtain ⟨vra1, x, ex, pk, hm, hg, hpk, hst⟩ := HL.out
              have hex := stepsD_nil (by rw [← HNB.out]; exact Nat.le_refl _) hst
              simp only [Prod.mk.injEq] at hex
              obtain ⟨rfl, rfl, rfl⟩ := hex
              obtain ⟨w11, hw11⟩ : ∃ y, y = wr := ⟨_, rfl⟩
              subst hw11
              obtain ⟨T5, hT5⟩ : ∃ y, y = ({ T4 with a := a1, ea := ea1, pk := pk2 } : TwoD) := ⟨_, rfl⟩
              rw [← hT5] at hm
              have HM11 := hid hm
              have HG11 := hid hg
              have HNW5 := hid (show T5.now = N by rw [hT5]; exact HNW3.out)
              have HT5a := hid (show T5.a = a1 by rw [hT5])
              have HT5ea := hid (show T5.ea = ea1 by rw [hT5])
              have HT5b := hid (show T5.b = b1 by rw [hT5]; exact HT4b.out)
              have HT5eb := hid (show T5.eb = eb1 by rw [hT5]; exact HT4e.out)
              have HT5p := hid (show T5.pk = pk2 by rw [hT5])
              clear hm hg hpk hst hT5 HL hlt hi
              go_wp2_with fail
              have HS3 := hid (show tickD T5.a N = some (a2, va) by rw [HT5a.out]; exact HS3.out)
              have HTW9 := hid HM11.out.two
              have HCP := hid (HTW9.out.at 0 (by simp [TwoD.cells]))
              have HCN := hid (HTW9.out.at 24 (by simp [TwoD.cells]))
              simp only [TwoD.cells, List.getElem_cons_succ, List.getElem_cons_zero] at HCP HCN
              rw [HNW5.out] at HCN
              have HPX9 := hid HM11.out.pa
              have HNT := hid (show ¬ Mine ga vra1 t from mine_not HPX9.out HTW9.out (by decide) (by decide))
              have HJ0 := hid (show (JJ (fun wx => As w0.heap.size wx ga vra1 T5.a) (fun wx => ∃ vx', As w0.heap.size wx ga vx' a2 ∧ RowTo w11 vra1 vx')) 0 w11 from HPX9.out)
              refine wp_region_chg 15 (Mine ga vra1) [13] (JJ (fun wx => As w0.heap.size wx ga vra1 T5.a) (fun wx => ∃ vx', As w0.heap.size wx ga vx' a2 ∧ RowTo w11 vra1 vx')) [Is (.pointer (some ⟨t, 0, none⟩)), Is (.pointer (some ⟨t, 0, none⟩)), Is (.pointer (some ⟨t, 0, none⟩)), Is (.pointer (some ⟨t, 4, none⟩)), Is ((T5.ea).val), Is (.pointer (some ⟨t, 0, none⟩)), Is (.pointer (some ⟨t, 0, none⟩)), Is (.pointer (some ⟨t, 0, none⟩)), Is (.pointer (some ⟨ga, 0, none⟩)), Is (.pointer (some ⟨t, 0, none⟩)), Is (.pointer (some ⟨t, 0, none⟩)), Is (.pointer (some ⟨t, 24, none⟩)), Is (.int .i64 (N : Int)), Is ((va).val), Is ((noteE (T5.ea) va).val)] (by kernel_rfl) (by kernel_rfl) (by kernel_rfl) (by kernel_rfl) (by kernel_rfl) (by kernel_rfl) (by kernel_rfl) (HJ0.out) (JJ.st (fun _ _ h k => AsAt.mono h k) (fun _ _ ⟨v, h1, h2⟩ k => ⟨v, AsAt.mono h1 k, h2⟩)) ?_ ?_ ?_
              · simp only [StabAll, Is.ch, AnyF.ch, and_self]
              · try (rename_i Kk hKk; clear hKk Kk)
                simp only [List.take_succ_cons, List.take_zero, AllOpsC, wrAt, Nat.reduceAdd, Nat.reduceEqDiff, Option.map_some, Option.map_none, List.map_cons, List.map_nil, depsOf, List.filterMap_cons, List.filterMap_nil, Region.binds, depFacts, guardF, reduceIte, List.getD_eq_getElem?_getD, List.getElem?_cons_succ, List.getElem?_cons_zero, Option.getD_some, factAt, and_true]
                refine ⟨?_, ?_, ?_, ?_, ?_, ?_, ?_, ?_, ?_, ?_, ?_, ?_, ?_, ?_, ?_⟩
                all_goals intro ρ wv hρ hR hd
                all_goals try simp only [Is] at hd
                · exact opOk_move (.inl rfl) ⟨by simp only [Is]; (first | exact hρ.2 0 rfl | exact hd | exact hd.1 | exact hd.2 | simp [hd]), GrR.refl _⟩
                · exact opOk_move (.inl rfl) ⟨by simp only [Is]; (first | exact hρ.2 0 rfl | exact hd | exact hd.1 | exact hd.2 | simp [hd]), GrR.refl _⟩
                · exact opOk_val (v := .pointer (some ⟨t, 0, none⟩)) (w' := wv) (by simp [execOp, go_sem, hρ.1.const, hρ.1.func, hd]) ⟨rfl, GrR.refl _⟩
                · exact opOk_val (v := .pointer (some ⟨t, 4, none⟩)) (w' := wv) (by simp [execOp, go_sem, hρ.1.const, hρ.1.func, hd]) ⟨rfl, GrR.refl _⟩
                · exact opOk_loadMid rfl t 4 (by first | exact hρ.2 _ rfl | simp [hd]) [.bool T5.ea.began, .bool T5.ea.ended, .bool T5.ea.clean, .int .u32 (T5.ea.peer.tag : Int), .int .u32 (T5.ea.peer.rwnd : Int), .int .u16 (T5.ea.peer.out : Int), .int .u16 (T5.ea.peer.in_ : Int), .int .u32 (T5.ea.peer.tsn : Int), .slice none 0 0, .int .u32 (T5.ea.tsn : Int)] _ ((HTW9.out.chg hR HNT.out).range 4 _ _ rfl) Tryd.underlying33 rfl (by kernel_rfl) ⟨rfl, GrR.refl _⟩
                · exact opOk_move (.inl rfl) ⟨by simp only [Is]; (first | exact hρ.2 0 rfl | exact hd | exact hd.1 | exact hd.2 | simp [hd]), GrR.refl _⟩
                · exact opOk_val (v := .pointer (some ⟨t, 0, none⟩)) (w' := wv) (by simp [execOp, go_sem, hρ.1.const, hρ.1.func, hd]) ⟨rfl, GrR.refl _⟩
                · exact opOk_val (v := .pointer (some ⟨t, 0, none⟩)) (w' := wv) (by simp [execOp, go_sem, hρ.1.const, hρ.1.func, hd]) ⟨rfl, GrR.refl _⟩
                · (have h0 := cell_chg hR HCP.out (HNT.out); exact opOk_val (v := .pointer (some ⟨ga, 0, none⟩)) (w' := wv) (by simp [execOp, go_sem, hd, h0]) ⟨rfl, GrR.refl _⟩)
                · exact opOk_move (.inl rfl) ⟨by simp only [Is]; (first | exact hρ.2 0 rfl | exact hd | exact hd.1 | exact hd.2 | simp [hd]), GrR.refl _⟩
                · exact opOk_val (v := .pointer (some ⟨t, 0, none⟩)) (w' := wv) (by simp [execOp, go_sem, hρ.1.const, hρ.1.func, hd]) ⟨rfl, GrR.refl _⟩
                · exact opOk_val (v := .pointer (some ⟨t, 24, none⟩)) (w' := wv) (by simp [execOp, go_sem, hρ.1.const, hρ.1.func, hd]) ⟨rfl, GrR.refl _⟩
                · (have h0 := cell_chg hR HCN.out (HNT.out); exact opOk_val (v := .int .i64 (N : Int)) (w' := wv) (by simp [execOp, go_sem, hd, h0]) ⟨rfl, GrR.refl _⟩)
                · (first | refine ⟨rfl, fun hJ => ?_⟩ | refine ⟨trivial, fun hJ => ?_⟩ | intro hJ); exact opOk_call hρ.1 rfl rfl Tryd.func20 (by kernel_rfl) rfl (by simp [hd, hρ.1.const, hρ.1.func]) ((tick_any w0.heap.size wv ga vra1 T5.a hJ N HNOW.out a2 va HS3.out).mono fun e w' ⟨h1, vr', k1, k2, k3⟩ => ⟨_, h1, rfl, k3, vr', k1, fun j hj => (k2 j hj).imp id (fun h => Nat.le_trans hR.size h)⟩)
                · exact opOk_call hρ.1 rfl rfl Tryd.func29 (by kernel_rfl) rfl (by simp [hd, hρ.1.const, hρ.1.func]) ((note_any (T5.ea) va wv).mono fun e w' ⟨h1, h2⟩ => ⟨_, h1, rfl, h2⟩)
              · intro vals wv hR hJ hall
                have i0 := hall 0 (by omega)
                have i14 := hall 14 (by omega)
                simp only [factAt, Is, List.getD_eq_getElem?_getD, List.getElem?_cons_succ, List.getElem?_cons_zero, Option.getD_some] at i0 i14
                clear hall
                obtain ⟨vz, hy1, hy2⟩ : ∃ vx', As w0.heap.size wv ga vx' a2 ∧ RowTo w11 vra1 vx' := hJ
                obtain ⟨waa, hwa⟩ : ∃ y, y = wv := ⟨_, rfl⟩
                subst hwa
                obtain ⟨en, hen⟩ : ∃ en, en = noteE (T5.ea) va := ⟨_, rfl⟩
                obtain ⟨vra2, hma, -⟩ := MidAt.didA HM11.out (by decide) (by decide) (by decide) (by decide) (by decide) ⟨vz, hy1, hy2, hR⟩
                have HMA := hid (show Mid w0.heap.size waa t ga gb vra2 vrb1 (.slice pa na ca) (.slice pb nb cb) ({ T5 with a := a2 }) A L from hma)
                have HGA := hid (HG11.out.trans (hR.below HG11.out.size HPX9.out.ge))
                have HTWA := hid HMA.out.two
                rw [← hen] at i14
                rw [show en.val = .agg #[.bool en.began, .bool en.ended, .bool en.clean, .int .u32 (en.peer.tag : Int), .int .u32 (en.peer.rwnd : Int), .int .u16 (en.peer.out : Int), .int .u16 (en.peer.in_ : Int), .int .u32 (en.peer.tsn : Int), .slice none 0 0, .int .u32 (en.tsn : Int)] from rfl] at i14
                have HENa := hid hen
                clear hR hy1 hy2 hma hen HCP HCN HNT HJ0 HTW9 HPX9
                simp only [List.take_succ_cons, List.take_zero, List.drop_succ_cons, List.drop_zero, fillFrom, Act.put, i0, i14, List.setIfInBounds_toArray, List.set_cons_zero, List.set_cons_succ, Nat.zero_add, Nat.reduceAdd]
                have c4 := HTWA.out.at 4 (by simp [TwoD.cells])
                have c5 := HTWA.out.at 5 (by simp [TwoD.cells])
                have c6 := HTWA.out.at 6 (by simp [TwoD.cells])
                have c7 := HTWA.out.at 7 (by simp [TwoD.cells])
                have c8 := HTWA.out.at 8 (by simp [TwoD.cells])
                have c9 := HTWA.out.at 9 (by simp [TwoD.cells])
                have c10 := HTWA.out.at 10 (by simp [TwoD.cells])
                have c11 := HTWA.out.at 11 (by simp [TwoD.cells])
                have c12 := HTWA.out.at 12 (by simp [TwoD.cells])
                have c13 := HTWA.out.at 13 (by simp [TwoD.cells])
                simp only [TwoD.cells, List.getElem_cons_succ, List.getElem_cons_zero] at c4 c5 c6 c7 c8 c9 c10 c11 c12 c13
                have f4 := HTWA.out.frozen 4
                have f5 := HTWA.out.frozen 5
                have f6 := HTWA.out.frozen 6
                have f7 := HTWA.out.frozen 7
                have f8 := HTWA.out.frozen 8
                have f9 := HTWA.out.frozen 9
                have f10 := HTWA.out.frozen 10
                have f11 := HTWA.out.frozen 11
                have f12 := HTWA.out.frozen 12
                have f13 := HTWA.out.frozen 13
                obtain ⟨w12, hwb⟩ : ∃ y, y = ((((((((((waa.setCell ⟨t, 4, none⟩ (.bool en.began)).setCell ⟨t, 5, none⟩ (.bool en.ended)).setCell ⟨t, 6, none⟩ (.bool en.clean)).setCell ⟨t, 7, none⟩ (.int .u32 (en.peer.tag : Int))).setCell ⟨t, 8, none⟩ (.int .u32 (en.peer.rwnd : Int))).setCell ⟨t, 9, none⟩ (.int .u16 (en.peer.out : Int))).setCell ⟨t, 10, none⟩ (.int .u16 (en.peer.in_ : Int))).setCell ⟨t, 11, none⟩ (.int .u32 (en.peer.tsn : Int))).setCell ⟨t, 12, none⟩ (.slice none 0 0)).setCell ⟨t, 13, none⟩ (.int .u32 (en.tsn : Int))) := ⟨_, rfl⟩
                have HCB := hid (show Chg (fun k => k = t) waa w12 by rw [hwb]; exact (((((((((((Chg.refl (fun k => k = t) waa).set ⟨t, 4, none⟩ (.bool en.began) (.inl rfl)).set ⟨t, 5, none⟩ (.bool en.ended) (.inl rfl)).set ⟨t, 6, none⟩ (.bool en.clean) (.inl rfl)).set ⟨t, 7, none⟩ (.int .u32 (en.peer.tag : Int)) (.inl rfl)).set ⟨t, 8, none⟩ (.int .u32 (en.peer.rwnd : Int)) (.inl rfl)).set ⟨t, 9, none⟩ (.int .u16 (en.peer.out : Int)) (.inl rfl)).set ⟨t, 10, none⟩ (.int .u16 (en.peer.in_ : Int)) (.inl rfl)).set ⟨t, 11, none⟩ (.int .u32 (en.peer.tsn : Int)) (.inl rfl)).set ⟨t, 12, none⟩ (.slice none 0 0) (.inl rfl)).set ⟨t, 13, none⟩ (.int .u32 (en.tsn : Int)) (.inl rfl)))
                obtain ⟨T6, hT6⟩ : ∃ y, y = ({ T5 with a := a2, ea := en } : TwoD) := ⟨_, rfl⟩
                have HMw12 := hid (show Mid w0.heap.size w12 t ga gb vra2 vrb1 (.slice pa na ca) (.slice pb nb cb) (T6) A L from HMA.out.set (by decide) (by decide) (by decide) HCB.out (by rw [hwb, hT6]; exact ((((((((((HTWA.out.store 4 (.bool en.began)).store 5 (.bool en.ended)).store 6 (.bool en.clean)).store 7 (.int .u32 (en.peer.tag : Int))).store 8 (.int .u32 (en.peer.rwnd : Int))).store 9 (.int .u16 (en.peer.out : Int))).store 10 (.int .u16 (en.peer.in_ : Int))).store 11 (.int .u32 (en.peer.tsn : Int))).store 12 (.slice none 0 0)).store 13 (.int .u32 (en.tsn : Int)))) (by rw [hT6]) (by rw [hT6]))
                have HGw12 := hid (HGA.out.trans (HCB.out.below HGA.out.size (fun k e => e ▸ HMA.out.tB)))
                have HEB := hid hwb
                have HTT6 := hid hT6
                clear i0 i14
                go_wp2_with fail
                rw [← HEB.out]
                have HNWA := hid HNW5.out
                clear hwb hT6 HMA HGA HTWA HCB c4 f4 c5 f5 c6 f6 c7 f7 c8 f8 c9 f9 c10 f10 c11 f11 c12 f12 c13 f13
                have HNW5 := hid (show T6.now = N by rw [HTT6.out]; exact HNW5.out)
                have HS3b := hid (show T6.a = a2 by rw [HTT6.out])
                have HS4 := hid (show tickD T6.b N = some (b2, vb) by rw [HTT6.out]; show tickD T5.b N = some (b2, vb); rw [HT5b.out]; exact HS4.out)
                have HTW9 := hid HMw12.out.two
                have HCP := hid (HTW9.out.at 1 (by simp [TwoD.cells]))
                have HCN := hid (HTW9.out.at 24 (by simp [TwoD.cells]))
                simp only [TwoD.cells, List.getElem_cons_succ, List.getElem_cons_zero] at HCP HCN
                rw [HNW5.out] at HCN
                have HPX9 := hid HMw12.out.pb
                have HNT := hid (show ¬ Mine gb vrb1 t from mine_not HPX9.out HTW9.out (by decide) (by decide))
                have HJ0 := hid (show (JJ (fun wx => As w0.heap.size wx gb vrb1 T6.b) (fun wx => ∃ vx', As w0.heap.size wx gb vx' b2 ∧ RowTo w12 vrb1 vx')) 0 w12 from HPX9.out)
                refine wp_region_chg 15 (Mine gb vrb1) [13] (JJ (fun wx => As w0.heap.size wx gb vrb1 T6.b) (fun wx => ∃ vx', As w0.heap.size wx gb vx' b2 ∧ RowTo w12 vrb1 vx')) [Is (.pointer (some ⟨t, 0, none⟩)), Is (.pointer (some ⟨t, 0, none⟩)), Is (.pointer (some ⟨t, 0, none⟩)), Is (.pointer (some ⟨t, 14, none⟩)), Is ((T6.eb).val), Is (.pointer (some ⟨t, 0, none⟩)), Is (.pointer (some ⟨t, 0, none⟩)), Is (.pointer (some ⟨t, 1, none⟩)), Is (.pointer (some ⟨gb, 0, none⟩)), Is (.pointer (some ⟨t, 0, none⟩)), Is (.pointer (some ⟨t, 0, none⟩)), Is (.pointer (some ⟨t, 24, none⟩)), Is (.int .i64 (N : Int)), Is ((vb).val), Is ((noteE (T6.eb) vb).val)] (by kernel_rfl) (by kernel_rfl) (by kernel_rfl) (by kernel_rfl) (by kernel_rfl) (by kernel_rfl) (by kernel_rfl) (HJ0.out) (JJ.st (fun _ _ h k => AsAt.mono h k) (fun _ _ ⟨v, h1, h2⟩ k => ⟨v, AsAt.mono h1 k, h2⟩)) ?_ ?_ ?_
                · simp only [StabAll, Is.ch, AnyF.ch, and_self]
                · try (rename_i Kk hKk; clear hKk Kk)
                  simp only [List.take_succ_cons, List.take_zero, AllOpsC, wrAt, Nat.reduceAdd, Nat.reduceEqDiff, Option.map_some, Option.map_none, List.map_cons, List.map_nil, depsOf, List.filterMap_cons, List.filterMap_nil, Region.binds, depFacts, guardF, reduceIte, List.getD_eq_getElem?_getD, List.getElem?_cons_succ, List.getElem?_cons_zero, Option.getD_some, factAt, and_true]
                  refine ⟨?_, ?_, ?_, ?_, ?_, ?_, ?_, ?_, ?_, ?_, ?_, ?_, ?_, ?_, ?_⟩
                  all_goals intro ρ wv hρ hR hd
                  all_goals try simp only [Is] at hd
                  · exact opOk_move (.inl rfl) ⟨by simp only [Is]; (first | exact hρ.2 0 rfl | exact hd | exact hd.1 | exact hd.2 | simp [hd]), GrR.refl _⟩
                  · exact opOk_move (.inl rfl) ⟨by simp only [Is]; (first | exact hρ.2 0 rfl | exact hd | exact hd.1 | exact hd.2 | simp [hd]), GrR.refl _⟩
                  · exact opOk_val (v := .pointer (some ⟨t, 0, none⟩)) (w' := wv) (by simp [execOp, go_sem, hρ.1.const, hρ.1.func, hd]) ⟨rfl, GrR.refl _⟩
                  · exact opOk_val (v := .pointer (some ⟨t, 14, none⟩)) (w' := wv) (by simp [execOp, go_sem, hρ.1.const, hρ.1.func, hd]) ⟨rfl, GrR.refl _⟩
                  · exact opOk_loadMid rfl t 14 (by first | exact hρ.2 _ rfl | simp [hd]) [.bool T6.eb.began, .bool T6.eb.ended, .bool T6.eb.clean, .int .u32 (T6.eb.peer.tag : Int), .int .u32 (T6.eb.peer.rwnd : Int), .int .u16 (T6.eb.peer.out : Int), .int .u16 (T6.eb.peer.in_ : Int), .int .u32 (T6.eb.peer.tsn : Int), .slice none 0 0, .int .u32 (T6.eb.tsn : Int)] _ ((HTW9.out.chg hR HNT.out).range 14 _ _ rfl) Tryd.underlying33 rfl (by kernel_rfl) ⟨rfl, GrR.refl _⟩
                  · exact opOk_move (.inl rfl) ⟨by simp only [Is]; (first | exact hρ.2 0 rfl | exact hd | exact hd.1 | exact hd.2 | simp [hd]), GrR.refl _⟩
                  · exact opOk_val (v := .pointer (some ⟨t, 0, none⟩)) (w' := wv) (by simp [execOp, go_sem, hρ.1.const, hρ.1.func, hd]) ⟨rfl, GrR.refl _⟩
                  · exact opOk_val (v := .pointer (some ⟨t, 1, none⟩)) (w' := wv) (by simp [execOp, go_sem, hρ.1.const, hρ.1.func, hd]) ⟨rfl, GrR.refl _⟩
                  · (have h0 := cell_chg hR HCP.out (HNT.out); exact opOk_val (v := .pointer (some ⟨gb, 0, none⟩)) (w' := wv) (by simp [execOp, go_sem, hd, h0]) ⟨rfl, GrR.refl _⟩)
                  · exact opOk_move (.inl rfl) ⟨by simp only [Is]; (first | exact hρ.2 0 rfl | exact hd | exact hd.1 | exact hd.2 | simp [hd]), GrR.refl _⟩
                  · exact opOk_val (v := .pointer (some ⟨t, 0, none⟩)) (w' := wv) (by simp [execOp, go_sem, hρ.1.const, hρ.1.func, hd]) ⟨rfl, GrR.refl _⟩
                  · exact opOk_val (v := .pointer (some ⟨t, 24, none⟩)) (w' := wv) (by simp [execOp, go_sem, hρ.1.const, hρ.1.func, hd]) ⟨rfl, GrR.refl _⟩
                  · (have h0 := cell_chg hR HCN.out (HNT.out); exact opOk_val (v := .int .i64 (N : Int)) (w' := wv) (by simp [execOp, go_sem, hd, h0]) ⟨rfl, GrR.refl _⟩)
                  · (first | refine ⟨rfl, fun hJ => ?_⟩ | refine ⟨trivial, fun hJ => ?_⟩ | intro hJ); exact opOk_call hρ.1 rfl rfl Tryd.func20 (by kernel_rfl) rfl (by simp [hd, hρ.1.const, hρ.1.func]) ((tick_any w0.heap.size wv gb vrb1 T6.b hJ N HNOW.out b2 vb HS4.out).mono fun e w' ⟨h1, vr', k1, k2, k3⟩ => ⟨_, h1, rfl, k3, vr', k1, fun j hj => (k2 j hj).imp id (fun h => Nat.le_trans hR.size h)⟩)
                  · exact opOk_call hρ.1 rfl rfl Tryd.func29 (by kernel_rfl) rfl (by simp [hd, hρ.1.const, hρ.1.func]) ((note_any (T6.eb) vb wv).mono fun e w' ⟨h1, h2⟩ => ⟨_, h1, rfl, h2⟩)
                · intro vals wv hR hJ hall
                  have i0 := hall 0 (by omega)
                  have i14 := hall 14 (by omega)
                  simp only [factAt, Is, List.getD_eq_getElem?_getD, List.getElem?_cons_succ, List.getElem?_cons_zero, Option.getD_some] at i0 i14
                  clear hall
                  obtain ⟨vz, hy1, hy2⟩ : ∃ vx', As w0.heap.size wv gb vx' b2 ∧ RowTo w12 vrb1 vx' := hJ
                  obtain ⟨wab, hwa⟩ : ∃ y, y = wv := ⟨_, rfl⟩
                  subst hwa
                  obtain ⟨en, hen⟩ : ∃ en, en = noteE (T6.eb) vb := ⟨_, rfl⟩
                  obtain ⟨vrb2, hma, -⟩ := MidAt.didB HMw12.out (by decide) (by decide) (by decide) (by decide) (by decide) ⟨vz, hy1, hy2, hR⟩
                  have HMA := hid (show Mid w0.heap.size wab t ga gb vra2 vrb2 (.slice pa na ca) (.slice pb nb cb) ({ T6 with b := b2 }) A L from hma)
                  have HGA := hid (HGw12.out.trans (hR.below HGw12.out.size HPX9.out.ge))
                  have HTWA := hid HMA.out.two
                  rw [← hen] at i14
                  rw [show en.val = .agg #[.bool en.began, .bool en.ended, .bool en.clean, .int .u32 (en.peer.tag : Int), .int .u32 (en.peer.rwnd : Int), .int .u16 (en.peer.out : Int), .int .u16 (en.peer.in_ : Int), .int .u32 (en.peer.tsn : Int), .slice none 0 0, .int .u32 (en.tsn : Int)] from rfl] at i14
                  have HENb := hid hen
                  clear hR hy1 hy2 hma hen HCP HCN HNT HJ0 HTW9 HPX9
                  simp only [List.take_succ_cons, List.take_zero, List.drop_succ_cons, List.drop_zero, fillFrom, Act.put, i0, i14, List.setIfInBounds_toArray, List.set_cons_zero, List.set_cons_succ, Nat.zero_add, Nat.reduceAdd]
                  have c14 := HTWA.out.at 14 (by simp [TwoD.cells])
                  have c15 := HTWA.out.at 15 (by simp [TwoD.cells])
                  have c16 := HTWA.out.at 16 (by simp [TwoD.cells])
                  have c17 := HTWA.out.at 17 (by simp [TwoD.cells])
                  have c18 := HTWA.out.at 18 (by simp [TwoD.cells])
                  have c19 := HTWA.out.at 19 (by simp [TwoD.cells])
                  have c20 := HTWA.out.at 20 (by simp [TwoD.cells])
                  have c21 := HTWA.out.at 21 (by simp [TwoD.cells])
                  have c22 := HTWA.out.at 22 (by simp [TwoD.cells])
                  have c23 := HTWA.out.at 23 (by simp [TwoD.cells])
                  simp only [TwoD.cells, List.getElem_cons_succ, List.getElem_cons_zero] at c14 c15 c16 c17 c18 c19 c20 c21 c22 c23
                  have f14 := HTWA.out.frozen 14
                  have f15 := HTWA.out.frozen 15
                  have f16 := HTWA.out.frozen 16
                  have f17 := HTWA.out.frozen 17
                  have f18 := HTWA.out.frozen 18
                  have f19 := HTWA.out.frozen 19
                  have f20 := HTWA.out.frozen 20
                  have f21 := HTWA.out.frozen 21
                  have f22 := HTWA.out.frozen 22
                  have f23 := HTWA.out.frozen 23
                  obtain ⟨w13, hwb⟩ : ∃ y, y = ((((((((((wab.setCell ⟨t, 14, none⟩ (.bool en.began)).setCell ⟨t, 15, none⟩ (.bool en.ended)).setCell ⟨t, 16, none⟩ (.bool en.clean)).setCell ⟨t, 17, none⟩ (.int .u32 (en.peer.tag : Int))).setCell ⟨t, 18, none⟩ (.int .u32 (en.peer.rwnd : Int))).setCell ⟨t, 19, none⟩ (.int .u16 (en.peer.out : Int))).setCell ⟨t, 20, none⟩ (.int .u16 (en.peer.in_ : Int))).setCell ⟨t, 21, none⟩ (.int .u32 (en.peer.tsn : Int))).setCell ⟨t, 22, none⟩ (.slice none 0 0)).setCell ⟨t, 23, none⟩ (.int .u32 (en.tsn : Int))) := ⟨_, rfl⟩
                  have HCB := hid (show Chg (fun k => k = t) wab w13 by rw [hwb]; exact (((((((((((Chg.refl (fun k => k = t) wab).set ⟨t, 14, none⟩ (.bool en.began) (.inl rfl)).set ⟨t, 15, none⟩ (.bool en.ended) (.inl rfl)).set ⟨t, 16, none⟩ (.bool en.clean) (.inl rfl)).set ⟨t, 17, none⟩ (.int .u32 (en.peer.tag : Int)) (.inl rfl)).set ⟨t, 18, none⟩ (.int .u32 (en.peer.rwnd : Int)) (.inl rfl)).set ⟨t, 19, none⟩ (.int .u16 (en.peer.out : Int)) (.inl rfl)).set ⟨t, 20, none⟩ (.int .u16 (en.peer.in_ : Int)) (.inl rfl)).set ⟨t, 21, none⟩ (.int .u32 (en.peer.tsn : Int)) (.inl rfl)).set ⟨t, 22, none⟩ (.slice none 0 0) (.inl rfl)).set ⟨t, 23, none⟩ (.int .u32 (en.tsn : Int)) (.inl rfl)))
                  obtain ⟨T7, hT7⟩ : ∃ y, y = ({ T6 with b := b2, eb := en } : TwoD) := ⟨_, rfl⟩
                  have HMw13 := hid (show Mid w0.heap.size w13 t ga gb vra2 vrb2 (.slice pa na ca) (.slice pb nb cb) (T7) A L from HMA.out.set (by decide) (by decide) (by decide) HCB.out (by rw [hwb, hT7]; exact ((((((((((HTWA.out.store 14 (.bool en.began)).store 15 (.bool en.ended)).store 16 (.bool en.clean)).store 17 (.int .u32 (en.peer.tag : Int))).store 18 (.int .u32 (en.peer.rwnd : Int))).store 19 (.int .u16 (en.peer.out : Int))).store 20 (.int .u16 (en.peer.in_ : Int))).store 21 (.int .u32 (en.peer.tsn : Int))).store 22 (.slice none 0 0)).store 23 (.int .u32 (en.tsn : Int)))) (by rw [hT7]) (by rw [hT7]))
                  have HGw13 := hid (HGA.out.trans (HCB.out.below HGA.out.size (fun k e => e ▸ HMA.out.tB)))
                  have HEB := hid hwb
                  have HTT7 := hid hT7
                  clear i0 i14
                  have c26 := HTWA.out.at 26 (by simp [TwoD.cells])
                  simp only [TwoD.cells, List.getElem_cons_succ, List.getElem_cons_zero] at c26
                  go_wp2_with fail
                  rw [← HEB.out]
                  clear hwb hT7 HMA HGA HTWA HCB c14 f14 c15 f15 c16 f16 c17 f17 c18 f18 c19 f19 c20 f20 c21 f21 c22 f22 c23 f23 c26
                  have HNW5 := hid (show T7.now = N by rw [HTT7.out]; exact HNW5.out)
                  have HTW9 := hid HMw13.out.two
                  have HCP := hid (HTW9.out.at 0 (by simp [TwoD.cells]))
                  have HCN := hid (HTW9.out.at 24 (by simp [TwoD.cells]))
                  simp only [TwoD.cells, List.getElem_cons_succ, List.getElem_cons_zero] at HCP HCN
                  rw [HNW5.out] at HCN
                  refine wp_region_tail 8 [Is (.pointer (some ⟨t, 0, none⟩)), Is (.pointer (some ⟨t, 0, none⟩)), Is (.pointer (some ⟨t, 0, none⟩)), Is (.pointer (some ⟨ga, 0, none⟩)), Is (.pointer (some ⟨t, 0, none⟩)), Is (.pointer (some ⟨t, 0, none⟩)), Is (.pointer (some ⟨t, 24, none⟩)), Is (.int .i64 (N : Int))] (by kernel_rfl) (by kernel_rfl) (by kernel_rfl) (by kernel_rfl) (by kernel_rfl) (by kernel_rfl) ?_ ?_ ?_
                  · simp only [StabAll, Is.gr, RdF.gr, OwnF.gr, AnyF.gr, and_self]
                  · try (rename_i Kk hKk; clear hKk Kk)
                    simp only [List.take_succ_cons, List.take_zero, AllOps, List.map_cons, List.map_nil, depsOf, List.filterMap_cons, List.filterMap_nil, Region.binds, depFacts, guardF, reduceIte, List.getD_eq_getElem?_getD, List.getElem?_cons_succ, List.getElem?_cons_zero, Option.getD_some, factAt, and_true]
                    refine ⟨?_, ?_, ?_, ?_, ?_, ?_, ?_, ?_⟩
                    all_goals intro ρ wv hρ hR hd
                    all_goals try simp only [Is] at hd
                    · exact opOk_move (.inl rfl) ⟨by simp only [Is]; (first | exact hρ.2 0 rfl | exact hd | exact hd.1 | exact hd.2 | simp [hd]), GrR.refl _⟩
                    · exact opOk_val (v := .pointer (some ⟨t, 0, none⟩)) (w' := wv) (by simp [execOp, go_sem, hρ.1.const, hρ.1.func, hd]) ⟨rfl, GrR.refl _⟩
                    · exact opOk_val (v := .pointer (some ⟨t, 0, none⟩)) (w' := wv) (by simp [execOp, go_sem, hρ.1.const, hρ.1.func, hd]) ⟨rfl, GrR.refl _⟩
                    · (have h0 := cell?_of_below hR HCP.out; exact opOk_val (v := .pointer (some ⟨ga, 0, none⟩)) (w' := wv) (by simp [execOp, go_sem, hd, h0]) ⟨rfl, GrR.refl _⟩)
                    · exact opOk_move (.inl rfl) ⟨by simp only [Is]; (first | exact hρ.2 0 rfl | exact hd | exact hd.1 | exact hd.2 | simp [hd]), GrR.refl _⟩
                    · exact opOk_val (v := .pointer (some ⟨t, 0, none⟩)) (w' := wv) (by simp [execOp, go_sem, hρ.1.const, hρ.1.func, hd]) ⟨rfl, GrR.refl _⟩
                    · exact opOk_val (v := .pointer (some ⟨t, 24, none⟩)) (w' := wv) (by simp [execOp, go_sem, hρ.1.const, hρ.1.func, hd]) ⟨rfl, GrR.refl _⟩
                    · (have h0 := cell?_of_below hR HCN.out; exact opOk_val (v := .int .i64 (N : Int)) (w' := wv) (by simp [execOp, go_sem, hd, h0]) ⟨rfl, GrR.refl _⟩)
                  · intro vals wv hR hall
                    have i3 := hall 3 (by omega)
                    have i7 := hall 7 (by omega)
                    simp only [factAt, Is, List.getD_eq_getElem?_getD, List.getElem?_cons_succ, List.getElem?_cons_zero, Option.getD_some] at i3 i7
                    clear hall
                    simp only [List.take_succ_cons, List.take_zero, List.drop_succ_cons, List.drop_zero, fillFrom, Act.put, i3, i7, List.setIfInBounds_toArray, List.set_cons_zero, List.set_cons_succ, Nat.zero_add, Nat.reduceAdd]
                    obtain ⟨w14, hwr⟩ : ∃ x, x = wv := ⟨_, rfl⟩
                    subst hwr
                    have HMR := hid (HMw13.out.mono hR)
                    have HGR := hid (HGw13.out.trans (hR.mono HGw13.out.size))
                    clear hR i3 i7 HCP HCN HTW9
                    go_wp2_with fail
                    refine (drained_any w0.heap.size _ ga vra2 T7.a HMR.out.pa N HNOW.out 7 (by decide) (by rw [HTT7.out]; show T6.a.row.length ≤ 1000000; rw [HS3b.out]; exact HS56.out.1)).mono ?_
                    rintro e w15 ⟨rfl, hd⟩
                    obtain ⟨vra3, hm, hc⟩ := MidAt.didA HMR.out (by decide) (by decide) (by decide) (by decide) (by decide) hd
                    have HGw15 := hid (HGR.out.trans (hc.below HGR.out.size HMR.out.pa.ge))
                    obtain ⟨T8, hTm⟩ : ∃ y, y = ({ T7 with a := drainD T7.a N 7 } : TwoD) := ⟨_, rfl⟩
                    rw [← hTm] at hm
                    have HMw15 := hid hm
                    have HTT8 := hid hTm
                    have HNW5 := hid (show T8.now = N by rw [hTm]; exact HNW5.out)
                    clear hd hm hc hTm HMR HGR
                    go_wp2_with fail
                    have HTW9 := hid HMw15.out.two
                    have HCP := hid (HTW9.out.at 1 (by simp [TwoD.cells]))
                    have HCN := hid (HTW9.out.at 24 (by simp [TwoD.cells]))
                    simp only [TwoD.cells, List.getElem_cons_succ, List.getElem_cons_zero] at HCP HCN
                    rw [HNW5.out] at HCN
                    refine wp_region_tail 8 [Is (.pointer (some ⟨t, 0, none⟩)), Is (.pointer (some ⟨t, 0, none⟩)), Is (.pointer (some ⟨t, 1, none⟩)), Is (.pointer (some ⟨gb, 0, none⟩)), Is (.pointer (some ⟨t, 0, none⟩)), Is (.pointer (some ⟨t, 0, none⟩)), Is (.pointer (some ⟨t, 24, none⟩)), Is (.int .i64 (N : Int))] (by kernel_rfl) (by kernel_rfl) (by kernel_rfl) (by kernel_rfl) (by kernel_rfl) (by kernel_rfl) ?_ ?_ ?_
                    · simp only [StabAll, Is.gr, RdF.gr, OwnF.gr, AnyF.gr, and_self]
                    · try (rename_i Kk hKk; clear hKk Kk)
                      simp only [List.take_succ_cons, List.take_zero, AllOps, List.map_cons, List.map_nil, depsOf, List.filterMap_cons, List.filterMap_nil, Region.binds, depFacts, guardF, reduceIte, List.getD_eq_getElem?_getD, List.getElem?_cons_succ, List.getElem?_cons_zero, Option.getD_some, factAt, and_true]
                      refine ⟨?_, ?_, ?_, ?_, ?_, ?_, ?_, ?_⟩
                      all_goals intro ρ wv hρ hR hd
                      all_goals try simp only [Is] at hd
                      · exact opOk_move (.inl rfl) ⟨by simp only [Is]; (first | exact hρ.2 0 rfl | exact hd | exact hd.1 | exact hd.2 | simp [hd]), GrR.refl _⟩
                      · exact opOk_val (v := .pointer (some ⟨t, 0, none⟩)) (w' := wv) (by simp [execOp, go_sem, hρ.1.const, hρ.1.func, hd]) ⟨rfl, GrR.refl _⟩
                      · exact opOk_val (v := .pointer (some ⟨t, 1, none⟩)) (w' := wv) (by simp [execOp, go_sem, hρ.1.const, hρ.1.func, hd]) ⟨rfl, GrR.refl _⟩
                      · (have h0 := cell?_of_below hR HCP.out; exact opOk_val (v := .pointer (some ⟨gb, 0, none⟩)) (w' := wv) (by simp [execOp, go_sem, hd, h0]) ⟨rfl, GrR.refl _⟩)
                      · exact opOk_move (.inl rfl) ⟨by simp only [Is]; (first | exact hρ.2 0 rfl | exact hd | exact hd.1 | exact hd.2 | simp [hd]), GrR.refl _⟩
                      · exact opOk_val (v := .pointer (some ⟨t, 0, none⟩)) (w' := wv) (by simp [execOp, go_sem, hρ.1.const, hρ.1.func, hd]) ⟨rfl, GrR.refl _⟩
                      · exact opOk_val (v := .pointer (some ⟨t, 24, none⟩)) (w' := wv) (by simp [execOp, go_sem, hρ.1.const, hρ.1.func, hd]) ⟨rfl, GrR.refl _⟩
                      · (have h0 := cell?_of_below hR HCN.out; exact opOk_val (v := .int .i64 (N : Int)) (w' := wv) (by simp [execOp, go_sem, hd, h0]) ⟨rfl, GrR.refl _⟩)
                    · intro vals wv hR hall
                      have i3 := hall 3 (by omega)
                      have i7 := hall 7 (by omega)
                      simp only [factAt, Is, List.getD_eq_getElem?_getD, List.getElem?_cons_succ, List.getElem?_cons_zero, Option.getD_some] at i3 i7
                      clear hall
                      simp only [List.take_succ_cons, List.take_zero, List.drop_succ_cons, List.drop_zero, fillFrom, Act.put, i3, i7, List.setIfInBounds_toArray, List.set_cons_zero, List.set_cons_succ, Nat.zero_add, Nat.reduceAdd]
                      obtain ⟨w16, hwr⟩ : ∃ x, x = wv := ⟨_, rfl⟩
                      subst hwr
                      have HMR := hid (HMw15.out.mono hR)
                      have HGR := hid (HGw15.out.trans (hR.mono HGw15.out.size))
                      clear hR i3 i7 HCP HCN HTW9
                      go_wp2_with fail
                      refine (drained_any w0.heap.size _ gb vrb2 T8.b HMR.out.pb N HNOW.out 8 (by decide) (by rw [HTT8.out, HTT7.out]; exact HS56.out.2)).mono ?_
                      rintro e w17 ⟨rfl, hd⟩
                      obtain ⟨vrb3, hm, hc⟩ := MidAt.didB HMR.out (by decide) (by decide) (by decide) (by decide) (by decide) hd
                      have HGw17 := hid (HGR.out.trans (hc.below HGR.out.size HMR.out.pb.ge))
                      obtain ⟨T9, hTm⟩ : ∃ y, y = ({ T8 with b := drainD T8.b N 8 } : TwoD) := ⟨_, rfl⟩
                      rw [← hTm] at hm
                      have HMw17 := hid hm
                      have HTT9 := hid hTm
                      have HNW5 := hid (show T9.now = N by rw [hTm]; exact HNW5.out)
                      clear hd hm hc hTm HMR HGR
                      go_wp2_with fail
                      go_end0
                      have ht : T' = T9 := by
                        rw [HS7.out, HTT9.out, HTT8.out, HTT7.out, HENb.out, HTT6.out, HENa.out]
                        simp only [HT5ea.out, HT5eb.out, HT5p.out, HNWA.out]
                      refine ⟨rfl, vra3, vrb3, ?_, HGw17.out⟩
                      rw [ht]
                      exact HMw17.out.done
end Go.Proofs.YtiimlanbbfhkjaaDoor

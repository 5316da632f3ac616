/- dial, Open, Shutdown, Out. Conditions: the association lies as it should; its row is not too long. -/
import Derived.Test.YtiimlanbbfhkjaaDoorAsOn3
set_option linter.unusedSimpArgs false
set_option linter.unusedVariables false


namespace Go.FL

open Go.RowKit

def wordsD (tag tsn : Nat) : InitD := ⟨tag, 65536, 2, 2, tsn, []⟩
/-- Behind dial. -/
def dialD (a : AsD) (now : Int) : AsD := runD { a with peer := .zero } now 0 ((wordsD a.tag a.tsn).chk 1) 2
/-- Behind Open, and what it answers. -/
def openD (a : AsD) (now : Int) (act : Bool) (tag tsn : Nat) : AsD × Int :=
  if a.st = 0 then (if tag = 0 then (a, 1) else (if act = true then dialD { a with tag := tag, tsn := tsn, st := 1 } now else { a with tag := tag, tsn := tsn, st := 1 }, 0)) else (a, 3)
end Go.FL

namespace Go.Proofs.YtiimlanbbfhkjaaDoor

open Go.RowKit Go.FL Go.ChangeShapes

set_option maxRecDepth 100000 in
set_option maxHeartbeats 4000000 in
theorem dial_any (B : Nat) (w : World) (g : Nat) (vr : Value) (a : AsD) (h : As B w g vr a) (now : Int) (hnow : 0 ≤ now ∧ now ≤ 2305843009213693952) (ht : a.tag < 4294967296 ∧ a.tsn < 4294967296) (hl : a.row.length ≤ 1000000) :
    Calls Tryd.prog 28 #[.pointer (some ⟨g, 0, none⟩), .int .i64 now] w fun e w' => e = .returned (.tuple #[]) ∧ DidA B w g vr (dialD a now) w' := by
  obtain ⟨vk, vp, vs, r1, r2, r3, r4, r5, r6⟩ := id h
  have HA := hid r1
  have HL := hid hl
  have HNOW := hid hnow
  have HT := hid ht
  have HBS := hid (show B ≤ w.heap.size from Nat.le_trans r2 (Nat.le_of_lt r1.lt))
  have c18 := HA.out.at 18 (by simp [AsD.cells])
  have c19 := HA.out.at 19 (by simp [AsD.cells])
  have c20 := HA.out.at 20 (by simp [AsD.cells])
  have c21 := HA.out.at 21 (by simp [AsD.cells])
  have c22 := HA.out.at 22 (by simp [AsD.cells])
  have c23 := HA.out.at 23 (by simp [AsD.cells])
  simp only [AsD.cells, List.getElem_cons_succ, List.getElem_cons_zero] at c18 c19 c20 c21 c22 c23
  have f18 := HA.out.frozen 18
  have f19 := HA.out.frozen 19
  have f20 := HA.out.frozen 20
  have f21 := HA.out.frozen 21
  have f22 := HA.out.frozen 22
  have f23 := HA.out.frozen 23
  obtain ⟨w1, hw1⟩ : ∃ x, x = ((((((w.setCell ⟨g, 18, none⟩ (.int .u32 0)).setCell ⟨g, 19, none⟩ (.int .u32 0)).setCell ⟨g, 20, none⟩ (.int .u16 0)).setCell ⟨g, 21, none⟩ (.int .u16 0)).setCell ⟨g, 22, none⟩ (.int .u32 0)).setCell ⟨g, 23, none⟩ (.slice none 0 0)) := ⟨_, rfl⟩
  have HC1 := hid (show Chg (fun k => k = g) w w1 by rw [hw1]; exact (((((((Chg.refl (fun k => k = g) w).set ⟨g, 18, none⟩ (.int .u32 0) (.inl rfl)).set ⟨g, 19, none⟩ (.int .u32 0) (.inl rfl)).set ⟨g, 20, none⟩ (.int .u16 0) (.inl rfl)).set ⟨g, 21, none⟩ (.int .u16 0) (.inl rfl)).set ⟨g, 22, none⟩ (.int .u32 0) (.inl rfl)).set ⟨g, 23, none⟩ (.slice none 0 0) (.inl rfl)))
  have HASX := hid (show As B w1 g vr { a with peer := .zero } from ⟨vk, .slice none 0 0, vs, by rw [hw1]; exact ((((((r1.store 18 (.int .u32 0)).store 19 (.int .u32 0)).store 20 (.int .u16 0)).store 21 (.int .u16 0)).store 22 (.int .u32 0)).store 23 (.slice none 0 0)), r2, r3.chg HC1.out (own_ne_row r3 r1 (by decide)), Own.nil _ _ _, outs_g r5 r1 (by decide) (by decide) HC1.out, r6.chg HC1.out (own_ne_row r6 r1 (by decide))⟩)
  have hsz1 : w.heap.size ≤ w1.heap.size := HC1.out.size
  have HSZ := hid (Nat.le_trans HBS.out hsz1)
  obtain ⟨_, _, _, q1, -⟩ := id HASX.out
  have HA1 := hid q1
  have HC16 := hid (HA1.out.at 16 (by simp [AsD.cells]))
  simp only [AsD.cells, List.getElem_cons_succ, List.getElem_cons_zero] at HC16
  have HC17 := hid (HA1.out.at 17 (by simp [AsD.cells]))
  simp only [AsD.cells, List.getElem_cons_succ, List.getElem_cons_zero] at HC17
  have HE1 := hid hw1
  clear h r1 r2 r3 r4 r5 r6 q1 hl hnow ht hw1 hsz1
  go_enter Tryd.func28, Tryd.ntmps28
  go_upto_region 1 with fail
  rw [← HE1.out]
  clear c18 f18 c19 f19 c20 f20 c21 f21 c22 f22 c23 f23
  refine wp_region_tail 13 [Is (.pointer (some ⟨g, 0, none⟩)), Is (.int .i64 now), Is (.pointer (some ⟨g, 0, none⟩)), Is (.pointer (some ⟨g, 0, none⟩)), Is (.pointer (some ⟨g, 0, none⟩)), Is (.pointer (some ⟨g, 16, none⟩)), Is (.int .u32 (a.tag : Int)), Is (.pointer (some ⟨g, 0, none⟩)), Is (.pointer (some ⟨g, 0, none⟩)), Is (.pointer (some ⟨g, 17, none⟩)), Is (.int .u32 (a.tsn : Int)), Is (.agg #[.int .u32 (a.tag : Int), .int .u32 65536, .int .u16 2, .int .u16 2, .int .u32 (a.tsn : Int), .slice none 0 0]), CkO B 5 ((wordsD a.tag a.tsn).chk 1)] (by kernel_rfl) (by kernel_rfl) (by kernel_rfl) (by kernel_rfl) (by kernel_rfl) (by kernel_rfl) ?_ ?_ ?_
  · simp only [StabAll, Is.gr, RdF.gr, OwnF.gr, AnyF.gr, CkO.gr, and_self]
  · try (rename_i Kk hKk; clear hKk Kk)
    simp only [List.take_succ_cons, List.take_zero, AllOps, List.map_cons, List.map_nil, depsOf, List.filterMap_cons, List.filterMap_nil, Region.binds, depFacts, guardF, reduceIte, List.getD_eq_getElem?_getD, List.getElem?_cons_succ, List.getElem?_cons_zero, Option.getD_some, factAt, and_true]
    refine ⟨?_, ?_, ?_, ?_, ?_, ?_, ?_, ?_, ?_, ?_, ?_, ?_, ?_⟩
    all_goals intro ρ wv hρ hR hd
    all_goals try simp only [Is] at hd
    · exact opOk_move (.inl rfl) ⟨by simp only [Is]; (first | exact hρ.2 0 rfl | exact hd | exact hd.1 | exact hd.2 | simp [hd]), GrR.refl _⟩
    · exact opOk_move (.inl rfl) ⟨by simp only [Is]; (first | exact hρ.2 1 rfl | exact hd | exact hd.1 | exact hd.2 | simp [hd]), GrR.refl _⟩
    · exact opOk_move (.inl rfl) ⟨by simp only [Is]; (first | exact hρ.2 0 rfl | exact hd | exact hd.1 | exact hd.2 | simp [hd]), GrR.refl _⟩
    · exact opOk_move (.inl rfl) ⟨by simp only [Is]; (first | exact hρ.2 0 rfl | exact hd | exact hd.1 | exact hd.2 | simp [hd]), GrR.refl _⟩
    · exact opOk_val (v := .pointer (some ⟨g, 0, none⟩)) (w' := wv) (by simp [execOp, go_sem, hρ.1.const, hρ.1.func, hd]) ⟨rfl, GrR.refl _⟩
    · exact opOk_val (v := .pointer (some ⟨g, 16, none⟩)) (w' := wv) (by simp [execOp, go_sem, hρ.1.const, hρ.1.func, hd]) ⟨rfl, GrR.refl _⟩
    · (have h0 := cell?_of_below hR HC16.out; exact opOk_val (v := .int .u32 (a.tag : Int)) (w' := wv) (by simp [execOp, go_sem, hd, h0]) ⟨rfl, GrR.refl _⟩)
    · exact opOk_move (.inl rfl) ⟨by simp only [Is]; (first | exact hρ.2 0 rfl | exact hd | exact hd.1 | exact hd.2 | simp [hd]), GrR.refl _⟩
    · exact opOk_val (v := .pointer (some ⟨g, 0, none⟩)) (w' := wv) (by simp [execOp, go_sem, hρ.1.const, hρ.1.func, hd]) ⟨rfl, GrR.refl _⟩
    · exact opOk_val (v := .pointer (some ⟨g, 17, none⟩)) (w' := wv) (by simp [execOp, go_sem, hρ.1.const, hρ.1.func, hd]) ⟨rfl, GrR.refl _⟩
    · (have h0 := cell?_of_below hR HC17.out; exact opOk_val (v := .int .u32 (a.tsn : Int)) (w' := wv) (by simp [execOp, go_sem, hd, h0]) ⟨rfl, GrR.refl _⟩)
    · exact opOk_call hρ.1 rfl rfl Tryd.func42 (by kernel_rfl) rfl (by simp [hd, hρ.1.const, hρ.1.func]) ((aswords_any B wv g vr _ (HASX.out.mono hR) a.tag a.tsn).mono fun e w' ⟨h1, h2⟩ => ⟨_, h1, rfl, h2⟩)
    · exact opOk_call hρ.1 rfl rfl Tryd.func41 (by kernel_rfl) rfl (by simp [hd, hρ.1.const, hρ.1.func]) ((putInit_any 1 (.agg #[.int .u32 (a.tag : Int), .int .u32 65536, .int .u16 2, .int .u16 2, .int .u32 (a.tsn : Int), .slice none 0 0]) (wordsD a.tag a.tsn) ⟨HT.out.1, show (65536 : Nat) < 4294967296 by decide, show (2 : Nat) < 65536 by decide, show (2 : Nat) < 65536 by decide, HT.out.2⟩ wv ⟨_, rfl, Rd.nil _⟩ (Nat.zero_le _)).mono fun e w' ⟨s, h1, h2, h3⟩ => ⟨_, h1, ckO_mk (h2.base (Nat.le_trans HSZ.out hR.size)), h3⟩)
  · intro vals wv hR hall
    have i0 := hall 0 (by omega)
    have i1 := hall 1 (by omega)
    have i12 := hall 12 (by omega)
    simp only [factAt, Is, CkO, List.getD_eq_getElem?_getD, List.getElem?_cons_succ, List.getElem?_cons_zero, Option.getD_some] at i0 i1 i12
    clear hall
    obtain ⟨pq, nq, kq, hq, hoq⟩ := i12
    simp only [List.take_succ_cons, List.take_zero, List.drop_succ_cons, List.drop_zero, fillFrom, Act.put, i0, i1, hq, List.setIfInBounds_toArray, List.set_cons_zero, List.set_cons_succ, Nat.zero_add, Nat.reduceAdd]
    obtain ⟨w3, hw3⟩ : ∃ x, x = wv := ⟨_, rfl⟩
    subst hw3
    have HOQ := hid hoq
    have HAS3 := hid (HASX.out.mono hR)
    have HG3 := hid hR
    clear hR i0 i1 hq hoq
    go_wp2_with fail
    refine (run_any B _ g vr _ HAS3.out now HNOW.out 0 ((wordsD a.tag a.tsn).chk 1) _ HOQ.out 2 (by decide) HL.out).mono ?_
    rintro e w4 ⟨rfl, hd4⟩
    have HD4 := hid (show DidA B w g vr (dialD a now) w4 from Did.trans (fun _ h => .inl h) ((HC1.out.weak (fun _ _ e => .inl e)).trans ((Chg.of_gr (S := Mine g vr) HG3.out))) hd4)
    clear hd4
    go_wp2_with fail
    go_end0
    exact ⟨rfl, HD4.out⟩
set_option maxRecDepth 100000 in
set_option maxHeartbeats 4000000 in
theorem open_any (B : Nat) (w : World) (g : Nat) (vr : Value) (a : AsD) (h : As B w g vr a) (now : Int) (hnow : 0 ≤ now ∧ now ≤ 2305843009213693952) (act : Bool) (tag tsn : Nat) (ht : tag < 4294967296 ∧ tsn < 4294967296) (hl : a.row.length ≤ 1000000) :
    Calls Tryd.prog 8 #[.pointer (some ⟨g, 0, none⟩), .int .i64 now, .bool act, .int .u32 (tag : Int), .int .u32 (tsn : Int)] w fun e w' => e = .returned (.int .i64 (openD a now act tag tsn).2) ∧ DidA B w g vr (openD a now act tag tsn).1 w' := by
  have HAS := hid h
  obtain ⟨vk, vp, vs, r1, r2, r3, r4, r5, r6⟩ := id h
  have HA := hid r1
  have HL := hid hl
  have HNOW := hid hnow
  have HT := hid ht
  have c15 := HA.out.at 15 (by simp [AsD.cells])
  have c16 := HA.out.at 16 (by simp [AsD.cells])
  have c17 := HA.out.at 17 (by simp [AsD.cells])
  simp only [AsD.cells, List.getElem_cons_succ, List.getElem_cons_zero] at c15 c16 c17
  have f15 := HA.out.frozen 15
  have f16 := HA.out.frozen 16
  have f17 := HA.out.frozen 17
  by_cases q0 : a.st = 0
  · have z0 : ((a.st : Int) != 0) = false := by simp; omega
    by_cases q1 : tag = 0
    · have z1 : ((tag : Int) == 0) = true := by simp; omega
      have HQ := hid (show openD a now act tag tsn = (a, 1) by unfold openD; rw [if_pos q0, if_pos q1])
      clear q0 q1 r1 r2 r3 r4 r5 r6 h
      go_enter Tryd.func8, Tryd.ntmps8
      go_wp2_with fail
      go_ret
      exact ⟨by rw [HQ.out]; rfl, by rw [HQ.out]; exact Did.refl HAS.out⟩
    · have z1 : ((tag : Int) == 0) = false := by simp; omega
      obtain ⟨w1, hw1⟩ : ∃ x, x = (((w.setCell ⟨g, 16, none⟩ (.int .u32 (tag : Int))).setCell ⟨g, 17, none⟩ (.int .u32 (tsn : Int))).setCell ⟨g, 15, none⟩ (.int .u8 1)) := ⟨_, rfl⟩
      have HC1 := hid (show Chg (fun k => k = g) w w1 by rw [hw1]; exact ((((Chg.refl (fun k => k = g) w).set ⟨g, 16, none⟩ (.int .u32 (tag : Int)) (.inl rfl)).set ⟨g, 17, none⟩ (.int .u32 (tsn : Int)) (.inl rfl)).set ⟨g, 15, none⟩ (.int .u8 1) (.inl rfl)))
      have HASX := hid (show As B w1 g vr { a with tag := tag, tsn := tsn, st := 1 } from ⟨vk, vp, vs, by rw [hw1]; exact (((r1.store 16 (.int .u32 (tag : Int))).store 17 (.int .u32 (tsn : Int))).store 15 (.int .u8 1)), r2, r3.chg HC1.out (own_ne_row r3 r1 (by decide)), r4.chg HC1.out (own_ne_row r4 r1 (by decide)), outs_g r5 r1 (by decide) (by decide) HC1.out, r6.chg HC1.out (own_ne_row r6 r1 (by decide))⟩)
      have HE1 := hid hw1
      have HQ0 := hid q0
      have HQ1 := hid q1
      clear q0 q1 r1 r2 r3 r4 r5 r6 h hw1 hl hnow ht
      go_enter Tryd.func8, Tryd.ntmps8
      cases act
      · have HQ := hid (show openD a now false tag tsn = ({ a with tag := tag, tsn := tsn, st := 1 }, 0) by unfold openD; rw [if_pos HQ0.out, if_neg HQ1.out]; rfl)
        go_wp2_with fail
        go_ret
        exact ⟨by rw [HQ.out]; rfl, by rw [HQ.out, ← HE1.out]; exact ⟨vr, HASX.out, fun _ h => .inl h, HC1.out.weak (fun _ _ e => .inl e)⟩⟩
      · have HQ := hid (show openD a now true tag tsn = (dialD { a with tag := tag, tsn := tsn, st := 1 } now, 0) by unfold openD; rw [if_pos HQ0.out, if_neg HQ1.out]; rfl)
        go_wp2_with fail
        rw [← HE1.out]
        clear c15 c16 c17 f15 f16 f17
        refine (dial_any B _ g vr _ HASX.out now HNOW.out HT.out HL.out).mono ?_
        rintro e w4 ⟨rfl, hd4⟩
        have HD4 := hid (show DidA B w g vr _ w4 from Did.trans (fun _ h => .inl h) (HC1.out.weak (fun _ _ e => .inl e)) hd4)
        clear hd4
        go_wp2_with fail
        go_ret
        exact ⟨by rw [HQ.out]; rfl, by rw [HQ.out]; exact HD4.out⟩
  · have z0 : ((a.st : Int) != 0) = true := by simp; omega
    have HQ := hid (show openD a now act tag tsn = (a, 3) by unfold openD; rw [if_neg q0])
    clear q0 r1 r2 r3 r4 r5 r6 h
    go_enter Tryd.func8, Tryd.ntmps8
    go_wp2_with fail
    go_ret
    exact ⟨by rw [HQ.out]; rfl, by rw [HQ.out]; exact Did.refl HAS.out⟩
set_option maxRecDepth 100000 in
set_option maxHeartbeats 2000000 in
theorem shutdown_any (B : Nat) (w : World) (g : Nat) (vr : Value) (a : AsD) (h : As B w g vr a) :
    Calls Tryd.prog 11 #[.pointer (some ⟨g, 0, none⟩)] w fun e w' => e = .returned (.int .i64 (if a.st = 4 then 0 else 3)) ∧ DidA B w g vr (if a.st = 4 then { a with st := 5 } else a) w' := by
  have HAS := hid h
  obtain ⟨vk, vp, vs, r1, r2, r3, r4, r5, r6⟩ := id h
  have HA := hid r1
  have c15 := HA.out.at 15 (by simp [AsD.cells])
  simp only [AsD.cells, List.getElem_cons_succ, List.getElem_cons_zero] at c15
  have f15 := HA.out.frozen 15
  by_cases q0 : a.st = 4
  · have z0 : ((a.st : Int) != 4) = false := by simp; omega
    rw [if_pos q0, if_pos q0]
    have HC1 := hid (show Chg (fun k => k = g) w (w.setCell ⟨g, 15, none⟩ (.int .u8 5)) from (Chg.refl (fun k => k = g) w).set ⟨g, 15, none⟩ _ (.inl rfl))
    have HASX := hid (show As B (w.setCell ⟨g, 15, none⟩ (.int .u8 5)) g vr { a with st := 5 } from ⟨vk, vp, vs, r1.store 15 (.int .u8 5), r2, r3.chg HC1.out (own_ne_row r3 r1 (by decide)), r4.chg HC1.out (own_ne_row r4 r1 (by decide)), outs_g r5 r1 (by decide) (by decide) HC1.out, r6.chg HC1.out (own_ne_row r6 r1 (by decide))⟩)
    clear q0 r1 r2 r3 r4 r5 r6 h
    go_enter Tryd.func11, Tryd.ntmps11
    go_wp2_with fail
    go_ret
    exact ⟨rfl, vr, HASX.out, fun _ h => .inl h, HC1.out.weak (fun _ _ e => .inl e)⟩
  · have z0 : ((a.st : Int) != 4) = true := by simp; omega
    rw [if_neg q0, if_neg q0]
    clear q0 r1 r2 r3 r4 r5 r6 h
    go_enter Tryd.func11, Tryd.ntmps11
    go_wp2_with fail
    go_ret
    exact ⟨rfl, Did.refl HAS.out⟩
set_option maxRecDepth 100000 in
set_option maxHeartbeats 2000000 in
theorem out_any (B : Nat) (w : World) (g : Nat) (vr : Value) (a : AsD) (h : As B w g vr a) :
    Calls Tryd.prog 19 #[.pointer (some ⟨g, 0, none⟩)] w fun e w' => e = .returned vr ∧ As B w' g (.slice none 0 0) { a with row := [] } ∧ OutsAt 59 5 B w' vr a.row ∧ Chg (fun k => k = g) w w' := by
  obtain ⟨vk, vp, vs, r1, r2, r3, r4, r5, r6⟩ := id h
  obtain ⟨p9, n9, c9, rfl⟩ : ∃ p n c, vr = Value.slice p n c := by
    obtain ⟨ss, -, h2, -⟩ := r5
    obtain ⟨-, ⟨e, -⟩ | ⟨gg, m, sp, -, e, -⟩⟩ := h2
    · exact ⟨_, _, _, e⟩
    · exact ⟨_, _, _, e⟩
  have HA := hid r1
  have c26 := HA.out.at 26 (by simp [AsD.cells])
  simp only [AsD.cells, List.getElem_cons_succ, List.getElem_cons_zero] at c26
  have f26 := HA.out.frozen 26
  have HC1 := hid (show Chg (fun k => k = g) w (w.setCell ⟨g, 26, none⟩ (.slice none 0 0)) from (Chg.refl (fun k => k = g) w).set ⟨g, 26, none⟩ _ (.inl rfl))
  have HASX := hid (show As B (w.setCell ⟨g, 26, none⟩ (.slice none 0 0)) g (.slice none 0 0) { a with row := [] } from ⟨vk, vp, vs, r1.store 26 (.slice none 0 0), r2, r3.chg HC1.out (own_ne_row r3 r1 (by decide)), r4.chg HC1.out (own_ne_row r4 r1 (by decide)), OutsAt.nil _ _ _ _, r6.chg HC1.out (own_ne_row r6 r1 (by decide))⟩)
  have HO := hid (outs_g r5 r1 (by decide) (by decide) HC1.out)
  clear r1 r2 r3 r4 r5 r6 h
  go_enter Tryd.func19, Tryd.ntmps19
  go_wp2_with fail
  go_ret
  exact ⟨rfl, HASX.out, HO.out, HC1.out⟩
end Go.Proofs.YtiimlanbbfhkjaaDoor

/- runs, met, parted: two ends go on for some ticks; have they met, or parted? Conditions: they lie as they should. -/
import Derived.Test.YtiimlanbbfhkjaaDoorAsTurn
import Derived.BigQuiet
set_option linter.unusedSimpArgs false
set_option linter.unusedVariables false



namespace Go.FL

/-- Have they met? -/
def metD (T : TwoD) : Prop := T.a.st = 4 ∧ T.b.st = 4 ∧ T.a.tag = T.b.peer.tag ∧ T.a.peer.tag = T.b.tag ∧ T.a.tag ≠ 0 ∧ T.a.peer.tag ≠ 0 ∧ T.ea.began = true ∧ T.eb.began = true ∧ T.ea.peer.tag = T.a.peer.tag ∧ T.eb.peer.tag = T.a.tag ∧ T.ea.peer.tsn = T.eb.tsn ∧ T.eb.peer.tsn = T.ea.tsn
/-- Have they parted? -/
def partedD (T : TwoD) : Bool := decide (T.a.st = 0) && decide (T.b.st = 0) && T.ea.ended && T.eb.ended && T.ea.clean && T.eb.clean
end Go.FL

namespace Go.Proofs.YtiimlanbbfhkjaaDoor

open Go.RowKit Go.FL Go.ChangeShapes

set_option maxRecDepth 100000 in
set_option maxHeartbeats 4000000 in
theorem runs_any (w0 : World) (hlaid : ShaLaid w0) (w : World) (G : Below w0.heap.size w0 w) (t ga gb : Nat) (vra vrb : Value) (T T' : TwoD) (h : Two w0.heap.size w t ga gb vra vrb T) (lost : Nat) (hlost : lost < 18446744073709551616) (n : Nat) (hn : n < 1000000) (hT : runsD lost n T = some T') :
    Calls Tryd.prog 9 #[.pointer (some ⟨t, 0, none⟩), .int .u64 (lost : Int), .int .i64 (n : Int)] w fun e w' => e = .returned (.bool true) ∧ ∃ vra' vrb', Two w0.heap.size w' t ga gb vra' vrb' T' ∧ Below w0.heap.size w0 w' := by
  have HLD := hid hlaid
  have HLO := hid hlost
  have HNN := hid hn
  have HL0 := hid (show ∃ vra vrb Ti, Two w0.heap.size w t ga gb vra vrb Ti ∧ Below w0.heap.size w0 w ∧ runsD lost (n - 0) Ti = some T' from ⟨vra, vrb, T, h, G, hT⟩)
  clear hlaid hlost h G hT hn
  go_enter Tryd.func9, Tryd.ntmps9
  go_wp2_with fail
  go_loopw [7] (fun y wr => ∃ i : Nat, i ≤ n ∧ y = .int .i64 (i : Int) ∧ Hid (∃ vra vrb Ti, Two w0.heap.size wr t ga gb vra vrb Ti ∧ Below w0.heap.size w0 wr ∧ runsD lost (n - i) Ti = some T')) (fun y _ => n - (intOf y).toNat)
  case atStart => exact ⟨0, Nat.zero_le _, rfl, HL0⟩
  case round =>
    obtain ⟨i, hi, rfl, HL⟩ := hrel
    clear HL0
    by_cases hlt : i < n
    · obtain ⟨va, vb, Ti, h2, g2, r2⟩ := HL.out
      rw [show n - i = (n - (i + 1)) + 1 by omega] at r2
      unfold runsD at r2
      cases hq : turnD lost Ti with
      | none => rw [hq] at r2; cases r2
      | some Tj =>
        rw [hq] at r2
        simp only [Option.bind_some] at r2
        have HT := hid hq
        have HR := hid r2
        have H2 := hid h2
        have G2 := hid g2
        have HLT := hid hlt
        have zi : (i : Int) < (n : Int) := by omega
        have hwi : IntKind.i64.wrap ((i : Int) + 1) = ((i + 1 : Nat) : Int) := by have := HNN.out; rw [IntKind.wrap_i64]; omega
        clear hq r2 h2 g2 HL hi hlt
        go_wp2_with fail
        refine (turn_any w0 HLD.out _ G2.out t ga gb va vb Ti Tj H2.out lost HLO.out HT.out).mono ?_
        rintro e w3 ⟨rfl, va3, vb3, h3, g3⟩
        have HL := hid (show ∃ vra vrb Ti, Two w0.heap.size w3 t ga gb vra vrb Ti ∧ Below w0.heap.size w0 w3 ∧ runsD lost (n - (i + 1)) Ti = some T' from ⟨va3, vb3, Tj, h3, g3, HR.out⟩)
        clear h3 g3
        go_wp2_with fail
        go_roundw
        case rel => exact ⟨i + 1, by have := HLT.out; omega, by go_num, HL⟩
        case measure => have := HLT.out; simp [intOf]; omega
    · have hin : n = i := by omega
      subst hin
      obtain ⟨va, vb, Ti, h2, g2, r2⟩ := HL.out
      rw [show n - n = 0 by omega] at r2
      simp only [runsD, Option.some.injEq] at r2
      subst r2
      have HF := hid (show ∃ vra' vrb', Two w0.heap.size wr t ga gb vra' vrb' Ti ∧ Below w0.heap.size w0 wr from ⟨va, vb, h2, g2⟩)
      clear h2 g2 HL hlt hi
      go_wp2_with fail
      go_ret
      exact ⟨rfl, HF.out⟩
set_option maxRecDepth 100000 in
set_option maxHeartbeats 4000000 in
theorem met_yes (B : Nat) (w : World) (t ga gb : Nat) (vra vrb : Value) (T : TwoD) (h : Two B w t ga gb vra vrb T) (hm : metD T) :
    Calls Tryd.prog 10 #[.pointer (some ⟨t, 0, none⟩)] w fun e w' => e = .returned (.bool true) ∧ Below w.heap.size w w' := by
  obtain ⟨m1, m2, m3, m4, m5, m6, m7, m8, m9, m10, m11, m12⟩ := hm
  have HA := hid h.pa
  have HB := hid h.pb
  have HTW := hid h.two
  have c0 := HTW.out.at 0 (by simp [TwoD.cells])
  have c1 := HTW.out.at 1 (by simp [TwoD.cells])
  have c4 := HTW.out.at 4 (by simp [TwoD.cells])
  have c14 := HTW.out.at 14 (by simp [TwoD.cells])
  have c7 := HTW.out.at 7 (by simp [TwoD.cells])
  have c17 := HTW.out.at 17 (by simp [TwoD.cells])
  have c11 := HTW.out.at 11 (by simp [TwoD.cells])
  have c21 := HTW.out.at 21 (by simp [TwoD.cells])
  have c13 := HTW.out.at 13 (by simp [TwoD.cells])
  have c23 := HTW.out.at 23 (by simp [TwoD.cells])
  simp only [TwoD.cells, List.getElem_cons_succ, List.getElem_cons_zero] at c0 c1 c4 c14 c7 c17 c11 c21 c13 c23
  rw [m7] at c4
  rw [m8] at c14
  rw [m9] at c7
  rw [m10] at c17
  rw [m11] at c11
  rw [m12] at c21
  obtain ⟨p, hp⟩ : ∃ y, y = T.a.tag := ⟨_, rfl⟩
  obtain ⟨q, hq⟩ : ∃ y, y = T.a.peer.tag := ⟨_, rfl⟩
  obtain ⟨x1, hx1⟩ : ∃ y, y = T.eb.tsn := ⟨_, rfl⟩
  obtain ⟨x2, hx2⟩ : ∃ y, y = T.ea.tsn := ⟨_, rfl⟩
  rw [← hp] at c17 m3 m5
  rw [← hq] at c7 m4 m6
  rw [← hx1] at c11 c23
  rw [← hx2] at c21 c13
  have HP := hid hp
  have HQ := hid hq
  have H34 := hid (And.intro m3 m4)
  have H12 := hid (And.intro m1 m2)
  have zp : ((p : Int) != 0) = true := by simp; omega
  have zq : ((q : Int) != 0) = true := by simp; omega
  clear m1 m2 m3 m4 m5 m6 m7 m8 m9 m10 m11 m12 h hp hq hx1 hx2
  go_enter Tryd.func10, Tryd.ntmps10
  go_wp2_with fail
  refine (tags_any B _ ga vra T.a HA.out).mono ?_
  rintro e w1 ⟨rfl, n1, rfl⟩
  rw [← HP.out, ← HQ.out]
  have HA1 := hid (AsAt.mono HA.out (w' := w.drewN n1) ⟨rfl, rfl, rfl, Nat.le_refl _, fun _ _ => rfl⟩)
  have HB1 := hid (AsAt.mono HB.out (w' := w.drewN n1) ⟨rfl, rfl, rfl, Nat.le_refl _, fun _ _ => rfl⟩)
  go_wp2_with fail
  refine (tags_any B _ gb vrb T.b HB1.out).mono ?_
  rintro e w1 ⟨rfl, n2, rfl⟩
  rw [← H34.out.1, ← H34.out.2]
  have HA2 := hid (AsAt.mono HA1.out (w' := (w.drewN n1).drewN n2) ⟨rfl, rfl, rfl, Nat.le_refl _, fun _ _ => rfl⟩)
  have HB2 := hid (AsAt.mono HB1.out (w' := (w.drewN n1).drewN n2) ⟨rfl, rfl, rfl, Nat.le_refl _, fun _ _ => rfl⟩)
  go_wp2_with fail
  have hww : ∀ k, k ≤ n1 + n2 → True := fun _ _ => trivial
  simp only [World.drewN_drewN, List.append_eq, List.cons_append, List.nil_append]
  obtain ⟨W, hW⟩ : ∃ y, y = w.drewN (n1 + n2) := ⟨_, rfl⟩
  rw [← hW]
  have C0 := hid (show W.cell? ⟨t, 0, none⟩ = some (.pointer (some ⟨ga, 0, none⟩)) by rw [hW]; exact c0)
  have C1 := hid (show W.cell? ⟨t, 1, none⟩ = some (.pointer (some ⟨gb, 0, none⟩)) by rw [hW]; exact c1)
  have C4 := hid (show W.cell? ⟨t, 4, none⟩ = some (.bool true) by rw [hW]; exact c4)
  have C14 := hid (show W.cell? ⟨t, 14, none⟩ = some (.bool true) by rw [hW]; exact c14)
  have C7 := hid (show W.cell? ⟨t, 7, none⟩ = some (.int .u32 (q : Int)) by rw [hW]; exact c7)
  have C17 := hid (show W.cell? ⟨t, 17, none⟩ = some (.int .u32 (p : Int)) by rw [hW]; exact c17)
  have C11 := hid (show W.cell? ⟨t, 11, none⟩ = some (.int .u32 (x1 : Int)) by rw [hW]; exact c11)
  have C23 := hid (show W.cell? ⟨t, 23, none⟩ = some (.int .u32 (x1 : Int)) by rw [hW]; exact c23)
  have C21 := hid (show W.cell? ⟨t, 21, none⟩ = some (.int .u32 (x2 : Int)) by rw [hW]; exact c21)
  have C13 := hid (show W.cell? ⟨t, 13, none⟩ = some (.int .u32 (x2 : Int)) by rw [hW]; exact c13)
  have GW := hid (show Below w.heap.size w W by rw [hW]; exact ⟨rfl, rfl, rfl, Nat.le_refl _, fun _ _ => rfl⟩)
  have HSA := hid (show ∀ wx, Below W.heap.size W wx → Calls Tryd.prog 21 #[.pointer (some ⟨ga, 0, none⟩)] wx fun e w' => e = .returned (.int .u8 4) ∧ wx = w' from fun wx hx => by
    have h := state_any B wx ga vra T.a (AsAt.mono HA.out (gr_trans GW.out hx))
    rw [H12.out.1] at h
    exact h)
  have HSB := hid (show ∀ wx, Below W.heap.size W wx → Calls Tryd.prog 21 #[.pointer (some ⟨gb, 0, none⟩)] wx fun e w' => e = .returned (.int .u8 4) ∧ wx = w' from fun wx hx => by
    have h := state_any B wx gb vrb T.b (AsAt.mono HB.out (gr_trans GW.out hx))
    rw [H12.out.2] at h
    exact h)
  have ZP := hid zp
  have ZQ := hid zq
  clear hww hW zp zq c0 c1 c4 c14 c7 c17 c11 c21 c13 c23 HA1 HB1 HA2 HB2
  refine wp_region_gr [Is (.pointer (some ⟨t, 0, none⟩)), Is (.pointer (some ⟨t, 0, none⟩)), Is (.pointer (some ⟨t, 0, none⟩)), Is (.pointer (some ⟨ga, 0, none⟩)), Is (.int .u8 4), Is (.bool true), Is (.bool true), Is (.pointer (some ⟨t, 0, none⟩)), Is (.pointer (some ⟨t, 0, none⟩)), Is (.pointer (some ⟨t, 1, none⟩)), Is (.pointer (some ⟨gb, 0, none⟩)), Is (.int .u8 4), Is (.bool true), Is (.bool true), Is (.bool true), Is (.int .u32 (p : Int)), Is (.int .u32 (p : Int)), Is (.bool true), Is (.bool true), Is (.bool true), Is (.int .u32 (q : Int)), Is (.int .u32 (q : Int)), Is (.bool true), Is (.bool true), Is (.bool true), Is (.int .u32 (p : Int)), Is (.bool true), Is (.bool true), Is (.bool true), Is (.int .u32 (q : Int)), Is (.bool true), Is (.bool true), Is (.bool true), Is (.pointer (some ⟨t, 0, none⟩)), Is (.pointer (some ⟨t, 0, none⟩)), Is (.pointer (some ⟨t, 4, none⟩)), Is (.pointer (some ⟨t, 4, none⟩)), Is (.bool true), Is (.bool true), Is (.bool true), Is (.pointer (some ⟨t, 0, none⟩)), Is (.pointer (some ⟨t, 0, none⟩)), Is (.pointer (some ⟨t, 14, none⟩)), Is (.pointer (some ⟨t, 14, none⟩)), Is (.bool true), Is (.bool true), Is (.bool true), Is (.pointer (some ⟨t, 0, none⟩)), Is (.pointer (some ⟨t, 0, none⟩)), Is (.pointer (some ⟨t, 4, none⟩)), Is (.pointer (some ⟨t, 7, none⟩)), Is (.pointer (some ⟨t, 7, none⟩)), Is (.int .u32 (q : Int)), Is (.int .u32 (q : Int)), Is (.bool true), Is (.bool true), Is (.bool true), Is (.pointer (some ⟨t, 0, none⟩)), Is (.pointer (some ⟨t, 0, none⟩)), Is (.pointer (some ⟨t, 14, none⟩)), Is (.pointer (some ⟨t, 17, none⟩)), Is (.pointer (some ⟨t, 17, none⟩)), Is (.int .u32 (p : Int)), Is (.int .u32 (p : Int)), Is (.bool true), Is (.bool true), Is (.bool true), Is (.pointer (some ⟨t, 0, none⟩)), Is (.pointer (some ⟨t, 0, none⟩)), Is (.pointer (some ⟨t, 4, none⟩)), Is (.pointer (some ⟨t, 7, none⟩)), Is (.pointer (some ⟨t, 11, none⟩)), Is (.int .u32 (x1 : Int)), Is (.pointer (some ⟨t, 0, none⟩)), Is (.pointer (some ⟨t, 0, none⟩)), Is (.pointer (some ⟨t, 14, none⟩)), Is (.pointer (some ⟨t, 23, none⟩)), Is (.int .u32 (x1 : Int)), Is (.bool true), Is (.bool true), Is (.bool true), Is (.pointer (some ⟨t, 0, none⟩)), Is (.pointer (some ⟨t, 0, none⟩)), Is (.pointer (some ⟨t, 14, none⟩)), Is (.pointer (some ⟨t, 17, none⟩)), Is (.pointer (some ⟨t, 21, none⟩)), Is (.int .u32 (x2 : Int)), Is (.pointer (some ⟨t, 0, none⟩)), Is (.pointer (some ⟨t, 0, none⟩)), Is (.pointer (some ⟨t, 4, none⟩)), Is (.pointer (some ⟨t, 13, none⟩)), Is (.int .u32 (x2 : Int)), Is (.bool true), Is (.bool true), Is (.bool true)] (by kernel_rfl) (by kernel_rfl) (by kernel_rfl) ?_ ?_ ?_
  · simp only [StabAll, Is.gr, RdF.gr, OwnF.gr, AnyF.gr, and_self]
  · try (rename_i Kk hKk; clear hKk Kk)
    simp only [AllOps, List.map_cons, List.map_nil, depsOf, List.filterMap_cons, List.filterMap_nil, Region.binds, depFacts, guardF, reduceIte, List.getD_eq_getElem?_getD, List.getElem?_cons_succ, List.getElem?_cons_zero, Option.getD_some, factAt, and_true]
    refine ⟨?_, ?_, ?_, ?_, ?_, ?_, ?_, ?_, ?_, ?_, ?_, ?_, ?_, ?_, ?_, ?_, ?_, ?_, ?_, ?_, ?_, ?_, ?_, ?_, ?_, ?_, ?_, ?_, ?_, ?_, ?_, ?_, ?_, ?_, ?_, ?_, ?_, ?_, ?_, ?_, ?_, ?_, ?_, ?_, ?_, ?_, ?_, ?_, ?_, ?_, ?_, ?_, ?_, ?_, ?_, ?_, ?_, ?_, ?_, ?_, ?_, ?_, ?_, ?_, ?_, ?_, ?_, ?_, ?_, ?_, ?_, ?_, ?_, ?_, ?_, ?_, ?_, ?_, ?_, ?_, ?_, ?_, ?_, ?_, ?_, ?_, ?_, ?_, ?_, ?_, ?_, ?_, ?_, ?_, ?_⟩
    all_goals intro ρ wv hρ hR hd
    all_goals try simp only [Is] at hd
    · exact opOk_move (.inl rfl) ⟨by simp only [Is]; (first | exact hρ.2 0 rfl | exact hd | exact hd.1 | exact hd.2 | simp [hd]), GrR.refl _⟩
    · exact opOk_val (v := .pointer (some ⟨t, 0, none⟩)) (w' := wv) (by simp [execOp, go_sem, hρ.1.const, hρ.1.func, hd]) ⟨rfl, GrR.refl _⟩
    · exact opOk_val (v := .pointer (some ⟨t, 0, none⟩)) (w' := wv) (by simp [execOp, go_sem, hρ.1.const, hρ.1.func, hd]) ⟨rfl, GrR.refl _⟩
    · (have h0 := cell?_of_below hR C0.out; exact opOk_val (v := .pointer (some ⟨ga, 0, none⟩)) (w' := wv) (by simp [execOp, go_sem, hd, h0]) ⟨rfl, GrR.refl _⟩)
    · exact opOk_call hρ.1 rfl rfl Tryd.func21 (by kernel_rfl) rfl (by simp [hd, hρ.1.const, hρ.1.func]) ((HSA.out wv hR).mono fun e w' ⟨h1, h2⟩ => ⟨_, h1, rfl, h2 ▸ GrR.refl _⟩)
    · exact opOk_val (v := .bool true) (w' := wv) (by simp [execOp, go_sem, hρ.1.const, hρ.1.func, hd]) ⟨rfl, GrR.refl _⟩
    · exact opOk_move (.inl rfl) ⟨by simp only [Is]; (first | exact hρ.2 28 rfl | exact hd | exact hd.1 | exact hd.2 | simp [hd]), GrR.refl _⟩
    · refine ⟨fun _ => ?_, fun hg => absurd (by simp [hd]) hg⟩; exact opOk_move (.inl rfl) ⟨by simp only [Is]; (first | exact hρ.2 0 rfl | exact hd | exact hd.1 | exact hd.2 | simp [hd]), GrR.refl _⟩
    · refine ⟨fun _ => ?_, fun hg => absurd (by simp [hd]) hg⟩; exact opOk_val (v := .pointer (some ⟨t, 0, none⟩)) (w' := wv) (by simp [execOp, go_sem, hρ.1.const, hρ.1.func, hd]) ⟨rfl, GrR.refl _⟩
    · refine ⟨fun _ => ?_, fun hg => absurd (by simp [hd]) hg⟩; exact opOk_val (v := .pointer (some ⟨t, 1, none⟩)) (w' := wv) (by simp [execOp, go_sem, hρ.1.const, hρ.1.func, hd]) ⟨rfl, GrR.refl _⟩
    · refine ⟨fun _ => ?_, fun hg => absurd (by simp [hd]) hg⟩; (have h0 := cell?_of_below hR C1.out; exact opOk_val (v := .pointer (some ⟨gb, 0, none⟩)) (w' := wv) (by simp [execOp, go_sem, hd, h0]) ⟨rfl, GrR.refl _⟩)
    · refine ⟨fun _ => ?_, fun hg => absurd (by simp [hd]) hg⟩; exact opOk_call hρ.1 rfl rfl Tryd.func21 (by kernel_rfl) rfl (by simp [hd, hρ.1.const, hρ.1.func]) ((HSB.out wv hR).mono fun e w' ⟨h1, h2⟩ => ⟨_, h1, rfl, h2 ▸ GrR.refl _⟩)
    · refine ⟨fun _ => ?_, fun hg => absurd (by simp [hd]) hg⟩; exact opOk_val (v := .bool true) (w' := wv) (by simp [execOp, go_sem, hρ.1.const, hρ.1.func, hd]) ⟨rfl, GrR.refl _⟩
    · exact opOk_val (v := .bool true) (w' := wv) (by simp [execOp, go_sem, hρ.1.const, hρ.1.func, hd]) ⟨rfl, GrR.refl _⟩
    · exact opOk_move (.inl rfl) ⟨by simp only [Is]; (first | exact hρ.2 36 rfl | exact hd | exact hd.1 | exact hd.2 | simp [hd]), GrR.refl _⟩
    · refine ⟨fun _ => ?_, fun hg => absurd (by simp [hd]) hg⟩; exact opOk_move (.inl rfl) ⟨by simp only [Is]; (first | exact hρ.2 3 rfl | exact hd | exact hd.1 | exact hd.2 | simp [hd]), GrR.refl _⟩
    · refine ⟨fun _ => ?_, fun hg => absurd (by simp [hd]) hg⟩; exact opOk_move (.inl rfl) ⟨by simp only [Is]; (first | exact hρ.2 6 rfl | exact hd | exact hd.1 | exact hd.2 | simp [hd]), GrR.refl _⟩
    · refine ⟨fun _ => ?_, fun hg => absurd (by simp [hd]) hg⟩; exact opOk_val (v := .bool true) (w' := wv) (by simp [execOp, go_sem, hρ.1.const, hρ.1.func, hd]) ⟨rfl, GrR.refl _⟩
    · exact opOk_val (v := .bool true) (w' := wv) (by simp [execOp, go_sem, hρ.1.const, hρ.1.func, hd]) ⟨rfl, GrR.refl _⟩
    · exact opOk_move (.inl rfl) ⟨by simp only [Is]; (first | exact hρ.2 41 rfl | exact hd | exact hd.1 | exact hd.2 | simp [hd]), GrR.refl _⟩
    · refine ⟨fun _ => ?_, fun hg => absurd (by simp [hd]) hg⟩; exact opOk_move (.inl rfl) ⟨by simp only [Is]; (first | exact hρ.2 4 rfl | exact hd | exact hd.1 | exact hd.2 | simp [hd]), GrR.refl _⟩
    · refine ⟨fun _ => ?_, fun hg => absurd (by simp [hd]) hg⟩; exact opOk_move (.inl rfl) ⟨by simp only [Is]; (first | exact hρ.2 5 rfl | exact hd | exact hd.1 | exact hd.2 | simp [hd]), GrR.refl _⟩
    · refine ⟨fun _ => ?_, fun hg => absurd (by simp [hd]) hg⟩; exact opOk_val (v := .bool true) (w' := wv) (by simp [execOp, go_sem, hρ.1.const, hρ.1.func, hd]) ⟨rfl, GrR.refl _⟩
    · exact opOk_val (v := .bool true) (w' := wv) (by simp [execOp, go_sem, hρ.1.const, hρ.1.func, hd]) ⟨rfl, GrR.refl _⟩
    · exact opOk_move (.inl rfl) ⟨by simp only [Is]; (first | exact hρ.2 46 rfl | exact hd | exact hd.1 | exact hd.2 | simp [hd]), GrR.refl _⟩
    · refine ⟨fun _ => ?_, fun hg => absurd (by simp [hd]) hg⟩; exact opOk_move (.inl rfl) ⟨by simp only [Is]; (first | exact hρ.2 3 rfl | exact hd | exact hd.1 | exact hd.2 | simp [hd]), GrR.refl _⟩
    · refine ⟨fun _ => ?_, fun hg => absurd (by simp [hd]) hg⟩; exact opOk_val (v := .bool true) (w' := wv) (by simp [execOp, go_sem, hρ.1.const, hρ.1.func, hd, ZP.out, ZQ.out]) ⟨rfl, GrR.refl _⟩
    · exact opOk_val (v := .bool true) (w' := wv) (by simp [execOp, go_sem, hρ.1.const, hρ.1.func, hd]) ⟨rfl, GrR.refl _⟩
    · exact opOk_move (.inl rfl) ⟨by simp only [Is]; (first | exact hρ.2 50 rfl | exact hd | exact hd.1 | exact hd.2 | simp [hd]), GrR.refl _⟩
    · refine ⟨fun _ => ?_, fun hg => absurd (by simp [hd]) hg⟩; exact opOk_move (.inl rfl) ⟨by simp only [Is]; (first | exact hρ.2 4 rfl | exact hd | exact hd.1 | exact hd.2 | simp [hd]), GrR.refl _⟩
    · refine ⟨fun _ => ?_, fun hg => absurd (by simp [hd]) hg⟩; exact opOk_val (v := .bool true) (w' := wv) (by simp [execOp, go_sem, hρ.1.const, hρ.1.func, hd, ZP.out, ZQ.out]) ⟨rfl, GrR.refl _⟩
    · exact opOk_val (v := .bool true) (w' := wv) (by simp [execOp, go_sem, hρ.1.const, hρ.1.func, hd]) ⟨rfl, GrR.refl _⟩
    · exact opOk_move (.inl rfl) ⟨by simp only [Is]; (first | exact hρ.2 54 rfl | exact hd | exact hd.1 | exact hd.2 | simp [hd]), GrR.refl _⟩
    · refine ⟨fun _ => ?_, fun hg => absurd (by simp [hd]) hg⟩; exact opOk_move (.inl rfl) ⟨by simp only [Is]; (first | exact hρ.2 0 rfl | exact hd | exact hd.1 | exact hd.2 | simp [hd]), GrR.refl _⟩
    · refine ⟨fun _ => ?_, fun hg => absurd (by simp [hd]) hg⟩; exact opOk_val (v := .pointer (some ⟨t, 0, none⟩)) (w' := wv) (by simp [execOp, go_sem, hρ.1.const, hρ.1.func, hd]) ⟨rfl, GrR.refl _⟩
    · refine ⟨fun _ => ?_, fun hg => absurd (by simp [hd]) hg⟩; exact opOk_val (v := .pointer (some ⟨t, 4, none⟩)) (w' := wv) (by simp [execOp, go_sem, hρ.1.const, hρ.1.func, hd]) ⟨rfl, GrR.refl _⟩
    · refine ⟨fun _ => ?_, fun hg => absurd (by simp [hd]) hg⟩; exact opOk_val (v := .pointer (some ⟨t, 4, none⟩)) (w' := wv) (by simp [execOp, go_sem, hρ.1.const, hρ.1.func, hd]) ⟨rfl, GrR.refl _⟩
    · refine ⟨fun _ => ?_, fun hg => absurd (by simp [hd]) hg⟩; (have h0 := cell?_of_below hR C4.out; exact opOk_val (v := .bool true) (w' := wv) (by simp [execOp, go_sem, hd, h0]) ⟨rfl, GrR.refl _⟩)
    · exact opOk_val (v := .bool true) (w' := wv) (by simp [execOp, go_sem, hρ.1.const, hρ.1.func, hd]) ⟨rfl, GrR.refl _⟩
    · exact opOk_move (.inl rfl) ⟨by simp only [Is]; (first | exact hρ.2 61 rfl | exact hd | exact hd.1 | exact hd.2 | simp [hd]), GrR.refl _⟩
    · refine ⟨fun _ => ?_, fun hg => absurd (by simp [hd]) hg⟩; exact opOk_move (.inl rfl) ⟨by simp only [Is]; (first | exact hρ.2 0 rfl | exact hd | exact hd.1 | exact hd.2 | simp [hd]), GrR.refl _⟩
    · refine ⟨fun _ => ?_, fun hg => absurd (by simp [hd]) hg⟩; exact opOk_val (v := .pointer (some ⟨t, 0, none⟩)) (w' := wv) (by simp [execOp, go_sem, hρ.1.const, hρ.1.func, hd]) ⟨rfl, GrR.refl _⟩
    · refine ⟨fun _ => ?_, fun hg => absurd (by simp [hd]) hg⟩; exact opOk_val (v := .pointer (some ⟨t, 14, none⟩)) (w' := wv) (by simp [execOp, go_sem, hρ.1.const, hρ.1.func, hd]) ⟨rfl, GrR.refl _⟩
    · refine ⟨fun _ => ?_, fun hg => absurd (by simp [hd]) hg⟩; exact opOk_val (v := .pointer (some ⟨t, 14, none⟩)) (w' := wv) (by simp [execOp, go_sem, hρ.1.const, hρ.1.func, hd]) ⟨rfl, GrR.refl _⟩
    · refine ⟨fun _ => ?_, fun hg => absurd (by simp [hd]) hg⟩; (have h0 := cell?_of_below hR C14.out; exact opOk_val (v := .bool true) (w' := wv) (by simp [execOp, go_sem, hd, h0]) ⟨rfl, GrR.refl _⟩)
    · exact opOk_val (v := .bool true) (w' := wv) (by simp [execOp, go_sem, hρ.1.const, hρ.1.func, hd]) ⟨rfl, GrR.refl _⟩
    · exact opOk_move (.inl rfl) ⟨by simp only [Is]; (first | exact hρ.2 68 rfl | exact hd | exact hd.1 | exact hd.2 | simp [hd]), GrR.refl _⟩
    · refine ⟨fun _ => ?_, fun hg => absurd (by simp [hd]) hg⟩; exact opOk_move (.inl rfl) ⟨by simp only [Is]; (first | exact hρ.2 0 rfl | exact hd | exact hd.1 | exact hd.2 | simp [hd]), GrR.refl _⟩
    · refine ⟨fun _ => ?_, fun hg => absurd (by simp [hd]) hg⟩; exact opOk_val (v := .pointer (some ⟨t, 0, none⟩)) (w' := wv) (by simp [execOp, go_sem, hρ.1.const, hρ.1.func, hd]) ⟨rfl, GrR.refl _⟩
    · refine ⟨fun _ => ?_, fun hg => absurd (by simp [hd]) hg⟩; exact opOk_val (v := .pointer (some ⟨t, 4, none⟩)) (w' := wv) (by simp [execOp, go_sem, hρ.1.const, hρ.1.func, hd]) ⟨rfl, GrR.refl _⟩
    · refine ⟨fun _ => ?_, fun hg => absurd (by simp [hd]) hg⟩; exact opOk_val (v := .pointer (some ⟨t, 7, none⟩)) (w' := wv) (by simp [execOp, go_sem, hρ.1.const, hρ.1.func, hd]) ⟨rfl, GrR.refl _⟩
    · refine ⟨fun _ => ?_, fun hg => absurd (by simp [hd]) hg⟩; exact opOk_val (v := .pointer (some ⟨t, 7, none⟩)) (w' := wv) (by simp [execOp, go_sem, hρ.1.const, hρ.1.func, hd]) ⟨rfl, GrR.refl _⟩
    · refine ⟨fun _ => ?_, fun hg => absurd (by simp [hd]) hg⟩; (have h0 := cell?_of_below hR C7.out; exact opOk_val (v := .int .u32 (q : Int)) (w' := wv) (by simp [execOp, go_sem, hd, h0]) ⟨rfl, GrR.refl _⟩)
    · refine ⟨fun _ => ?_, fun hg => absurd (by simp [hd]) hg⟩; exact opOk_move (.inl rfl) ⟨by simp only [Is]; (first | exact hρ.2 4 rfl | exact hd | exact hd.1 | exact hd.2 | simp [hd]), GrR.refl _⟩
    · refine ⟨fun _ => ?_, fun hg => absurd (by simp [hd]) hg⟩; exact opOk_val (v := .bool true) (w' := wv) (by simp [execOp, go_sem, hρ.1.const, hρ.1.func, hd]) ⟨rfl, GrR.refl _⟩
    · exact opOk_val (v := .bool true) (w' := wv) (by simp [execOp, go_sem, hρ.1.const, hρ.1.func, hd]) ⟨rfl, GrR.refl _⟩
    · exact opOk_move (.inl rfl) ⟨by simp only [Is]; (first | exact hρ.2 78 rfl | exact hd | exact hd.1 | exact hd.2 | simp [hd]), GrR.refl _⟩
    · refine ⟨fun _ => ?_, fun hg => absurd (by simp [hd]) hg⟩; exact opOk_move (.inl rfl) ⟨by simp only [Is]; (first | exact hρ.2 0 rfl | exact hd | exact hd.1 | exact hd.2 | simp [hd]), GrR.refl _⟩
    · refine ⟨fun _ => ?_, fun hg => absurd (by simp [hd]) hg⟩; exact opOk_val (v := .pointer (some ⟨t, 0, none⟩)) (w' := wv) (by simp [execOp, go_sem, hρ.1.const, hρ.1.func, hd]) ⟨rfl, GrR.refl _⟩
    · refine ⟨fun _ => ?_, fun hg => absurd (by simp [hd]) hg⟩; exact opOk_val (v := .pointer (some ⟨t, 14, none⟩)) (w' := wv) (by simp [execOp, go_sem, hρ.1.const, hρ.1.func, hd]) ⟨rfl, GrR.refl _⟩
    · refine ⟨fun _ => ?_, fun hg => absurd (by simp [hd]) hg⟩; exact opOk_val (v := .pointer (some ⟨t, 17, none⟩)) (w' := wv) (by simp [execOp, go_sem, hρ.1.const, hρ.1.func, hd]) ⟨rfl, GrR.refl _⟩
    · refine ⟨fun _ => ?_, fun hg => absurd (by simp [hd]) hg⟩; exact opOk_val (v := .pointer (some ⟨t, 17, none⟩)) (w' := wv) (by simp [execOp, go_sem, hρ.1.const, hρ.1.func, hd]) ⟨rfl, GrR.refl _⟩
    · refine ⟨fun _ => ?_, fun hg => absurd (by simp [hd]) hg⟩; (have h0 := cell?_of_below hR C17.out; exact opOk_val (v := .int .u32 (p : Int)) (w' := wv) (by simp [execOp, go_sem, hd, h0]) ⟨rfl, GrR.refl _⟩)
    · refine ⟨fun _ => ?_, fun hg => absurd (by simp [hd]) hg⟩; exact opOk_move (.inl rfl) ⟨by simp only [Is]; (first | exact hρ.2 3 rfl | exact hd | exact hd.1 | exact hd.2 | simp [hd]), GrR.refl _⟩
    · refine ⟨fun _ => ?_, fun hg => absurd (by simp [hd]) hg⟩; exact opOk_val (v := .bool true) (w' := wv) (by simp [execOp, go_sem, hρ.1.const, hρ.1.func, hd]) ⟨rfl, GrR.refl _⟩
    · exact opOk_val (v := .bool true) (w' := wv) (by simp [execOp, go_sem, hρ.1.const, hρ.1.func, hd]) ⟨rfl, GrR.refl _⟩
    · exact opOk_move (.inl rfl) ⟨by simp only [Is]; (first | exact hρ.2 88 rfl | exact hd | exact hd.1 | exact hd.2 | simp [hd]), GrR.refl _⟩
    · refine ⟨fun _ => ?_, fun hg => absurd (by simp [hd]) hg⟩; exact opOk_move (.inl rfl) ⟨by simp only [Is]; (first | exact hρ.2 0 rfl | exact hd | exact hd.1 | exact hd.2 | simp [hd]), GrR.refl _⟩
    · refine ⟨fun _ => ?_, fun hg => absurd (by simp [hd]) hg⟩; exact opOk_val (v := .pointer (some ⟨t, 0, none⟩)) (w' := wv) (by simp [execOp, go_sem, hρ.1.const, hρ.1.func, hd]) ⟨rfl, GrR.refl _⟩
    · refine ⟨fun _ => ?_, fun hg => absurd (by simp [hd]) hg⟩; exact opOk_val (v := .pointer (some ⟨t, 4, none⟩)) (w' := wv) (by simp [execOp, go_sem, hρ.1.const, hρ.1.func, hd]) ⟨rfl, GrR.refl _⟩
    · refine ⟨fun _ => ?_, fun hg => absurd (by simp [hd]) hg⟩; exact opOk_val (v := .pointer (some ⟨t, 7, none⟩)) (w' := wv) (by simp [execOp, go_sem, hρ.1.const, hρ.1.func, hd]) ⟨rfl, GrR.refl _⟩
    · refine ⟨fun _ => ?_, fun hg => absurd (by simp [hd]) hg⟩; exact opOk_val (v := .pointer (some ⟨t, 11, none⟩)) (w' := wv) (by simp [execOp, go_sem, hρ.1.const, hρ.1.func, hd]) ⟨rfl, GrR.refl _⟩
    · refine ⟨fun _ => ?_, fun hg => absurd (by simp [hd]) hg⟩; (have h0 := cell?_of_below hR C11.out; exact opOk_val (v := .int .u32 (x1 : Int)) (w' := wv) (by simp [execOp, go_sem, hd, h0]) ⟨rfl, GrR.refl _⟩)
    · refine ⟨fun _ => ?_, fun hg => absurd (by simp [hd]) hg⟩; exact opOk_move (.inl rfl) ⟨by simp only [Is]; (first | exact hρ.2 0 rfl | exact hd | exact hd.1 | exact hd.2 | simp [hd]), GrR.refl _⟩
    · refine ⟨fun _ => ?_, fun hg => absurd (by simp [hd]) hg⟩; exact opOk_val (v := .pointer (some ⟨t, 0, none⟩)) (w' := wv) (by simp [execOp, go_sem, hρ.1.const, hρ.1.func, hd]) ⟨rfl, GrR.refl _⟩
    · refine ⟨fun _ => ?_, fun hg => absurd (by simp [hd]) hg⟩; exact opOk_val (v := .pointer (some ⟨t, 14, none⟩)) (w' := wv) (by simp [execOp, go_sem, hρ.1.const, hρ.1.func, hd]) ⟨rfl, GrR.refl _⟩
    · refine ⟨fun _ => ?_, fun hg => absurd (by simp [hd]) hg⟩; exact opOk_val (v := .pointer (some ⟨t, 23, none⟩)) (w' := wv) (by simp [execOp, go_sem, hρ.1.const, hρ.1.func, hd]) ⟨rfl, GrR.refl _⟩
    · refine ⟨fun _ => ?_, fun hg => absurd (by simp [hd]) hg⟩; (have h0 := cell?_of_below hR C23.out; exact opOk_val (v := .int .u32 (x1 : Int)) (w' := wv) (by simp [execOp, go_sem, hd, h0]) ⟨rfl, GrR.refl _⟩)
    · refine ⟨fun _ => ?_, fun hg => absurd (by simp [hd]) hg⟩; exact opOk_val (v := .bool true) (w' := wv) (by simp [execOp, go_sem, hρ.1.const, hρ.1.func, hd]) ⟨rfl, GrR.refl _⟩
    · exact opOk_val (v := .bool true) (w' := wv) (by simp [execOp, go_sem, hρ.1.const, hρ.1.func, hd]) ⟨rfl, GrR.refl _⟩
    · exact opOk_move (.inl rfl) ⟨by simp only [Is]; (first | exact hρ.2 102 rfl | exact hd | exact hd.1 | exact hd.2 | simp [hd]), GrR.refl _⟩
    · refine ⟨fun _ => ?_, fun hg => absurd (by simp [hd]) hg⟩; exact opOk_move (.inl rfl) ⟨by simp only [Is]; (first | exact hρ.2 0 rfl | exact hd | exact hd.1 | exact hd.2 | simp [hd]), GrR.refl _⟩
    · refine ⟨fun _ => ?_, fun hg => absurd (by simp [hd]) hg⟩; exact opOk_val (v := .pointer (some ⟨t, 0, none⟩)) (w' := wv) (by simp [execOp, go_sem, hρ.1.const, hρ.1.func, hd]) ⟨rfl, GrR.refl _⟩
    · refine ⟨fun _ => ?_, fun hg => absurd (by simp [hd]) hg⟩; exact opOk_val (v := .pointer (some ⟨t, 14, none⟩)) (w' := wv) (by simp [execOp, go_sem, hρ.1.const, hρ.1.func, hd]) ⟨rfl, GrR.refl _⟩
    · refine ⟨fun _ => ?_, fun hg => absurd (by simp [hd]) hg⟩; exact opOk_val (v := .pointer (some ⟨t, 17, none⟩)) (w' := wv) (by simp [execOp, go_sem, hρ.1.const, hρ.1.func, hd]) ⟨rfl, GrR.refl _⟩
    · refine ⟨fun _ => ?_, fun hg => absurd (by simp [hd]) hg⟩; exact opOk_val (v := .pointer (some ⟨t, 21, none⟩)) (w' := wv) (by simp [execOp, go_sem, hρ.1.const, hρ.1.func, hd]) ⟨rfl, GrR.refl _⟩
    · refine ⟨fun _ => ?_, fun hg => absurd (by simp [hd]) hg⟩; (have h0 := cell?_of_below hR C21.out; exact opOk_val (v := .int .u32 (x2 : Int)) (w' := wv) (by simp [execOp, go_sem, hd, h0]) ⟨rfl, GrR.refl _⟩)
    · refine ⟨fun _ => ?_, fun hg => absurd (by simp [hd]) hg⟩; exact opOk_move (.inl rfl) ⟨by simp only [Is]; (first | exact hρ.2 0 rfl | exact hd | exact hd.1 | exact hd.2 | simp [hd]), GrR.refl _⟩
    · refine ⟨fun _ => ?_, fun hg => absurd (by simp [hd]) hg⟩; exact opOk_val (v := .pointer (some ⟨t, 0, none⟩)) (w' := wv) (by simp [execOp, go_sem, hρ.1.const, hρ.1.func, hd]) ⟨rfl, GrR.refl _⟩
    · refine ⟨fun _ => ?_, fun hg => absurd (by simp [hd]) hg⟩; exact opOk_val (v := .pointer (some ⟨t, 4, none⟩)) (w' := wv) (by simp [execOp, go_sem, hρ.1.const, hρ.1.func, hd]) ⟨rfl, GrR.refl _⟩
    · refine ⟨fun _ => ?_, fun hg => absurd (by simp [hd]) hg⟩; exact opOk_val (v := .pointer (some ⟨t, 13, none⟩)) (w' := wv) (by simp [execOp, go_sem, hρ.1.const, hρ.1.func, hd]) ⟨rfl, GrR.refl _⟩
    · refine ⟨fun _ => ?_, fun hg => absurd (by simp [hd]) hg⟩; (have h0 := cell?_of_below hR C13.out; exact opOk_val (v := .int .u32 (x2 : Int)) (w' := wv) (by simp [execOp, go_sem, hd, h0]) ⟨rfl, GrR.refl _⟩)
    · refine ⟨fun _ => ?_, fun hg => absurd (by simp [hd]) hg⟩; exact opOk_val (v := .bool true) (w' := wv) (by simp [execOp, go_sem, hρ.1.const, hρ.1.func, hd]) ⟨rfl, GrR.refl _⟩
    · exact opOk_val (v := .bool true) (w' := wv) (by simp [execOp, go_sem, hρ.1.const, hρ.1.func, hd]) ⟨rfl, GrR.refl _⟩
    · exact opOk_move (.inr rfl) ⟨by simp only [Is]; (first | exact hρ.2 116 rfl | exact hd | exact hd.1 | exact hd.2 | simp [hd]), GrR.refl _⟩
  · intro vals wv hR hall
    have i94 := hall 94 (by simp)
    simp only [factAt, Is, List.getD_eq_getElem?_getD, List.getElem?_cons_succ, List.getElem?_cons_zero, Option.getD_some] at i94
    clear hall
    simp only [fillFrom, Act.put, i94, List.setIfInBounds_toArray, List.set_cons_zero, List.set_cons_succ]
    rename_i Kk hKk
    refine hKk _ _ ?_
    clear hKk Kk
    go_wp2_with fail
    go_ret
    exact ⟨rfl, gr_trans GW.out hR⟩
set_option maxRecDepth 100000 in
set_option maxHeartbeats 4000000 in
theorem parted_any (B : Nat) (w : World) (t ga gb : Nat) (vra vrb : Value) (T : TwoD) (h : Two B w t ga gb vra vrb T) :
    Calls Tryd.prog 13 #[.pointer (some ⟨t, 0, none⟩)] w fun e w' => e = .returned (.bool (partedD T)) ∧ w = w' := by
  have HA := hid h.pa
  have HB := hid h.pb
  have HTW := hid h.two
  have c0 := HTW.out.at 0 (by simp [TwoD.cells])
  have c1 := HTW.out.at 1 (by simp [TwoD.cells])
  have c5 := HTW.out.at 5 (by simp [TwoD.cells])
  have c6 := HTW.out.at 6 (by simp [TwoD.cells])
  have c15 := HTW.out.at 15 (by simp [TwoD.cells])
  have c16 := HTW.out.at 16 (by simp [TwoD.cells])
  simp only [TwoD.cells, List.getElem_cons_succ, List.getElem_cons_zero] at c0 c1 c5 c6 c15 c16
  obtain ⟨e1, he1⟩ : ∃ y, y = T.ea.ended := ⟨_, rfl⟩
  obtain ⟨e2, he2⟩ : ∃ y, y = T.eb.ended := ⟨_, rfl⟩
  obtain ⟨e3, he3⟩ : ∃ y, y = T.ea.clean := ⟨_, rfl⟩
  obtain ⟨e4, he4⟩ : ∃ y, y = T.eb.clean := ⟨_, rfl⟩
  obtain ⟨f1, hf1⟩ : ∃ y, y = decide (T.a.st = 0) := ⟨_, rfl⟩
  obtain ⟨f2, hf2⟩ : ∃ y, y = decide (T.b.st = 0) := ⟨_, rfl⟩
  have HQ := hid (show partedD T = (f1 && f2 && e1 && e2 && e3 && e4) by rw [he1, he2, he3, he4, hf1, hf2]; rfl)
  have zf1 : ((T.a.st : Int) == 0) = f1 := by rw [hf1, Bool.eq_iff_iff]; simp
  have zf2 : ((T.b.st : Int) == 0) = f2 := by rw [hf2, Bool.eq_iff_iff]; simp
  rw [← he1] at c5
  rw [← he2] at c15
  rw [← he3] at c6
  rw [← he4] at c16
  clear h he1 he2 he3 he4 hf1 hf2
  go_enter Tryd.func13, Tryd.ntmps13
  go_wp2_with fail
  refine (state_any B _ ga vra T.a HA.out).mono ?_
  rintro e w1 ⟨rfl, rfl⟩
  cases f1
  case false =>
    go_wp2_with fail
    go_ret
    exact ⟨by rw [HQ.out]; simp, rfl⟩
  go_wp2_with fail
  refine (state_any B _ gb vrb T.b HB.out).mono ?_
  rintro e w1 ⟨rfl, rfl⟩
  cases f2
  case false =>
    go_wp2_with fail
    go_ret
    exact ⟨by rw [HQ.out]; simp, rfl⟩
  cases e1
  case false =>
    go_wp2_with fail
    go_ret
    exact ⟨by rw [HQ.out]; simp, rfl⟩
  cases e2
  case false =>
    go_wp2_with fail
    go_ret
    exact ⟨by rw [HQ.out]; simp, rfl⟩
  cases e3
  case false =>
    go_wp2_with fail
    go_ret
    exact ⟨by rw [HQ.out]; simp, rfl⟩
  cases e4
  case false =>
    go_wp2_with fail
    go_ret
    exact ⟨by rw [HQ.out]; simp, rfl⟩
  go_wp2_with fail
  go_ret
  exact ⟨by rw [HQ.out]; rfl, rfl⟩
end Go.Proofs.YtiimlanbbfhkjaaDoor

/- Tick where the timer runs out. Conditions: the association lies as it should, its numbers are not too great. -/
import Derived.Test.YtiimlanbbfhkjaaDoorAsTick
import Derived.Test.YtiimlanbbfhkjaaDoorAsOn3
import Derived.Deep.CutRange
import Derived.Deep.MidRow
set_option linter.unusedSimpArgs false
set_option linter.unusedVariables false





namespace Go.FL

open Go.RowKit

/-- Behind Tick of one whose timer has run out. -/
def fireD (a : AsD) (now : Int) : AsD × EvD :=
  if a.t < a.often + 1 then (givesD { a with often := a.often + 1 }, ⟨false, true, false, .zero, 0⟩)
  else ({ a with often := a.often + 1, said := { a.said with path := (a.said.path + 1) % a.p }, row := a.row ++ [{ a.said with path := (a.said.path + 1) % a.p }], wait := min (2 * a.wait) 60, timer := now + (min (2 * a.wait) 60 : Nat) }, .none)
theorem opOk_loadMid {P : Program} {o : Oper} {ρ : Operand → Value} {w : World} {post : Value → World → Prop} {ty : TypeId} {x : Operand} (h : o.op = .load ty x) (g off : Nat) (hx : ρ x = .pointer (some ⟨g, off, none⟩)) (cells : List Value) (d : TypeDesc) (hg : w.rangeAt g off cells)
    (hu : P.underlying ty = some d) (hd : d.isRow = true) (hi : (P.info? ty).map (·.size) = some cells.length) (hp : post (.agg cells.toArray) w) : opOk P o ρ w post := by
  refine opOk_val (v := .agg cells.toArray) (w' := w) ?_ hp
  have := run_loadAt_mid (P := P) w g off ty cells d hg hu hd hi
  simp only [execOp, h, hx]
  rw [Sem.run_bind, this]
  rfl
theorem RowV.range {w : World} {g e : Nat} {l : List Value} (h : RowV w g e l) (off : Nat) (cs rest : List Value) (hd : l.drop off = cs ++ rest) : w.rangeAt g off cs := by
  intro j v hj
  rw [h.cell]
  have : (l.drop off)[j]? = some v := by
    rw [hd, List.getElem?_append_left (by have := (List.getElem?_eq_some_iff.1 hj).1; exact this)]
    exact hj
  rwa [List.getElem?_drop] at this
theorem AsAt.rowF {eA eO eB B : Nat} {w : World} {g : Nat} {vr : Value} {a : AsD} (h : AsAt eA eO eB B w g vr a) : ∃ m, RowV w g eA m := by
  obtain ⟨vk, vp, vs, r1, -⟩ := h
  exact ⟨_, r1⟩
/-- A cell of the association is laid. -/
theorem AsAt.put {eA eO eB B : Nat} {w : World} {g : Nat} {vr : Value} {a a2 : AsD} (h : AsAt eA eO eB B w g vr a) (h1 : eA ≠ eO) (h2 : eA ≠ eB) (i : Nat) (x : Value) (hc : ∀ vk vp vs, (a.cells vk vp vr vs).set i x = a2.cells vk vp vr vs) (k1 : a2.key = a.key) (k2 : a2.peer.ck = a.peer.ck) (k3 : a2.row = a.row) (k4 : a2.said.c.b = a.said.c.b) : AsAt eA eO eB B (w.setCell ⟨g, i, none⟩ x) g vr a2 := by
  obtain ⟨vk, vp, vs, hr, hB, hk, hp, ho, hs⟩ := h
  have hg : Chg (fun k => k = g) w (w.setCell ⟨g, i, none⟩ x) := (Chg.refl _ _).set ⟨g, i, none⟩ x (.inl rfl)
  refine ⟨vk, vp, vs, by have := hr.store i x; rwa [hc] at this, hB, by rw [k1]; exact hk.chg hg (own_ne_row hk hr h2), by rw [k2]; exact hp.chg hg (own_ne_row hp hr h2), by rw [k3]; exact outs_g ho hr h1 h2 hg, by rw [k4]; exact hs.chg hg (own_ne_row hs hr h2)⟩
theorem AsAt.cell {eA eO eB B : Nat} {w : World} {g : Nat} {vr : Value} {a : AsD} (h : AsAt eA eO eB B w g vr a) (i : Nat) (v : Value) (hc : ∀ vk vp vs, (a.cells vk vp vr vs)[i]? = some v) : w.cell? ⟨g, i, none⟩ = some v := by
  obtain ⟨vk, vp, vs, hr, -⟩ := h
  rw [hr.cell]
  exact hc vk vp vs
theorem AsAt.frz {eA eO eB B : Nat} {w : World} {g : Nat} {vr : Value} {a : AsD} (h : AsAt eA eO eB B w g vr a) (i : Nat) : w.frozen? ⟨g, i, none⟩ = false := by
  obtain ⟨vk, vp, vs, hr, -⟩ := h
  exact hr.frozen i
end Go.FL

namespace Go.Proofs.YtiimlanbbfhkjaaDoor

open Go.RowKit Go.FL Go.ChangeShapes

set_option maxRecDepth 100000 in
set_option maxHeartbeats 16000000 in
theorem tick_fire (B : Nat) (w : World) (g : Nat) (vr : Value) (a : AsD) (h : As B w g vr a) (now : Int) (hnow : 0 ≤ now ∧ now ≤ 2305843009213693952) (hi : a.timer ≠ -1 ∧ ¬ now < a.timer) (hb : a.said.path < 1000000 ∧ a.wait < 1000000 ∧ a.often < 1000000 ∧ a.t < 1000000 ∧ 1 ≤ a.p ∧ a.p < 1000000 ∧ a.row.length ≤ 1000000 ∧ a.peer.tag < 4294967296) :
    Calls Tryd.prog 20 #[.pointer (some ⟨g, 0, none⟩), .int .i64 now] w fun e w' => e = .returned (fireD a now).2.val ∧ DidA B w g vr (fireD a now).1 w' := by
  have HNOW := hid hnow
  have HBD := hid hb
  have HBD7 := hid hb.2.2.2.2.2.2.1
  obtain ⟨W, hW⟩ : ∃ W, W = w.alloc (.cells #[.bool false, .bool false, .bool false, .int .u32 0, .int .u32 0, .int .u16 0, .int .u16 0, .int .u32 0, .slice none 0 0, .int .u32 0] 33 (0, 0)) := ⟨_, rfl⟩
  have HEV := hid (show RowV W w.heap.size 33 [.bool false, .bool false, .bool false, .int .u32 0, .int .u32 0, .int .u16 0, .int .u16 0, .int .u32 0, .slice none 0 0, .int .u32 0] by rw [hW]; exact RowV.new w _ _)
  have G0 := hid (show Below w.heap.size w W by rw [hW]; exact (Below.refl _ _).alloc (Nat.le_refl _) _)
  have HAS := hid (h.mono G0.out)
  have HE := hid hW
  have HC27 := hid (HAS.out.cell 27 (.int .i64 a.timer) (fun _ _ _ => rfl))
  have HB1 := hid (show (a.timer == -1) = false by simpa using hi.1)
  have HB2 := hid (show ¬ now < a.timer from hi.2)
  obtain ⟨n, hn⟩ : ∃ n, n = a.often + 1 := ⟨_, rfl⟩
  have HN := hid hn
  clear h hW hnow hb hi hn
  go_enter Tryd.func20, Tryd.ntmps20
  go_wp2_with fail
  rw [← HE.out]
  refine wp_region_gr [Is (.pointer (some ⟨g, 0, none⟩)), Is (.bool false), Is (.bool false), Is (.pointer (some ⟨g, 0, none⟩)), Is (.pointer (some ⟨g, 0, none⟩)), Is (.pointer (some ⟨g, 27, none⟩)), Is (.int .i64 a.timer), Is (.bool false), Is (.bool false), Is (.bool false), Is (.pointer (some ⟨g, 0, none⟩)), Is (.pointer (some ⟨g, 0, none⟩)), Is (.pointer (some ⟨g, 27, none⟩)), Is (.int .i64 a.timer), Is (.int .i64 now), Is (.int .i64 now), Is (.bool false), Is (.bool false)] (by kernel_rfl) (by kernel_rfl) (by kernel_rfl) ?_ ?_ ?_
  · simp only [StabAll, Is.gr, RdF.gr, OwnF.gr, AnyF.gr, and_self]
  · try (rename_i Kk hKk; clear hKk Kk)
    simp only [AllOps, List.map_cons, List.map_nil, depsOf, List.filterMap_cons, List.filterMap_nil, Region.binds, depFacts, guardF, reduceIte, List.getD_eq_getElem?_getD, List.getElem?_cons_succ, List.getElem?_cons_zero, Option.getD_some, factAt, and_true]
    refine ⟨?_, ?_, ?_, ?_, ?_, ?_, ?_, ?_, ?_, ?_, ?_, ?_, ?_, ?_, ?_, ?_, ?_, ?_⟩
    all_goals intro ρ wv hρ hR hd
    all_goals try simp only [Is] at hd
    · exact opOk_move (.inl rfl) ⟨by simp only [Is]; (first | exact hρ.2 0 rfl | exact hd | exact hd.1 | exact hd.2 | simp [hd]), GrR.refl _⟩
    · exact opOk_val (v := .bool false) (w' := wv) (by simp [execOp, go_sem, hρ.1.const, hρ.1.func, hd]) ⟨rfl, GrR.refl _⟩
    · exact opOk_move (.inl rfl) ⟨by simp only [Is]; (first | exact hρ.2 6 rfl | exact hd | exact hd.1 | exact hd.2 | simp [hd]), GrR.refl _⟩
    · refine ⟨fun _ => ?_, fun hg => absurd (by simp [hd]) hg⟩; exact opOk_move (.inl rfl) ⟨by simp only [Is]; (first | exact hρ.2 0 rfl | exact hd | exact hd.1 | exact hd.2 | simp [hd]), GrR.refl _⟩
    · refine ⟨fun _ => ?_, fun hg => absurd (by simp [hd]) hg⟩; exact opOk_val (v := .pointer (some ⟨g, 0, none⟩)) (w' := wv) (by simp [execOp, go_sem, hρ.1.const, hρ.1.func, hd]) ⟨rfl, GrR.refl _⟩
    · refine ⟨fun _ => ?_, fun hg => absurd (by simp [hd]) hg⟩; exact opOk_val (v := .pointer (some ⟨g, 27, none⟩)) (w' := wv) (by simp [execOp, go_sem, hρ.1.const, hρ.1.func, hd]) ⟨rfl, GrR.refl _⟩
    · refine ⟨fun _ => ?_, fun hg => absurd (by simp [hd]) hg⟩; (have h0 := cell?_of_below hR HC27.out; exact opOk_val (v := .int .i64 a.timer) (w' := wv) (by simp [execOp, go_sem, hd, h0]) ⟨rfl, GrR.refl _⟩)
    · refine ⟨fun _ => ?_, fun hg => absurd (by simp [hd]) hg⟩; exact opOk_val (v := .bool false) (w' := wv) (by simp [execOp, go_sem, hρ.1.const, hρ.1.func, hd, HB1.out]) ⟨rfl, GrR.refl _⟩
    · exact opOk_val (v := .bool false) (w' := wv) (by simp [execOp, go_sem, hρ.1.const, hρ.1.func, hd]) ⟨rfl, GrR.refl _⟩
    · exact opOk_move (.inl rfl) ⟨by simp only [Is]; (first | exact hρ.2 13 rfl | exact hd | exact hd.1 | exact hd.2 | simp [hd]), GrR.refl _⟩
    · refine ⟨fun _ => ?_, fun hg => absurd (by simp [hd]) hg⟩; exact opOk_move (.inl rfl) ⟨by simp only [Is]; (first | exact hρ.2 0 rfl | exact hd | exact hd.1 | exact hd.2 | simp [hd]), GrR.refl _⟩
    · refine ⟨fun _ => ?_, fun hg => absurd (by simp [hd]) hg⟩; exact opOk_val (v := .pointer (some ⟨g, 0, none⟩)) (w' := wv) (by simp [execOp, go_sem, hρ.1.const, hρ.1.func, hd]) ⟨rfl, GrR.refl _⟩
    · refine ⟨fun _ => ?_, fun hg => absurd (by simp [hd]) hg⟩; exact opOk_val (v := .pointer (some ⟨g, 27, none⟩)) (w' := wv) (by simp [execOp, go_sem, hρ.1.const, hρ.1.func, hd]) ⟨rfl, GrR.refl _⟩
    · refine ⟨fun _ => ?_, fun hg => absurd (by simp [hd]) hg⟩; (have h0 := cell?_of_below hR HC27.out; exact opOk_val (v := .int .i64 a.timer) (w' := wv) (by simp [execOp, go_sem, hd, h0]) ⟨rfl, GrR.refl _⟩)
    · refine ⟨fun _ => ?_, fun hg => absurd (by simp [hd]) hg⟩; exact opOk_move (.inl rfl) ⟨by simp only [Is]; (first | exact hρ.2 1 rfl | exact hd | exact hd.1 | exact hd.2 | simp [hd]), GrR.refl _⟩
    · refine ⟨fun _ => ?_, fun hg => absurd (by simp [hd]) hg⟩; exact opOk_call hρ.1 rfl rfl Tryd.func35 (by kernel_rfl) rfl (by simp [hd, hρ.1.const, hρ.1.func]) ((clock_any now HNOW.out wv).mono fun e w' ⟨h1, h2⟩ => ⟨_, h1, rfl, h2 ▸ GrR.refl _⟩)
    · refine ⟨fun _ => ?_, fun hg => absurd (by simp [hd]) hg⟩; exact opOk_val (v := .bool false) (w' := wv) (by simp [execOp, go_sem, hρ.1.const, hρ.1.func, hd, HB2.out]) ⟨rfl, GrR.refl _⟩
    · exact opOk_val (v := .bool false) (w' := wv) (by simp [execOp, go_sem, hρ.1.const, hρ.1.func, hd]) ⟨rfl, GrR.refl _⟩
  · intro vals wv hR hall
    have i17 := hall 17 (by simp)
    simp only [factAt, Is, List.getD_eq_getElem?_getD, List.getElem?_cons_succ, List.getElem?_cons_zero, Option.getD_some] at i17
    clear hall
    simp only [fillFrom, Act.put, i17, List.setIfInBounds_toArray, List.set_cons_zero, List.set_cons_succ]
    rename_i Kk hKk
    refine hKk _ _ ?_
    clear hKk Kk
    have HRT := hid (show RowTo w vr vr from fun _ h => .inl h)
    have HCH := hid (show Chg (Mine g vr) w W from Chg.of_gr G0.out)
    obtain ⟨vx, hvx⟩ : ∃ y, y = vr := ⟨_, rfl⟩
    have HVX := hid hvx
    have hax : As B wv g vx a := by rw [hvx]; exact AsAt.mono HAS.out hR
    have hrx : RowTo w vr vx := by rw [hvx]; exact HRT.out
    have hcx := HCH.out.then (Chg.of_gr (S := fun _ => False) hR) (fun _ _ h => h.elim)
    have hex := HEV.out.mono hR
    clear HAS HRT HCH HEV HE HC27 HB1 HB2 G0 hR i17 hvx
    have HAS := hid hax
    have HRT := hid hrx
    have HCH := hid hcx
    have HEV := hid hex
    clear hax hrx hcx hex
    obtain ⟨w1, hwn⟩ : ∃ y, y = wv := ⟨_, rfl⟩
    subst hwn
    obtain ⟨a2, ha2⟩ : ∃ y, y = ({ a with often := n } : AsD) := ⟨_, rfl⟩
    have HA2 := hid ha2
    have hw34 : IntKind.i64.wrap ((a.often : Int) + 1) = (n : Int) := by have := HBD.out; have := HN.out; rw [IntKind.wrap_i64]; omega
    have c34 := HAS.out.cell 34 (.int .i64 (a.often : Int)) (fun _ _ _ => rfl)
    have f34 := HAS.out.frz 34
    have hCx := (Chg.refl (fun k => k = g) w1).set ⟨g, 34, none⟩ (.int .i64 (n : Int)) (.inl rfl)
    have hNx : ¬ w.heap.size = g := by
      obtain ⟨q, hq⟩ := AsAt.rowF HAS.out
      exact rowV_ne HEV.out hq (by decide)
    have hax : As B (w1.setCell ⟨g, 34, none⟩ (.int .i64 (n : Int))) g vx a2 := HAS.out.put (by decide) (by decide) 34 _ (by intro vk vp vs; rw [HA2.out]; rfl) (by rw [HA2.out]) (by rw [HA2.out]) (by rw [HA2.out]) (by rw [HA2.out])
    have hrx := HRT.out
    have hcx := HCH.out.set ⟨g, 34, none⟩ (.int .i64 (n : Int)) (.inl (.inl rfl))
    have hex := HEV.out.chg hCx hNx
    obtain ⟨w2, hwn⟩ : ∃ y, y = w1.setCell ⟨g, 34, none⟩ (.int .i64 (n : Int)) := ⟨_, rfl⟩
    rw [← hwn] at hax hcx hex
    have HE := hid hwn
    clear hCx hNx hwn
    go_upto_region 4 with fail
    rw [← HE.out]
    clear c34 f34 hw34 ha2 HE
    have HAS := hid hax
    have HRT := hid hrx
    have HCH := hid hcx
    have HEV := hid hex
    clear hax hrx hcx hex
    have HC34 := hid (HAS.out.cell 34 (.int .i64 (n : Int)) (by intro vk vp vs; rw [HA2.out]; rfl))
    have HC13 := hid (HAS.out.cell 13 (.int .i64 (a.t : Int)) (by intro vk vp vs; rw [HA2.out]; rfl))
    by_cases q : a.t < n
    · have HB3 := hid (show (a.t : Int) < (n : Int) by omega)
      have HQ := hid (show fireD a now = (givesD a2, ⟨false, true, false, .zero, 0⟩) by unfold fireD; rw [if_pos (by rw [← HN.out]; exact q), HA2.out, HN.out])
      clear q
      refine wp_region_gr [Is (.pointer (some ⟨g, 0, none⟩)), Is (.pointer (some ⟨g, 0, none⟩)), Is (.pointer (some ⟨g, 34, none⟩)), Is (.int .i64 (n : Int)), Is (.pointer (some ⟨g, 0, none⟩)), Is (.pointer (some ⟨g, 0, none⟩)), Is (.pointer (some ⟨g, 0, none⟩)), Is (.pointer (some ⟨g, 13, none⟩)), Is (.int .i64 (a.t : Int)), Is (.bool true)] (by kernel_rfl) (by kernel_rfl) (by kernel_rfl) ?_ ?_ ?_
      · simp only [StabAll, Is.gr, RdF.gr, OwnF.gr, AnyF.gr, and_self]
      · try (rename_i Kk hKk; clear hKk Kk)
        simp only [AllOps, List.map_cons, List.map_nil, depsOf, List.filterMap_cons, List.filterMap_nil, Region.binds, depFacts, guardF, reduceIte, List.getD_eq_getElem?_getD, List.getElem?_cons_succ, List.getElem?_cons_zero, Option.getD_some, factAt, and_true]
        refine ⟨?_, ?_, ?_, ?_, ?_, ?_, ?_, ?_, ?_, ?_⟩
        all_goals intro ρ wv hρ hR hd
        all_goals try simp only [Is] at hd
        · exact opOk_move (.inl rfl) ⟨by simp only [Is]; (first | exact hρ.2 0 rfl | exact hd | exact hd.1 | exact hd.2 | simp [hd]), GrR.refl _⟩
        · exact opOk_val (v := .pointer (some ⟨g, 0, none⟩)) (w' := wv) (by simp [execOp, go_sem, hρ.1.const, hρ.1.func, hd]) ⟨rfl, GrR.refl _⟩
        · exact opOk_val (v := .pointer (some ⟨g, 34, none⟩)) (w' := wv) (by simp [execOp, go_sem, hρ.1.const, hρ.1.func, hd]) ⟨rfl, GrR.refl _⟩
        · (have h0 := cell?_of_below hR HC34.out; exact opOk_val (v := .int .i64 (n : Int)) (w' := wv) (by simp [execOp, go_sem, hd, h0]) ⟨rfl, GrR.refl _⟩)
        · exact opOk_move (.inl rfl) ⟨by simp only [Is]; (first | exact hρ.2 0 rfl | exact hd | exact hd.1 | exact hd.2 | simp [hd]), GrR.refl _⟩
        · exact opOk_val (v := .pointer (some ⟨g, 0, none⟩)) (w' := wv) (by simp [execOp, go_sem, hρ.1.const, hρ.1.func, hd]) ⟨rfl, GrR.refl _⟩
        · exact opOk_val (v := .pointer (some ⟨g, 0, none⟩)) (w' := wv) (by simp [execOp, go_sem, hρ.1.const, hρ.1.func, hd]) ⟨rfl, GrR.refl _⟩
        · exact opOk_val (v := .pointer (some ⟨g, 13, none⟩)) (w' := wv) (by simp [execOp, go_sem, hρ.1.const, hρ.1.func, hd]) ⟨rfl, GrR.refl _⟩
        · (have h0 := cell?_of_below hR HC13.out; exact opOk_val (v := .int .i64 (a.t : Int)) (w' := wv) (by simp [execOp, go_sem, hd, h0]) ⟨rfl, GrR.refl _⟩)
        · exact opOk_val (v := .bool true) (w' := wv) (by simp [execOp, go_sem, hρ.1.const, hρ.1.func, hd, HB3.out]) ⟨rfl, GrR.refl _⟩
      · intro vals wv hR hall
        have i9 := hall 9 (by simp)
        simp only [factAt, Is, List.getD_eq_getElem?_getD, List.getElem?_cons_succ, List.getElem?_cons_zero, Option.getD_some] at i9
        clear hall
        simp only [fillFrom, Act.put, i9, List.setIfInBounds_toArray, List.set_cons_zero, List.set_cons_succ]
        rename_i Kk hKk
        refine hKk _ _ ?_
        clear hKk Kk
        have hax := AsAt.mono HAS.out hR
        have hrx := HRT.out
        have hcx := HCH.out.then (Chg.of_gr (S := fun _ => False) hR) (fun _ _ h => h.elim)
        have hex := HEV.out.mono hR
        clear HAS HRT HCH HEV hR i9
        have HAS := hid hax
        have HRT := hid hrx
        have HCH := hid hcx
        have HEV := hid hex
        clear hax hrx hcx hex
        obtain ⟨w3, hwn⟩ : ∃ y, y = wv := ⟨_, rfl⟩
        subst hwn
        go_wp2_with fail
        refine (gives_any B _ g vx a2 HAS.out (by rw [HA2.out]; exact HBD.out.2.2.2.2.2.2.2) (by rw [HA2.out]; exact HBD7.out)).mono ?_
        rintro e w4 ⟨rfl, hd1⟩
        have HD1 := hid (show DidA B w g vr (givesD a2) w4 from by
          have := HVX.out
          subst this
          exact Did.trans (fun _ h => .inl h) HCH.out hd1)
        have HEV4 := hid (show RowV w4 w.heap.size 33 [.bool false, .bool false, .bool false, .int .u32 0, .int .u32 0, .int .u16 0, .int .u16 0, .int .u32 0, .slice none 0 0, .int .u32 0] from by
          obtain ⟨vr1, -, -, hc1⟩ := hd1
          exact HEV.out.chg hc1 (mine_not HAS.out HEV.out (by decide) (by decide)))
        clear hd1 HAS HRT HCH HEV
        have y0 := HEV4.out.at 0 (by simp)
        have y1 := HEV4.out.at 1 (by simp)
        have y2 := HEV4.out.at 2 (by simp)
        have y3 := HEV4.out.at 3 (by simp)
        have y4 := HEV4.out.at 4 (by simp)
        have y5 := HEV4.out.at 5 (by simp)
        have y6 := HEV4.out.at 6 (by simp)
        have y7 := HEV4.out.at 7 (by simp)
        have y8 := HEV4.out.at 8 (by simp)
        have y9 := HEV4.out.at 9 (by simp)
        simp only [List.getElem_cons_succ, List.getElem_cons_zero] at y0 y1 y2 y3 y4 y5 y6 y7 y8 y9
        have f0 := HEV4.out.frozen 0
        have f1 := HEV4.out.frozen 1
        have f2 := HEV4.out.frozen 2
        have f3 := HEV4.out.frozen 3
        have f4 := HEV4.out.frozen 4
        have f5 := HEV4.out.frozen 5
        have f6 := HEV4.out.frozen 6
        have f7 := HEV4.out.frozen 7
        have f8 := HEV4.out.frozen 8
        have f9 := HEV4.out.frozen 9
        rw [show EvD.val ⟨false, true, false, .zero, 0⟩ = .agg #[.bool false, .bool true, .bool false, .int .u32 0, .int .u32 0, .int .u16 0, .int .u16 0, .int .u32 0, .slice none 0 0, .int .u32 0] from rfl]
        go_wp2_with fail
        clear y0 f0 y1 f1 y2 f2 y3 f3 y4 f4 y5 f5 y6 f6 y7 f7 y8 f8 y9 f9
        have HEC := hid (show Chg (fun k => k = w.heap.size) w4 _ from (((((((((((Chg.refl (fun k => k = w.heap.size) w4).set ⟨w.heap.size, 0, none⟩ (.bool false) (.inl rfl)).set ⟨w.heap.size, 1, none⟩ (.bool true) (.inl rfl)).set ⟨w.heap.size, 2, none⟩ (.bool false) (.inl rfl)).set ⟨w.heap.size, 3, none⟩ (.int .u32 0) (.inl rfl)).set ⟨w.heap.size, 4, none⟩ (.int .u32 0) (.inl rfl)).set ⟨w.heap.size, 5, none⟩ (.int .u16 0) (.inl rfl)).set ⟨w.heap.size, 6, none⟩ (.int .u16 0) (.inl rfl)).set ⟨w.heap.size, 7, none⟩ (.int .u32 0) (.inl rfl)).set ⟨w.heap.size, 8, none⟩ (.slice none 0 0) (.inl rfl)).set ⟨w.heap.size, 9, none⟩ (.int .u32 0) (.inl rfl)))
        refine tick_ret (.bool false) (.bool true) (.bool false) (.int .u32 0) (.int .u32 0) (.int .u16 0) (.int .u16 0) (.int .u32 0) (.slice none 0 0) (.int .u32 0) rfl rfl ((((((((((HEV4.out.store 0 (.bool false)).store 1 (.bool true)).store 2 (.bool false)).store 3 (.int .u32 0)).store 4 (.int .u32 0)).store 5 (.int .u16 0)).store 6 (.int .u16 0)).store 7 (.int .u32 0)).store 8 (.slice none 0 0)).store 9 (.int .u32 0)) ⟨?_, ?_⟩
        · rw [HQ.out]; rfl
        · rw [HQ.out]; exact HD1.out.ev (Nat.le_refl _) HEV4.out (by decide) (by decide) (by decide) HEC.out
    · have HB3 := hid (show ¬ (a.t : Int) < (n : Int) by omega)
      obtain ⟨pt, hpt⟩ : ∃ y, y = (a.said.path + 1) % a.p := ⟨_, rfl⟩
      obtain ⟨wt, hwt⟩ : ∃ y, y = min (2 * a.wait) 60 := ⟨_, rfl⟩
      obtain ⟨q1, hq1⟩ : ∃ y, y = a.said.path + 1 := ⟨_, rfl⟩
      have HQ := hid (show fireD a now = ({ a with often := n, said := { a.said with path := pt }, row := a.row ++ [{ a.said with path := pt }], wait := wt, timer := now + (wt : Nat) }, .none) by unfold fireD; rw [if_neg (by rw [← HN.out]; exact q), ← HN.out, ← hpt, ← hwt])
      have HW1 := hid (show IntKind.i64.wrap ((a.said.path : Int) + 1) = (q1 : Int) by have := HBD.out; rw [IntKind.wrap_i64]; omega)
      have HW2 := hid (show ¬ a.p = 0 ∧ ((a.p : Int) == 0) = false ∧ (q1 : Int).tmod (a.p : Int) = (pt : Int) ∧ IntKind.i64.wrap (pt : Int) = (pt : Int) by
        have := HBD.out
        have hlt : pt < a.p := by rw [hpt]; exact Nat.mod_lt _ (by omega)
        refine ⟨by omega, by simp; omega, ?_, by rw [IntKind.wrap_i64]; omega⟩
        rw [Int.tmod_eq_emod_of_nonneg (by omega), hpt, hq1]
        rfl)
      have HW3 := hid (show IntKind.i64.wrap (2 * (a.wait : Int)) = 2 * (a.wait : Int) by have := HBD.out; rw [IntKind.wrap_i64]; omega)
      have HW4 := hid (show (if (60 : Int) < 2 * (a.wait : Int) then (60 : Int) else 2 * (a.wait : Int)) = (wt : Int) by rw [hwt]; split <;> omega)
      have HW5 := hid (show IntKind.i64.wrap (now + (wt : Int)) = now + (wt : Int) by have := HNOW.out; rw [IntKind.wrap_i64]; omega)
      clear q hpt hwt hq1
      refine wp_region_gr [Is (.pointer (some ⟨g, 0, none⟩)), Is (.pointer (some ⟨g, 0, none⟩)), Is (.pointer (some ⟨g, 34, none⟩)), Is (.int .i64 (n : Int)), Is (.pointer (some ⟨g, 0, none⟩)), Is (.pointer (some ⟨g, 0, none⟩)), Is (.pointer (some ⟨g, 0, none⟩)), Is (.pointer (some ⟨g, 13, none⟩)), Is (.int .i64 (a.t : Int)), Is (.bool false)] (by kernel_rfl) (by kernel_rfl) (by kernel_rfl) ?_ ?_ ?_
      · simp only [StabAll, Is.gr, RdF.gr, OwnF.gr, AnyF.gr, and_self]
      · try (rename_i Kk hKk; clear hKk Kk)
        simp only [AllOps, List.map_cons, List.map_nil, depsOf, List.filterMap_cons, List.filterMap_nil, Region.binds, depFacts, guardF, reduceIte, List.getD_eq_getElem?_getD, List.getElem?_cons_succ, List.getElem?_cons_zero, Option.getD_some, factAt, and_true]
        refine ⟨?_, ?_, ?_, ?_, ?_, ?_, ?_, ?_, ?_, ?_⟩
        all_goals intro ρ wv hρ hR hd
        all_goals try simp only [Is] at hd
        · exact opOk_move (.inl rfl) ⟨by simp only [Is]; (first | exact hρ.2 0 rfl | exact hd | exact hd.1 | exact hd.2 | simp [hd]), GrR.refl _⟩
        · exact opOk_val (v := .pointer (some ⟨g, 0, none⟩)) (w' := wv) (by simp [execOp, go_sem, hρ.1.const, hρ.1.func, hd]) ⟨rfl, GrR.refl _⟩
        · exact opOk_val (v := .pointer (some ⟨g, 34, none⟩)) (w' := wv) (by simp [execOp, go_sem, hρ.1.const, hρ.1.func, hd]) ⟨rfl, GrR.refl _⟩
        · (have h0 := cell?_of_below hR HC34.out; exact opOk_val (v := .int .i64 (n : Int)) (w' := wv) (by simp [execOp, go_sem, hd, h0]) ⟨rfl, GrR.refl _⟩)
        · exact opOk_move (.inl rfl) ⟨by simp only [Is]; (first | exact hρ.2 0 rfl | exact hd | exact hd.1 | exact hd.2 | simp [hd]), GrR.refl _⟩
        · exact opOk_val (v := .pointer (some ⟨g, 0, none⟩)) (w' := wv) (by simp [execOp, go_sem, hρ.1.const, hρ.1.func, hd]) ⟨rfl, GrR.refl _⟩
        · exact opOk_val (v := .pointer (some ⟨g, 0, none⟩)) (w' := wv) (by simp [execOp, go_sem, hρ.1.const, hρ.1.func, hd]) ⟨rfl, GrR.refl _⟩
        · exact opOk_val (v := .pointer (some ⟨g, 13, none⟩)) (w' := wv) (by simp [execOp, go_sem, hρ.1.const, hρ.1.func, hd]) ⟨rfl, GrR.refl _⟩
        · (have h0 := cell?_of_below hR HC13.out; exact opOk_val (v := .int .i64 (a.t : Int)) (w' := wv) (by simp [execOp, go_sem, hd, h0]) ⟨rfl, GrR.refl _⟩)
        · exact opOk_val (v := .bool false) (w' := wv) (by simp [execOp, go_sem, hρ.1.const, hρ.1.func, hd, HB3.out]) ⟨rfl, GrR.refl _⟩
      · intro vals wv hR hall
        have i9 := hall 9 (by simp)
        simp only [factAt, Is, List.getD_eq_getElem?_getD, List.getElem?_cons_succ, List.getElem?_cons_zero, Option.getD_some] at i9
        clear hall
        simp only [fillFrom, Act.put, i9, List.setIfInBounds_toArray, List.set_cons_zero, List.set_cons_succ]
        rename_i Kk hKk
        refine hKk _ _ ?_
        clear hKk Kk
        have hax := AsAt.mono HAS.out hR
        have hrx := HRT.out
        have hcx := HCH.out.then (Chg.of_gr (S := fun _ => False) hR) (fun _ _ h => h.elim)
        have hex := HEV.out.mono hR
        clear HAS HRT HCH HEV hR i9
        have HAS := hid hax
        have HRT := hid hrx
        have HCH := hid hcx
        have HEV := hid hex
        clear hax hrx hcx hex
        obtain ⟨w3, hwn⟩ : ∃ y, y = wv := ⟨_, rfl⟩
        subst hwn
        have HC28 := hid (HAS.out.cell 28 (.int .i64 (a.said.path : Int)) (by intro vk vp vs; rw [HA2.out]; rfl))
        have HC0 := hid (HAS.out.cell 0 (.int .i64 (a.p : Int)) (by intro vk vp vs; rw [HA2.out]; rfl))
        go_wp2_with fail
        refine wp_region_tail 16 [Is (.pointer (some ⟨g, 0, none⟩)), Is (.pointer (some ⟨g, 0, none⟩)), Is (.pointer (some ⟨g, 0, none⟩)), Is (.pointer (some ⟨g, 28, none⟩)), Is (.pointer (some ⟨g, 28, none⟩)), Is (.int .i64 (a.said.path : Int)), Is (.int .i64 (q1 : Int)), Is (.pointer (some ⟨g, 0, none⟩)), Is (.pointer (some ⟨g, 0, none⟩)), Is (.pointer (some ⟨g, 0, none⟩)), Is (.pointer (some ⟨g, 0, none⟩)), Is (.int .i64 (a.p : Int)), Is (.int .i64 (pt : Int)), Is (.pointer (some ⟨g, 0, none⟩)), Is (.pointer (some ⟨g, 28, none⟩)), Is (.pointer (some ⟨g, 28, none⟩))] (by kernel_rfl) (by kernel_rfl) (by kernel_rfl) (by kernel_rfl) (by kernel_rfl) (by kernel_rfl) ?_ ?_ ?_
        · simp only [StabAll, Is.gr, RdF.gr, OwnF.gr, AnyF.gr, and_self]
        · try (rename_i Kk hKk; clear hKk Kk)
          simp only [List.take_succ_cons, List.take_zero, AllOps, List.map_cons, List.map_nil, depsOf, List.filterMap_cons, List.filterMap_nil, Region.binds, depFacts, guardF, reduceIte, List.getD_eq_getElem?_getD, List.getElem?_cons_succ, List.getElem?_cons_zero, Option.getD_some, factAt, and_true]
          refine ⟨?_, ?_, ?_, ?_, ?_, ?_, ?_, ?_, ?_, ?_, ?_, ?_, ?_, ?_, ?_, ?_⟩
          all_goals intro ρ wv hρ hR hd
          all_goals try simp only [Is] at hd
          · exact opOk_move (.inl rfl) ⟨by simp only [Is]; (first | exact hρ.2 0 rfl | exact hd | exact hd.1 | exact hd.2 | simp [hd]), GrR.refl _⟩
          · exact opOk_move (.inl rfl) ⟨by simp only [Is]; (first | exact hρ.2 0 rfl | exact hd | exact hd.1 | exact hd.2 | simp [hd]), GrR.refl _⟩
          · exact opOk_val (v := .pointer (some ⟨g, 0, none⟩)) (w' := wv) (by simp [execOp, go_sem, hρ.1.const, hρ.1.func, hd]) ⟨rfl, GrR.refl _⟩
          · exact opOk_val (v := .pointer (some ⟨g, 28, none⟩)) (w' := wv) (by simp [execOp, go_sem, hρ.1.const, hρ.1.func, hd]) ⟨rfl, GrR.refl _⟩
          · exact opOk_val (v := .pointer (some ⟨g, 28, none⟩)) (w' := wv) (by simp [execOp, go_sem, hρ.1.const, hρ.1.func, hd]) ⟨rfl, GrR.refl _⟩
          · (have h0 := cell?_of_below hR HC28.out; exact opOk_val (v := .int .i64 (a.said.path : Int)) (w' := wv) (by simp [execOp, go_sem, hd, h0]) ⟨rfl, GrR.refl _⟩)
          · exact opOk_val (v := .int .i64 (q1 : Int)) (w' := wv) (by simp [execOp, go_sem, hρ.1.const, hρ.1.func, hd, HW1.out]) ⟨rfl, GrR.refl _⟩
          · exact opOk_move (.inl rfl) ⟨by simp only [Is]; (first | exact hρ.2 0 rfl | exact hd | exact hd.1 | exact hd.2 | simp [hd]), GrR.refl _⟩
          · exact opOk_val (v := .pointer (some ⟨g, 0, none⟩)) (w' := wv) (by simp [execOp, go_sem, hρ.1.const, hρ.1.func, hd]) ⟨rfl, GrR.refl _⟩
          · exact opOk_val (v := .pointer (some ⟨g, 0, none⟩)) (w' := wv) (by simp [execOp, go_sem, hρ.1.const, hρ.1.func, hd]) ⟨rfl, GrR.refl _⟩
          · exact opOk_val (v := .pointer (some ⟨g, 0, none⟩)) (w' := wv) (by simp [execOp, go_sem, hρ.1.const, hρ.1.func, hd]) ⟨rfl, GrR.refl _⟩
          · (have h0 := cell?_of_below hR HC0.out; exact opOk_val (v := .int .i64 (a.p : Int)) (w' := wv) (by simp [execOp, go_sem, hd, h0]) ⟨rfl, GrR.refl _⟩)
          · exact opOk_val (v := .int .i64 (pt : Int)) (w' := wv) (by simp [execOp, go_sem, hρ.1.const, hρ.1.func, hd, HW2.out.1, HW2.out.2.1, HW2.out.2.2.1, HW2.out.2.2.2]) ⟨rfl, GrR.refl _⟩
          · exact opOk_val (v := .pointer (some ⟨g, 0, none⟩)) (w' := wv) (by simp [execOp, go_sem, hρ.1.const, hρ.1.func, hd]) ⟨rfl, GrR.refl _⟩
          · exact opOk_val (v := .pointer (some ⟨g, 28, none⟩)) (w' := wv) (by simp [execOp, go_sem, hρ.1.const, hρ.1.func, hd]) ⟨rfl, GrR.refl _⟩
          · exact opOk_val (v := .pointer (some ⟨g, 28, none⟩)) (w' := wv) (by simp [execOp, go_sem, hρ.1.const, hρ.1.func, hd]) ⟨rfl, GrR.refl _⟩
        · intro vals wv hR hall
          have i12 := hall 12 (by omega)
          have i15 := hall 15 (by omega)
          simp only [factAt, Is, List.getD_eq_getElem?_getD, List.getElem?_cons_succ, List.getElem?_cons_zero, Option.getD_some] at i12 i15
          clear hall
          simp only [List.take_succ_cons, List.take_zero, List.drop_succ_cons, List.drop_zero, fillFrom, Act.put, i12, i15, List.setIfInBounds_toArray, List.set_cons_zero, List.set_cons_succ, Nat.zero_add, Nat.reduceAdd]
          have hax := AsAt.mono HAS.out hR
          have hrx := HRT.out
          have hcx := HCH.out.then (Chg.of_gr (S := fun _ => False) hR) (fun _ _ h => h.elim)
          have hex := HEV.out.mono hR
          clear HAS HRT HCH HEV hR i12 i15
          have HAS := hid hax
          have HRT := hid hrx
          have HCH := hid hcx
          have HEV := hid hex
          clear hax hrx hcx hex
          obtain ⟨w4, hwn⟩ : ∃ y, y = wv := ⟨_, rfl⟩
          subst hwn
          obtain ⟨a3, ha3⟩ : ∃ y, y = ({ a with often := n, said := { a.said with path := pt } } : AsD) := ⟨_, rfl⟩
          have HA3 := hid ha3
          clear ha3
          have y0 := HAS.out.cell 28 (.int .i64 (a.said.path : Int)) (by intro vk vp vs; rw [HA2.out]; rfl)
          have y1 := HAS.out.frz 28
          have hCx := (Chg.refl (fun k => k = g) w4).set ⟨g, 28, none⟩ (.int .i64 (pt : Int)) (.inl rfl)
          have hNx : ¬ w.heap.size = g := by
            obtain ⟨q, hq⟩ := AsAt.rowF HAS.out
            exact rowV_ne HEV.out hq (by decide)
          have hax : As B (w4.setCell ⟨g, 28, none⟩ (.int .i64 (pt : Int))) g vx a3 := HAS.out.put (by decide) (by decide) 28 _ (by intro vk vp vs; rw [HA3.out, HA2.out]; rfl) (by rw [HA3.out, HA2.out]) (by rw [HA3.out, HA2.out]) (by rw [HA3.out, HA2.out]) (by rw [HA3.out, HA2.out])
          have hrx := HRT.out
          have hcx := HCH.out.set ⟨g, 28, none⟩ (.int .i64 (pt : Int)) (.inl (.inl rfl))
          have hex := HEV.out.chg hCx hNx
          obtain ⟨wq, hwn⟩ : ∃ y, y = w4.setCell ⟨g, 28, none⟩ (.int .i64 (pt : Int)) := ⟨_, rfl⟩
          rw [← hwn] at hax hcx hex
          have HE := hid hwn
          clear hCx hNx hwn
          go_upto_region 7 with fail
          rw [← HE.out]
          clear y0 y1 HE HC28 HC0
          have HAS := hid hax
          have HRT := hid hrx
          have HCH := hid hcx
          have HEV := hid hex
          clear hax hrx hcx hex
          go_cut [] from 59 to 71 (fun wx => Hid (∃ vx, As B wx g vx { a3 with row := a3.row ++ [a3.said] } ∧ RowTo w vr vx ∧ Chg (Mine g vr) w wx ∧ RowV wx w.heap.size 33 [.bool false, .bool false, .bool false, .int .u32 0, .int .u32 0, .int .u16 0, .int .u16 0, .int .u32 0, .slice none 0 0, .int .u32 0]))
          case first =>
            have HASq := hid HAS.out
            have HNB := hid HAS.out.noB
            obtain ⟨vk, vp, vs, hr, hB, hk, hp, ⟨ss, hsl, hok, hbd⟩, hsd⟩ := id HAS.out
            obtain ⟨p9, c9, hsf, -⟩ := hsd.rd
            have HS1 := hid (show vs.oneCell' = true by rw [hsf]; rfl)
            have HS := hid hsd
            have HB := hid hB
            have HK1 := hid hk
            have HK2 := hid hp
            have HSL := hid hsl
            have HBD := hid hbd
            obtain ⟨m, hm⟩ : ∃ m, m = a3.row.length := ⟨_, rfl⟩
            have hl : a3.row.length ≤ 1000000 := by rw [HA3.out]; exact HBD7.out
            rw [← hm] at hok hl
            have HN := hid hm
            obtain ⟨px, cx, rfl⟩ : ∃ p c, vx = Value.slice p m c := by
              obtain ⟨-, ⟨e, e2⟩ | ⟨gg, m, sp, -, e, -⟩⟩ := hok
              · exact ⟨_, _, by rw [e, e2]⟩
              · exact ⟨_, _, e⟩
            have HAR := hid hr
            have HOK := hid hok
            have HSZ := hid (show B ≤ wq.heap.size from Nat.le_trans hB (Nat.le_of_lt hr.lt))
            have HRC := hid (HAR.out.at 26 (by simp [AsD.cells]))
            simp only [AsD.cells, List.getElem_cons_succ, List.getElem_cons_zero] at HRC
            have HONE := hid (outCell_one a3.said hsd)
            have HLL := hid hok.1
            have HLN := hid (show (m + 1) * 48 ≤ 140737488355328 by omega)
            have HLN2 := hid (show m + 1 ≤ 140737488355328 by omega)
            have hcase : (∃ rb mm sp, px = some ⟨rb, 0, none⟩ ∧ cx = m + mm ∧ 1 ≤ mm ∧ B ≤ rb ∧ List.length sp = mm * 5 ∧ RowV wq rb 59 ((outCells a3.row ss) ++ sp) ∧ m + mm ≤ maxLen) ∨ (∀ g mm, (Value.slice px m cx) = .slice (some ⟨g, 0, none⟩) m (m + mm) → mm < 1) := by
              obtain ⟨h0, ⟨e, e2⟩ | ⟨g, mz, sp, h1', e, h2', hr', hm'⟩⟩ := HOK.out
              · refine .inr (fun g mm h => ?_)
                rw [e] at h
                simp at h
              · by_cases hm0 : mz = 0
                · refine .inr (fun g' mm h => ?_)
                  rw [e] at h
                  simp only [Value.slice.injEq] at h
                  omega
                · simp only [Value.slice.injEq] at e
                  exact .inl ⟨g, mz, sp, e.1, e.2.2, by omega, h1', h2', hr', hm'⟩
            clear hr hB hk hp hsl hok hbd hsd hsf hm hl
            rcases hcase with ⟨rb, mm, sp, rfl, rfl, hmm, hg, hsp, hrow, hmx⟩ | hnr
            · have HGB := hid hg
              have HSP := hid hsp
              have HMX := hid hmx
              have HMM := hid hmm
              have HNE := hid (show ¬ g = rb from rowV_ne HAR.out hrow (by decide))
              have HRB := hid (show rb < wq.heap.size from hrow.lt)
              have HJ0 := hid (show jo rb (outCells a3.row ss) (outCell a3.said vs) sp 0 wq from hrow)
              clear hg hsp hmx hmm hrow
              refine wp_region_take 13 rb [10] (fun k wx => jo rb (outCells a3.row ss) (outCell a3.said vs) sp k wx) [Is (.pointer (some ⟨g, 0, none⟩)), Is (.pointer (some ⟨g, 0, none⟩)), Is (.pointer (some ⟨g, 0, none⟩)), Is (.pointer (some ⟨g, 26, none⟩)), Is (.slice (some ⟨rb, 0, none⟩) m (m + mm)), Is (.pointer (some ⟨g, 0, none⟩)), Is (.pointer (some ⟨g, 0, none⟩)), Is (.pointer (some ⟨g, 28, none⟩)), Is (.agg #[.int .i64 (a3.said.path : Int), .int .u32 (a3.said.tag : Int), .int .u8 (a3.said.c.k.toNat : Int), .int .u8 (a3.said.c.f.toNat : Int), vs]), OwK wq.heap.size 59 5 1 (outCell a3.said vs), Is (.slice (some ⟨rb, 0, none⟩) (m + 1) (m + mm)), Is (.pointer (some ⟨g, 0, none⟩)), Is (.pointer (some ⟨g, 26, none⟩))] (by kernel_rfl) (by kernel_rfl) (by kernel_rfl) (by kernel_rfl) (by kernel_rfl) (by kernel_rfl) (by kernel_rfl) (HJ0.out) (jo_st _ _ _ _) ?_ ?_ ?_
              · exact ⟨Is.stab _ _, Is.stab _ _, Is.stab _ _, Is.stab _ _, Is.stab _ _, Is.stab _ _, Is.stab _ _, Is.stab _ _, Is.stab _ _, OwK.gb _ _ _ _ (HRB.out), Is.stab _ _, Is.stab _ _, Is.stab _ _, trivial⟩
              · try (rename_i Kk hKk; clear hKk Kk)
                simp only [List.take_succ_cons, List.take_zero, AllOpsC, wrAt, Nat.reduceAdd, Nat.reduceEqDiff, Option.map_some, Option.map_none, List.map_cons, List.map_nil, depsOf, List.filterMap_cons, List.filterMap_nil, Region.binds, depFacts, guardF, reduceIte, List.getD_eq_getElem?_getD, List.getElem?_cons_succ, List.getElem?_cons_zero, Option.getD_some, factAt, and_true]
                refine ⟨?_, ?_, ?_, ?_, ?_, ?_, ?_, ?_, ?_, ?_, ?_, ?_, ?_⟩
                all_goals intro ρ wv hρ hR hd
                all_goals try simp only [Is] at hd
                · exact opOk_move (.inl rfl) ⟨by simp only [Is]; (first | exact hρ.2 0 rfl | exact hd | exact hd.1 | exact hd.2 | simp [hd]), GrR.refl _⟩
                · exact opOk_move (.inl rfl) ⟨by simp only [Is]; (first | exact hρ.2 0 rfl | exact hd | exact hd.1 | exact hd.2 | simp [hd]), GrR.refl _⟩
                · exact opOk_val (v := .pointer (some ⟨g, 0, none⟩)) (w' := wv) (by simp [execOp, go_sem, hρ.1.const, hρ.1.func, hd]) ⟨rfl, GrR.refl _⟩
                · exact opOk_val (v := .pointer (some ⟨g, 26, none⟩)) (w' := wv) (by simp [execOp, go_sem, hρ.1.const, hρ.1.func, hd]) ⟨rfl, GrR.refl _⟩
                · (have h0 := cell_gb hR HRC.out (HNE.out); exact opOk_val (v := .slice (some ⟨rb, 0, none⟩) m (m + mm)) (w' := wv) (by simp [execOp, go_sem, hd, h0]) ⟨rfl, GrR.refl _⟩)
                · exact opOk_move (.inl rfl) ⟨by simp only [Is]; (first | exact hρ.2 0 rfl | exact hd | exact hd.1 | exact hd.2 | simp [hd]), GrR.refl _⟩
                · exact opOk_val (v := .pointer (some ⟨g, 0, none⟩)) (w' := wv) (by simp [execOp, go_sem, hρ.1.const, hρ.1.func, hd]) ⟨rfl, GrR.refl _⟩
                · exact opOk_val (v := .pointer (some ⟨g, 28, none⟩)) (w' := wv) (by simp [execOp, go_sem, hρ.1.const, hρ.1.func, hd]) ⟨rfl, GrR.refl _⟩
                · exact opOk_loadMid rfl g 28 (by first | exact hρ.2 _ rfl | simp [hd]) [.int .i64 (a3.said.path : Int), .int .u32 (a3.said.tag : Int), .int .u8 (a3.said.c.k.toNat : Int), .int .u8 (a3.said.c.f.toNat : Int), vs] _ ((HAR.out.grown hR (fun e => HNE.out (by simp at e; exact e.symm))).range 28 _ _ rfl) Tryd.underlying59 rfl (by kernel_rfl) ⟨rfl, GrR.refl _⟩
                · exact opOk_val (v := .slice (some ⟨wv.heap.size, 0, none⟩) 1 1) (w' := wv.alloc (.cells #[.int .i64 (a3.said.path : Int), .int .u32 (a3.said.tag : Int), .int .u8 (a3.said.c.k.toNat : Int), .int .u8 (a3.said.c.f.toNat : Int), vs] 59 (0, 0))) (by simp [execOp, go_sem, hρ.1.const, hd, HS1.out]) ⟨own_new wv _ 59 5 (outCell a3.said vs) hR.size rfl, (Below.refl _ _).alloc (Nat.le_refl _) _⟩
                · (first | refine ⟨rfl, fun hJ => ?_⟩ | refine ⟨trivial, fun hJ => ?_⟩ | intro hJ); (have h9 : OwK wq.heap.size 59 5 1 (outCell a3.said vs) (ρ (.tmp 68)) wv := (by first | exact hd.2.1 | exact hd.1 | exact hd.2); exact opOk_append_room rfl B 59 (.agg #[.int .i64 0, .int .u32 0, .int .u8 0, .int .u8 0, .slice none 0 0]) 5 48 rfl (by decide) Tryd.underlying28 infoOut rb mm m 1 (outCells a3.row ss) (outCell a3.said vs) sp (by first | exact hd.1 | exact hd.2.1 | simp [hd]) HONE.out HLL.out HSP.out HGB.out hJ HMX.out h9.rd.lax HLN.out HLN2.out (Nat.le_trans HSZ.out hR.size) (by decide) HMM.out (fun w' h1 h2 => ⟨rfl, h2, h1⟩))
                · exact opOk_val (v := .pointer (some ⟨g, 0, none⟩)) (w' := wv) (by simp [execOp, go_sem, hρ.1.const, hρ.1.func, hd]) ⟨rfl, GrR.refl _⟩
                · exact opOk_val (v := .pointer (some ⟨g, 26, none⟩)) (w' := wv) (by simp [execOp, go_sem, hρ.1.const, hρ.1.func, hd]) ⟨rfl, GrR.refl _⟩
              · intro vals wv hR hJ hall
                have i10 := hall 10 (by omega)
                have i12 := hall 12 (by omega)
                simp only [factAt, Is, List.getD_eq_getElem?_getD, List.getElem?_cons_succ, List.getElem?_cons_zero, Option.getD_some] at i10 i12
                clear hall
                have hrow9 : RowV wv rb 59 ((outCells a3.row ss) ++ (outCell a3.said vs) ++ sp.drop 5) := hJ
                simp only [List.take_succ_cons, List.take_zero, List.drop_succ_cons, List.drop_zero, fillFrom, Act.put, i10, i12, List.setIfInBounds_toArray, List.set_cons_zero, List.set_cons_succ, Nat.zero_add, Nat.reduceAdd]
                obtain ⟨x1, x2, hx12⟩ : ∃ x1 x2, Value.slice x1 (m + 1) x2 = Value.slice (some ⟨rb, 0, none⟩) (m + 1) (m + mm) := ⟨_, _, rfl⟩
                have HKV := hid (show OwnK wv B 59 5 (.slice x1 (m + 1) x2) (m + 1) ((outCells a3.row ss) ++ (outCell a3.said vs)) from ⟨by rw [List.length_append, HLL.out]; show m * 5 + 5 = _; omega, .inr ⟨rb, mm - 1, sp.drop 5, HGB.out, by rw [hx12, show m + 1 + (mm - 1) = m + mm by have := HMM.out; omega], by rw [List.length_drop, HSP.out]; omega, hrow9, by have := HMM.out; have := HMX.out; omega⟩⟩)
                have HCX := hid (show Chg (Mine g (.slice (some ⟨rb, 0, none⟩) m (m + mm))) wq wv from (Chg.of_grown hR).weak (fun i _ e => .inr (by simp at e; simp [Value.ownBlock, e])))
                have HRX := hid (show RowTo wq (.slice (some ⟨rb, 0, none⟩) m (m + mm)) (.slice x1 (m + 1) x2) from fun k hk => .inl (by rw [hx12] at hk; simpa [Value.ownBlock] using hk))
                have HRV := hid (HAR.out.grown hR (fun e => HNE.out (by simp at e; exact e.symm)))
                rw [← hx12]
                clear hx12 hR hrow9 i10 i12
                obtain ⟨wx, hwx⟩ : ∃ x, x = wv := ⟨_, rfl⟩
                subst hwx
                have y0 := HRV.out.at 26 (by simp [AsD.cells])
                simp only [AsD.cells, List.getElem_cons_succ, List.getElem_cons_zero] at y0
                have y1 := HRV.out.frozen 26
                go_wp2_with fail
                go_meet
                refine hid ⟨.slice x1 (m + 1) x2, ⟨vk, vp, vs, HRV.out.store 26 (.slice x1 (m + 1) x2), HB.out, ?_, ?_, ?_, ?_⟩, ?_, ?_, ?_⟩
                · exact keepB HCX.out HNB.out HRV.out (by decide) HK1.out
                · exact keepB HCX.out HNB.out HRV.out (by decide) HK2.out
                · exact OutsAt.setg (by decide) (by decide) HRV.out (outsAt_mk HSL.out (by rw [← HN.out]; exact HKV.out) (fun i x y => (HBD.out i x y).chg HCX.out ((HBD.out i x y).free HNB.out)) (HS.out.chg HCX.out (HS.out.free HNB.out)))
                · exact keepB HCX.out HNB.out HRV.out (by decide) HS.out
                · exact fun k hk => by
                    rcases HRX.out k hk with h | h
                    · exact HRT.out k h
                    · exact .inr (Nat.le_trans HCH.out.size h)
                · exact (HCH.out.then HCX.out (fun i hi hm => by
                    rcases hm with rfl | hm
                    · exact .inl rfl
                    · rcases HRT.out i hm with h | h
                      · exact .inr h
                      · omega)).set ⟨g, 26, none⟩ _ (.inl (.inl rfl))
                · exact (HEV.out.chg HCX.out (mine_not HASq.out HEV.out (by decide) (by decide))).chg ((Chg.refl (fun k => k = g) _).set ⟨g, 26, none⟩ _ (.inl rfl)) (fun e => rowV_ne HEV.out HAR.out (by decide) e)
            · have HNR := hid hnr
              clear hnr
              refine wp_region_tail 13 [Is (.pointer (some ⟨g, 0, none⟩)), Is (.pointer (some ⟨g, 0, none⟩)), Is (.pointer (some ⟨g, 0, none⟩)), Is (.pointer (some ⟨g, 26, none⟩)), Is (.slice px m cx), Is (.pointer (some ⟨g, 0, none⟩)), Is (.pointer (some ⟨g, 0, none⟩)), Is (.pointer (some ⟨g, 28, none⟩)), Is (.agg #[.int .i64 (a3.said.path : Int), .int .u32 (a3.said.tag : Int), .int .u8 (a3.said.c.k.toNat : Int), .int .u8 (a3.said.c.f.toNat : Int), vs]), OwK wq.heap.size 59 5 1 (outCell a3.said vs), OwK wq.heap.size 59 5 (m + 1) ((outCells a3.row ss) ++ (outCell a3.said vs)), Is (.pointer (some ⟨g, 0, none⟩)), Is (.pointer (some ⟨g, 26, none⟩))] (by kernel_rfl) (by kernel_rfl) (by kernel_rfl) (by kernel_rfl) (by kernel_rfl) (by kernel_rfl) ?_ ?_ ?_
              · simp only [StabAll, Is.gr, RdF.gr, OwnF.gr, AnyF.gr, OwK.gr, and_self]
              · try (rename_i Kk hKk; clear hKk Kk)
                simp only [List.take_succ_cons, List.take_zero, AllOps, List.map_cons, List.map_nil, depsOf, List.filterMap_cons, List.filterMap_nil, Region.binds, depFacts, guardF, reduceIte, List.getD_eq_getElem?_getD, List.getElem?_cons_succ, List.getElem?_cons_zero, Option.getD_some, factAt, and_true]
                refine ⟨?_, ?_, ?_, ?_, ?_, ?_, ?_, ?_, ?_, ?_, ?_, ?_, ?_⟩
                all_goals intro ρ wv hρ hR hd
                all_goals try simp only [Is] at hd
                · exact opOk_move (.inl rfl) ⟨by simp only [Is]; (first | exact hρ.2 0 rfl | exact hd | exact hd.1 | exact hd.2 | simp [hd]), GrR.refl _⟩
                · exact opOk_move (.inl rfl) ⟨by simp only [Is]; (first | exact hρ.2 0 rfl | exact hd | exact hd.1 | exact hd.2 | simp [hd]), GrR.refl _⟩
                · exact opOk_val (v := .pointer (some ⟨g, 0, none⟩)) (w' := wv) (by simp [execOp, go_sem, hρ.1.const, hρ.1.func, hd]) ⟨rfl, GrR.refl _⟩
                · exact opOk_val (v := .pointer (some ⟨g, 26, none⟩)) (w' := wv) (by simp [execOp, go_sem, hρ.1.const, hρ.1.func, hd]) ⟨rfl, GrR.refl _⟩
                · (have h0 := cell?_of_below hR HRC.out; exact opOk_val (v := .slice px m cx) (w' := wv) (by simp [execOp, go_sem, hd, h0]) ⟨rfl, GrR.refl _⟩)
                · exact opOk_move (.inl rfl) ⟨by simp only [Is]; (first | exact hρ.2 0 rfl | exact hd | exact hd.1 | exact hd.2 | simp [hd]), GrR.refl _⟩
                · exact opOk_val (v := .pointer (some ⟨g, 0, none⟩)) (w' := wv) (by simp [execOp, go_sem, hρ.1.const, hρ.1.func, hd]) ⟨rfl, GrR.refl _⟩
                · exact opOk_val (v := .pointer (some ⟨g, 28, none⟩)) (w' := wv) (by simp [execOp, go_sem, hρ.1.const, hρ.1.func, hd]) ⟨rfl, GrR.refl _⟩
                · exact opOk_loadMid rfl g 28 (by first | exact hρ.2 _ rfl | simp [hd]) [.int .i64 (a3.said.path : Int), .int .u32 (a3.said.tag : Int), .int .u8 (a3.said.c.k.toNat : Int), .int .u8 (a3.said.c.f.toNat : Int), vs] _ ((HAR.out.mono hR).range 28 _ _ rfl) Tryd.underlying59 rfl (by kernel_rfl) ⟨rfl, GrR.refl _⟩
                · exact opOk_val (v := .slice (some ⟨wv.heap.size, 0, none⟩) 1 1) (w' := wv.alloc (.cells #[.int .i64 (a3.said.path : Int), .int .u32 (a3.said.tag : Int), .int .u8 (a3.said.c.k.toNat : Int), .int .u8 (a3.said.c.f.toNat : Int), vs] 59 (0, 0))) (by simp [execOp, go_sem, hρ.1.const, hd, HS1.out]) ⟨own_new wv _ 59 5 (outCell a3.said vs) hR.size rfl, (Below.refl _ _).alloc (Nat.le_refl _) _⟩
                · (have h9 : OwK wq.heap.size 59 5 1 (outCell a3.said vs) (ρ (.tmp 68)) wv := (by first | exact hd.2.1 | exact hd.1 | exact hd.2); exact opOk_append_new rfl B 59 (.agg #[.int .i64 0, .int .u32 0, .int .u8 0, .int .u8 0, .slice none 0 0]) 5 48 rfl (by decide) Tryd.underlying28 infoOut (.slice px m cx) (by first | exact hd.1 | exact hd.2.1 | simp [hd]) m 1 (outCells a3.row ss) (outCell a3.said vs) HONE.out (HOK.out.mono hR) h9.rd.lax HLN.out HLN2.out (Nat.le_trans HSZ.out hR.size) (by decide) HNR.out (fun v' w' h1 h2 => ⟨h1.base hR.size, h2⟩))
                · exact opOk_val (v := .pointer (some ⟨g, 0, none⟩)) (w' := wv) (by simp [execOp, go_sem, hρ.1.const, hρ.1.func, hd]) ⟨rfl, GrR.refl _⟩
                · exact opOk_val (v := .pointer (some ⟨g, 26, none⟩)) (w' := wv) (by simp [execOp, go_sem, hρ.1.const, hρ.1.func, hd]) ⟨rfl, GrR.refl _⟩
              · intro vals wv hR hall
                have i10 := hall 10 (by omega)
                have i12 := hall 12 (by omega)
                simp only [factAt, Is, OwK, List.getD_eq_getElem?_getD, List.getElem?_cons_succ, List.getElem?_cons_zero, Option.getD_some] at i10 i12
                clear hall
                obtain ⟨v9, hv9⟩ : ∃ v, vals 10 = v := ⟨_, rfl⟩
                rw [hv9] at i10
                simp only [List.take_succ_cons, List.take_zero, List.drop_succ_cons, List.drop_zero, fillFrom, Act.put, hv9, i12, List.setIfInBounds_toArray, List.set_cons_zero, List.set_cons_succ, Nat.zero_add, Nat.reduceAdd]
                obtain ⟨x1, x2, rfl⟩ : ∃ x1 x2, v9 = Value.slice x1 (m + 1) x2 := by
                  obtain ⟨-, ⟨e, e2⟩ | ⟨gg, m, sp, -, e, -⟩⟩ := i10
                  · omega
                  · exact ⟨_, _, e⟩
                have HKV := hid (OwnK.base i10 HSZ.out)
                have HCX := hid (show Chg (Mine g (.slice px m cx)) wq wv from Chg.of_gr hR)
                have HRX := hid (show RowTo wq (.slice px m cx) (.slice x1 (m + 1) x2) from fun k hk => .inr (OwnK.ge i10 k hk))
                have HRV := hid (HAR.out.mono hR)
                clear hR i10 i12 hv9
                obtain ⟨wx, hwx⟩ : ∃ x, x = wv := ⟨_, rfl⟩
                subst hwx
                have y0 := HRV.out.at 26 (by simp [AsD.cells])
                simp only [AsD.cells, List.getElem_cons_succ, List.getElem_cons_zero] at y0
                have y1 := HRV.out.frozen 26
                go_wp2_with fail
                go_meet
                refine hid ⟨.slice x1 (m + 1) x2, ⟨vk, vp, vs, HRV.out.store 26 (.slice x1 (m + 1) x2), HB.out, ?_, ?_, ?_, ?_⟩, ?_, ?_, ?_⟩
                · exact keepB HCX.out HNB.out HRV.out (by decide) HK1.out
                · exact keepB HCX.out HNB.out HRV.out (by decide) HK2.out
                · exact OutsAt.setg (by decide) (by decide) HRV.out (outsAt_mk HSL.out (by rw [← HN.out]; exact HKV.out) (fun i x y => (HBD.out i x y).chg HCX.out ((HBD.out i x y).free HNB.out)) (HS.out.chg HCX.out (HS.out.free HNB.out)))
                · exact keepB HCX.out HNB.out HRV.out (by decide) HS.out
                · exact fun k hk => by
                    rcases HRX.out k hk with h | h
                    · exact HRT.out k h
                    · exact .inr (Nat.le_trans HCH.out.size h)
                · exact (HCH.out.then HCX.out (fun i hi hm => by
                    rcases hm with rfl | hm
                    · exact .inl rfl
                    · rcases HRT.out i hm with h | h
                      · exact .inr h
                      · omega)).set ⟨g, 26, none⟩ _ (.inl (.inl rfl))
                · exact (HEV.out.chg HCX.out (mine_not HASq.out HEV.out (by decide) (by decide))).chg ((Chg.refl (fun k => k = g) _).set ⟨g, 26, none⟩ _ (.inl rfl)) (fun e => rowV_ne HEV.out HAR.out (by decide) e)
          clear HAS HRT HCH HEV
          obtain ⟨vy, hax, hrx, hcx, hex⟩ := hcut.out
          obtain ⟨vx, hvy⟩ : ∃ y, y = vy := ⟨_, rfl⟩
          subst hvy
          obtain ⟨w8, hw8⟩ : ∃ y, y = wc := ⟨_, rfl⟩
          subst hw8
          clear hcut
          obtain ⟨a4, ha4⟩ : ∃ y, y = ({ a3 with row := a3.row ++ [a3.said] } : AsD) := ⟨_, rfl⟩
          rw [← ha4] at hax
          have HA4 := hid (show a4 = ({ a with often := n, said := { a.said with path := pt }, row := a.row ++ [{ a.said with path := pt }] } : AsD) by rw [ha4, HA3.out])
          clear ha4
          have HAS := hid hax
          have HRT := hid hrx
          have HCH := hid hcx
          have HEV := hid hex
          clear hax hrx hcx hex
          have HC33 := hid (HAS.out.cell 33 (.int .i64 (a.wait : Int)) (by intro vk vp vs; rw [HA4.out]; rfl))
          have HC8 := hid (HAS.out.cell 8 (.int .i64 60) (by intro vk vp vs; rw [HA4.out]; rfl))
          go_wp2_with fail
          refine wp_region_tail 14 [Is (.pointer (some ⟨g, 0, none⟩)), Is (.pointer (some ⟨g, 0, none⟩)), Is (.pointer (some ⟨g, 0, none⟩)), Is (.pointer (some ⟨g, 33, none⟩)), Is (.int .i64 (a.wait : Int)), Is (.int .i64 (2 * (a.wait : Int))), Is (.pointer (some ⟨g, 0, none⟩)), Is (.pointer (some ⟨g, 0, none⟩)), Is (.pointer (some ⟨g, 0, none⟩)), Is (.pointer (some ⟨g, 8, none⟩)), Is (.int .i64 60), Is (.int .i64 (wt : Int)), Is (.pointer (some ⟨g, 0, none⟩)), Is (.pointer (some ⟨g, 33, none⟩))] (by kernel_rfl) (by kernel_rfl) (by kernel_rfl) (by kernel_rfl) (by kernel_rfl) (by kernel_rfl) ?_ ?_ ?_
          · simp only [StabAll, Is.gr, RdF.gr, OwnF.gr, AnyF.gr, and_self]
          · try (rename_i Kk hKk; clear hKk Kk)
            simp only [List.take_succ_cons, List.take_zero, AllOps, List.map_cons, List.map_nil, depsOf, List.filterMap_cons, List.filterMap_nil, Region.binds, depFacts, guardF, reduceIte, List.getD_eq_getElem?_getD, List.getElem?_cons_succ, List.getElem?_cons_zero, Option.getD_some, factAt, and_true]
            refine ⟨?_, ?_, ?_, ?_, ?_, ?_, ?_, ?_, ?_, ?_, ?_, ?_, ?_, ?_⟩
            all_goals intro ρ wv hρ hR hd
            all_goals try simp only [Is] at hd
            · exact opOk_move (.inl rfl) ⟨by simp only [Is]; (first | exact hρ.2 0 rfl | exact hd | exact hd.1 | exact hd.2 | simp [hd]), GrR.refl _⟩
            · exact opOk_move (.inl rfl) ⟨by simp only [Is]; (first | exact hρ.2 0 rfl | exact hd | exact hd.1 | exact hd.2 | simp [hd]), GrR.refl _⟩
            · exact opOk_val (v := .pointer (some ⟨g, 0, none⟩)) (w' := wv) (by simp [execOp, go_sem, hρ.1.const, hρ.1.func, hd]) ⟨rfl, GrR.refl _⟩
            · exact opOk_val (v := .pointer (some ⟨g, 33, none⟩)) (w' := wv) (by simp [execOp, go_sem, hρ.1.const, hρ.1.func, hd]) ⟨rfl, GrR.refl _⟩
            · (have h0 := cell?_of_below hR HC33.out; exact opOk_val (v := .int .i64 (a.wait : Int)) (w' := wv) (by simp [execOp, go_sem, hd, h0]) ⟨rfl, GrR.refl _⟩)
            · exact opOk_val (v := .int .i64 (2 * (a.wait : Int))) (w' := wv) (by simp [execOp, go_sem, hρ.1.const, hρ.1.func, hd, HW3.out]) ⟨rfl, GrR.refl _⟩
            · exact opOk_move (.inl rfl) ⟨by simp only [Is]; (first | exact hρ.2 0 rfl | exact hd | exact hd.1 | exact hd.2 | simp [hd]), GrR.refl _⟩
            · exact opOk_val (v := .pointer (some ⟨g, 0, none⟩)) (w' := wv) (by simp [execOp, go_sem, hρ.1.const, hρ.1.func, hd]) ⟨rfl, GrR.refl _⟩
            · exact opOk_val (v := .pointer (some ⟨g, 0, none⟩)) (w' := wv) (by simp [execOp, go_sem, hρ.1.const, hρ.1.func, hd]) ⟨rfl, GrR.refl _⟩
            · exact opOk_val (v := .pointer (some ⟨g, 8, none⟩)) (w' := wv) (by simp [execOp, go_sem, hρ.1.const, hρ.1.func, hd]) ⟨rfl, GrR.refl _⟩
            · (have h0 := cell?_of_below hR HC8.out; exact opOk_val (v := .int .i64 60) (w' := wv) (by simp [execOp, go_sem, hd, h0]) ⟨rfl, GrR.refl _⟩)
            · exact opOk_val (v := .int .i64 (wt : Int)) (w' := wv) (by simp [execOp, go_sem, hρ.1.const, hρ.1.func, hd, HW4.out]) ⟨rfl, GrR.refl _⟩
            · exact opOk_val (v := .pointer (some ⟨g, 0, none⟩)) (w' := wv) (by simp [execOp, go_sem, hρ.1.const, hρ.1.func, hd]) ⟨rfl, GrR.refl _⟩
            · exact opOk_val (v := .pointer (some ⟨g, 33, none⟩)) (w' := wv) (by simp [execOp, go_sem, hρ.1.const, hρ.1.func, hd]) ⟨rfl, GrR.refl _⟩
          · intro vals wv hR hall
            have i11 := hall 11 (by omega)
            have i13 := hall 13 (by omega)
            simp only [factAt, Is, List.getD_eq_getElem?_getD, List.getElem?_cons_succ, List.getElem?_cons_zero, Option.getD_some] at i11 i13
            clear hall
            simp only [List.take_succ_cons, List.take_zero, List.drop_succ_cons, List.drop_zero, fillFrom, Act.put, i11, i13, List.setIfInBounds_toArray, List.set_cons_zero, List.set_cons_succ, Nat.zero_add, Nat.reduceAdd]
            have hax := AsAt.mono HAS.out hR
            have hrx := HRT.out
            have hcx := HCH.out.then (Chg.of_gr (S := fun _ => False) hR) (fun _ _ h => h.elim)
            have hex := HEV.out.mono hR
            clear HAS HRT HCH HEV hR i11 i13
            have HAS := hid hax
            have HRT := hid hrx
            have HCH := hid hcx
            have HEV := hid hex
            clear hax hrx hcx hex
            obtain ⟨w9, hwn⟩ : ∃ y, y = wv := ⟨_, rfl⟩
            subst hwn
            obtain ⟨a5, ha5⟩ : ∃ y, y = ({ a with often := n, said := { a.said with path := pt }, row := a.row ++ [{ a.said with path := pt }], wait := wt } : AsD) := ⟨_, rfl⟩
            have HA5 := hid ha5
            clear ha5
            have y0 := HAS.out.cell 33 (.int .i64 (a.wait : Int)) (by intro vk vp vs; rw [HA4.out]; rfl)
            have y1 := HAS.out.frz 33
            have hCx := (Chg.refl (fun k => k = g) w9).set ⟨g, 33, none⟩ (.int .i64 (wt : Int)) (.inl rfl)
            have hNx : ¬ w.heap.size = g := by
              obtain ⟨q, hq⟩ := AsAt.rowF HAS.out
              exact rowV_ne HEV.out hq (by decide)
            have hax : As B (w9.setCell ⟨g, 33, none⟩ (.int .i64 (wt : Int))) g vx a5 := HAS.out.put (by decide) (by decide) 33 _ (by intro vk vp vs; rw [HA5.out, HA4.out]; rfl) (by rw [HA5.out, HA4.out]) (by rw [HA5.out, HA4.out]) (by rw [HA5.out, HA4.out]) (by rw [HA5.out, HA4.out])
            have hrx := HRT.out
            have hcx := HCH.out.set ⟨g, 33, none⟩ (.int .i64 (wt : Int)) (.inl (.inl rfl))
            have hex := HEV.out.chg hCx hNx
            obtain ⟨wr, hwn⟩ : ∃ y, y = w9.setCell ⟨g, 33, none⟩ (.int .i64 (wt : Int)) := ⟨_, rfl⟩
            rw [← hwn] at hax hcx hex
            have HE := hid hwn
            clear hCx hNx hwn
            go_upto_region 9 with fail
            rw [← HE.out]
            clear y0 y1 HE HC33 HC8
            have HAS := hid hax
            have HRT := hid hrx
            have HCH := hid hcx
            have HEV := hid hex
            clear hax hrx hcx hex
            have HC33 := hid (HAS.out.cell 33 (.int .i64 (wt : Int)) (by intro vk vp vs; rw [HA5.out]; rfl))
            refine wp_region_tail 10 [Is (.pointer (some ⟨g, 0, none⟩)), Is (.int .i64 now), Is (.int .i64 now), Is (.pointer (some ⟨g, 0, none⟩)), Is (.pointer (some ⟨g, 0, none⟩)), Is (.pointer (some ⟨g, 33, none⟩)), Is (.int .i64 (wt : Int)), Is (.int .i64 (now + (wt : Int))), Is (.pointer (some ⟨g, 0, none⟩)), Is (.pointer (some ⟨g, 27, none⟩))] (by kernel_rfl) (by kernel_rfl) (by kernel_rfl) (by kernel_rfl) (by kernel_rfl) (by kernel_rfl) ?_ ?_ ?_
            · simp only [StabAll, Is.gr, RdF.gr, OwnF.gr, AnyF.gr, and_self]
            · try (rename_i Kk hKk; clear hKk Kk)
              simp only [List.take_succ_cons, List.take_zero, AllOps, List.map_cons, List.map_nil, depsOf, List.filterMap_cons, List.filterMap_nil, Region.binds, depFacts, guardF, reduceIte, List.getD_eq_getElem?_getD, List.getElem?_cons_succ, List.getElem?_cons_zero, Option.getD_some, factAt, and_true]
              refine ⟨?_, ?_, ?_, ?_, ?_, ?_, ?_, ?_, ?_, ?_⟩
              all_goals intro ρ wv hρ hR hd
              all_goals try simp only [Is] at hd
              · exact opOk_move (.inl rfl) ⟨by simp only [Is]; (first | exact hρ.2 0 rfl | exact hd | exact hd.1 | exact hd.2 | simp [hd]), GrR.refl _⟩
              · exact opOk_move (.inl rfl) ⟨by simp only [Is]; (first | exact hρ.2 1 rfl | exact hd | exact hd.1 | exact hd.2 | simp [hd]), GrR.refl _⟩
              · exact opOk_call hρ.1 rfl rfl Tryd.func35 (by kernel_rfl) rfl (by simp [hd, hρ.1.const, hρ.1.func]) ((clock_any now HNOW.out wv).mono fun e w' ⟨h1, h2⟩ => ⟨_, h1, rfl, h2 ▸ GrR.refl _⟩)
              · exact opOk_move (.inl rfl) ⟨by simp only [Is]; (first | exact hρ.2 0 rfl | exact hd | exact hd.1 | exact hd.2 | simp [hd]), GrR.refl _⟩
              · exact opOk_val (v := .pointer (some ⟨g, 0, none⟩)) (w' := wv) (by simp [execOp, go_sem, hρ.1.const, hρ.1.func, hd]) ⟨rfl, GrR.refl _⟩
              · exact opOk_val (v := .pointer (some ⟨g, 33, none⟩)) (w' := wv) (by simp [execOp, go_sem, hρ.1.const, hρ.1.func, hd]) ⟨rfl, GrR.refl _⟩
              · (have h0 := cell?_of_below hR HC33.out; exact opOk_val (v := .int .i64 (wt : Int)) (w' := wv) (by simp [execOp, go_sem, hd, h0]) ⟨rfl, GrR.refl _⟩)
              · exact opOk_val (v := .int .i64 (now + (wt : Int))) (w' := wv) (by simp [execOp, go_sem, hρ.1.const, hρ.1.func, hd, HW5.out]) ⟨rfl, GrR.refl _⟩
              · exact opOk_val (v := .pointer (some ⟨g, 0, none⟩)) (w' := wv) (by simp [execOp, go_sem, hρ.1.const, hρ.1.func, hd]) ⟨rfl, GrR.refl _⟩
              · exact opOk_val (v := .pointer (some ⟨g, 27, none⟩)) (w' := wv) (by simp [execOp, go_sem, hρ.1.const, hρ.1.func, hd]) ⟨rfl, GrR.refl _⟩
            · intro vals wv hR hall
              have i7 := hall 7 (by omega)
              have i9 := hall 9 (by omega)
              simp only [factAt, Is, List.getD_eq_getElem?_getD, List.getElem?_cons_succ, List.getElem?_cons_zero, Option.getD_some] at i7 i9
              clear hall
              simp only [List.take_succ_cons, List.take_zero, List.drop_succ_cons, List.drop_zero, fillFrom, Act.put, i7, i9, List.setIfInBounds_toArray, List.set_cons_zero, List.set_cons_succ, Nat.zero_add, Nat.reduceAdd]
              have hax := AsAt.mono HAS.out hR
              have hrx := HRT.out
              have hcx := HCH.out.then (Chg.of_gr (S := fun _ => False) hR) (fun _ _ h => h.elim)
              have hex := HEV.out.mono hR
              clear HAS HRT HCH HEV hR i7 i9
              have HAS := hid hax
              have HRT := hid hrx
              have HCH := hid hcx
              have HEV := hid hex
              clear hax hrx hcx hex
              obtain ⟨w11, hwn⟩ : ∃ y, y = wv := ⟨_, rfl⟩
              subst hwn
              obtain ⟨a6, ha6⟩ : ∃ y, y = ({ a with often := n, said := { a.said with path := pt }, row := a.row ++ [{ a.said with path := pt }], wait := wt, timer := now + (wt : Int) } : AsD) := ⟨_, rfl⟩
              have HA6 := hid ha6
              clear ha6
              have y0 := HAS.out.cell 27 (.int .i64 a.timer) (by intro vk vp vs; rw [HA5.out]; rfl)
              have y1 := HAS.out.frz 27
              have hCx := (Chg.refl (fun k => k = g) w11).set ⟨g, 27, none⟩ (.int .i64 (now + (wt : Int))) (.inl rfl)
              have hNx : ¬ w.heap.size = g := by
                obtain ⟨q, hq⟩ := AsAt.rowF HAS.out
                exact rowV_ne HEV.out hq (by decide)
              have hax : As B (w11.setCell ⟨g, 27, none⟩ (.int .i64 (now + (wt : Int)))) g vx a6 := HAS.out.put (by decide) (by decide) 27 _ (by intro vk vp vs; rw [HA6.out, HA5.out]; rfl) (by rw [HA6.out, HA5.out]) (by rw [HA6.out, HA5.out]) (by rw [HA6.out, HA5.out]) (by rw [HA6.out, HA5.out])
              have hrx := HRT.out
              have hcx := HCH.out.set ⟨g, 27, none⟩ (.int .i64 (now + (wt : Int))) (.inl (.inl rfl))
              have hex := HEV.out.chg hCx hNx
              obtain ⟨ws, hwn⟩ : ∃ y, y = w11.setCell ⟨g, 27, none⟩ (.int .i64 (now + (wt : Int))) := ⟨_, rfl⟩
              rw [← hwn] at hax hcx hex
              have HE := hid hwn
              clear hCx hNx hwn
              go_upto_region 10 with fail
              rw [← HE.out]
              clear y0 y1 HE HC33
              have HAS := hid hax
              have HRT := hid hrx
              have HCH := hid hcx
              have HEV := hid hex
              clear hax hrx hcx hex
              have y0 := HEV.out.at 0 (by simp)
              have y1 := HEV.out.at 1 (by simp)
              have y2 := HEV.out.at 2 (by simp)
              have y3 := HEV.out.at 3 (by simp)
              have y4 := HEV.out.at 4 (by simp)
              have y5 := HEV.out.at 5 (by simp)
              have y6 := HEV.out.at 6 (by simp)
              have y7 := HEV.out.at 7 (by simp)
              have y8 := HEV.out.at 8 (by simp)
              have y9 := HEV.out.at 9 (by simp)
              simp only [List.getElem_cons_succ, List.getElem_cons_zero] at y0 y1 y2 y3 y4 y5 y6 y7 y8 y9
              have f0 := HEV.out.frozen 0
              have f1 := HEV.out.frozen 1
              have f2 := HEV.out.frozen 2
              have f3 := HEV.out.frozen 3
              have f4 := HEV.out.frozen 4
              have f5 := HEV.out.frozen 5
              have f6 := HEV.out.frozen 6
              have f7 := HEV.out.frozen 7
              have f8 := HEV.out.frozen 8
              have f9 := HEV.out.frozen 9
              go_wp2_with fail
              clear y0 f0 y1 f1 y2 f2 y3 f3 y4 f4 y5 f5 y6 f6 y7 f7 y8 f8 y9 f9
              have HEC := hid (show Chg (fun k => k = w.heap.size) ws _ from (((((((((((Chg.refl (fun k => k = w.heap.size) ws).set ⟨w.heap.size, 0, none⟩ (.bool false) (.inl rfl)).set ⟨w.heap.size, 1, none⟩ (.bool false) (.inl rfl)).set ⟨w.heap.size, 2, none⟩ (.bool false) (.inl rfl)).set ⟨w.heap.size, 3, none⟩ (.int .u32 0) (.inl rfl)).set ⟨w.heap.size, 4, none⟩ (.int .u32 0) (.inl rfl)).set ⟨w.heap.size, 5, none⟩ (.int .u16 0) (.inl rfl)).set ⟨w.heap.size, 6, none⟩ (.int .u16 0) (.inl rfl)).set ⟨w.heap.size, 7, none⟩ (.int .u32 0) (.inl rfl)).set ⟨w.heap.size, 8, none⟩ (.slice none 0 0) (.inl rfl)).set ⟨w.heap.size, 9, none⟩ (.int .u32 0) (.inl rfl)))
              refine tick_ret (.bool false) (.bool false) (.bool false) (.int .u32 0) (.int .u32 0) (.int .u16 0) (.int .u16 0) (.int .u32 0) (.slice none 0 0) (.int .u32 0) rfl rfl ((((((((((HEV.out.store 0 (.bool false)).store 1 (.bool false)).store 2 (.bool false)).store 3 (.int .u32 0)).store 4 (.int .u32 0)).store 5 (.int .u16 0)).store 6 (.int .u16 0)).store 7 (.int .u32 0)).store 8 (.slice none 0 0)).store 9 (.int .u32 0)) ⟨?_, ?_⟩
              · rw [HQ.out]; rfl
              · have HD : DidA B w g vr a6 ws := ⟨vx, HAS.out, HRT.out, HCH.out⟩
                rw [HQ.out]
                rw [HA6.out] at HD
                exact HD.ev (Nat.le_refl _) HEV.out (by decide) (by decide) (by decide) HEC.out
end Go.Proofs.YtiimlanbbfhkjaaDoor

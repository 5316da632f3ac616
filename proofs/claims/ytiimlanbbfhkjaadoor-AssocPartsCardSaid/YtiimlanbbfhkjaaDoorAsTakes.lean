/- Takes: may a packet be looked at? Conditions: the association lies as it should; the packet reads as it should. -/
import Derived.Test.YtiimlanbbfhkjaaDoorAsChunk
import Derived.Test.YtiimlanbbfhkjaaDoorAsHas
set_option linter.unusedSimpArgs false
set_option linter.unusedVariables false



namespace Go.FL

open Go.RowKit

/-- Whether a packet is taken. -/
def takesB (a : AsD) (tag : Nat) (cs : List Chk) : Bool :=
  if cs.length = 0 then false
  else if cs.any (kindIs 1) = true then (decide (tag = 0) && ([1, 2, 3] : List UInt8).any (fun x => decide (a.st = x.toNat)))
  else if cs.head?.map (·.k) = some 10 then decide (a.st ≠ 0)
  else if a.st = 0 ∨ a.st = 1 then (cs.any (kindIs 8) && (decide (a.go ≠ 0) && decide (tag = a.go)))
  else decide (tag = a.tag)
end Go.FL

namespace Go.Proofs.YtiimlanbbfhkjaaDoor

open Go.RowKit Go.FL Go.ChangeShapes

set_option maxRecDepth 100000 in
set_option maxHeartbeats 4000000 in
theorem takes_any (B : Nat) (w : World) (g : Nat) (vr : Value) (a : AsD) (h : As B w g vr a) (hst : a.st < 256) (tag : Nat) (cs : List Chk) (v : Value) (hp : PkAt w v tag cs) :
    Calls Tryd.prog 15 #[.pointer (some ⟨g, 0, none⟩), v] w fun e w' => e = .returned (.bool (takesB a tag cs)) ∧ Below w.heap.size w w' := by
  obtain ⟨sl, rfl, hcs⟩ := hp
  obtain ⟨q, cp, rfl, hlc, hcm, -⟩ := id hcs
  unfold maxLen at hcm
  obtain ⟨n, hn⟩ : ∃ n, n = cs.length := ⟨_, rfl⟩
  have HN := hid hn
  rw [← hn] at hcs hlc ⊢
  have HST := hid hst
  obtain ⟨W, hW⟩ : ∃ W, W = w.alloc (.cells #[.int .u32 (tag : Int), .slice q n cp] 45 (0, 0)) := ⟨_, rfl⟩
  have HP := hid (show RowV W w.heap.size 45 [.int .u32 (tag : Int), .slice q n cp] by rw [hW]; exact RowV.new w _ _)
  have G0 := hid (show Below w.heap.size w W by rw [hW]; exact (Below.refl _ _).alloc (Nat.le_refl _) _)
  have HCS := hid (hcs.mono G0.out)
  have HAS := hid (AsAt.mono h G0.out)
  have HE := hid hW
  have p0 := HP.out.at 0 (by simp)
  have p1 := HP.out.at 1 (by simp)
  simp only [List.getElem_cons_succ, List.getElem_cons_zero] at p0 p1
  rw [hW] at p0 p1
  clear hW h hcs hn hst
  go_enter Tryd.func15, Tryd.ntmps15
  by_cases qn : n = 0
  · have zn : ((n : Int) == 0) = true := by simp; omega
    have HQ := hid (show takesB a tag cs = false by unfold takesB; rw [if_pos (by rw [← HN.out]; exact qn)])
    clear qn
    go_wp2_with fail
    go_ret
    exact ⟨by first | (rw [HQ.out]; done) | (rw [HQ.out]; rfl), by rw [← HE.out]; exact G0.out⟩
  · have zn : ((n : Int) == 0) = false := by simp; omega
    have HQN := hid (show ¬ cs.length = 0 by rw [← HN.out]; exact qn)
    go_wp2_with fail
    rw [← HE.out]
    refine (has_any tag cs 1 _ _ ⟨_, rfl, HCS.out⟩).mono ?_
    rintro e w1 ⟨rfl, hb1⟩
    have HPX := hid (HP.out.mono hb1)
    have HCX := hid (HCS.out.mono hb1)
    have HASX := hid (HAS.out.mono hb1)
    have GX := hid (gr_trans G0.out hb1)
    clear p0 p1 hb1
    have p0 := HPX.out.at 0 (by simp)
    have p1 := HPX.out.at 1 (by simp)
    simp only [List.getElem_cons_succ, List.getElem_cons_zero] at p0 p1
    have HPT := hid p0
    obtain ⟨vk, vp, vs, r1, -⟩ := id HASX.out
    have HAX := hid r1
    clear r1
    obtain ⟨b1, hb1⟩ : ∃ b, cs.any (kindIs 1) = b := ⟨_, rfl⟩
    rw [hb1]
    have H1 := hid hb1
    clear hb1
    cases b1
    case true =>
      by_cases qt : tag = 0
      · have zt : ((tag : Int) == 0) = true := by simp; omega
        have HQ := hid (show takesB a tag cs = ([1, 2, 3] : List UInt8).any (fun x => decide (a.st = x.toNat)) by unfold takesB; rw [if_neg HQN.out, if_pos H1.out, decide_eq_true qt]; rfl)
        clear qt
        obtain ⟨W3, hWW3⟩ : ∃ x, x = w1.alloc (.cells #[.int .u8 1, .int .u8 2, .int .u8 3] 5 (0, 0)) := ⟨_, rfl⟩
        have gW3 : Below w1.heap.size w1 W3 := by rw [hWW3]; exact (Below.refl _ _).alloc (Nat.le_refl _) _
        have HRDW3 := hid (show Rd W3 (.slice (some ⟨w1.heap.size, 0, none⟩) 3 3) [1, 2, 3] by rw [hWW3]; exact rd_new w1 5 [1, 2, 3] 3 _ rfl rfl (by unfold maxLen; omega))
        have HEW3 := hid hWW3
        have HAS3 := hid (HASX.out.mono gW3)
        have G3 := hid (gr_trans GX.out gW3)
        clear hWW3 gW3
        go_wp2_with fail
        rw [← HEW3.out]
        refine (is_any B _ g vr a HAS3.out HST.out [1, 2, 3] _ HRDW3.out).mono ?_
        rintro e w4 ⟨rfl, rfl⟩
        go_wp2_with fail
        go_ret
        exact ⟨by first | (rw [HQ.out]; done) | (rw [HQ.out]; rfl) | (rw [HQ.out]; simp), G3.out⟩
      · have zt : ((tag : Int) == 0) = false := by simp; omega
        have HQ := hid (show takesB a tag cs = false by unfold takesB; rw [if_neg HQN.out, if_pos H1.out, decide_eq_false qt]; rfl)
        clear qt
        go_wp2_with fail
        go_ret
        exact ⟨by first | (rw [HQ.out]; done) | (rw [HQ.out]; rfl), GX.out⟩
    case false =>
      have H1n := hid (show ¬ cs.any (kindIs 1) = true by rw [H1.out]; decide)
      obtain ⟨pp, cc, hpe, -, -, hel⟩ := HCX.out
      obtain ⟨bb, off, sl, hq, k0, k1, k2, hrd⟩ := hel 0 (by rw [← HN.out]; omega)
      simp only [Value.slice.injEq] at hpe
      obtain ⟨e1, -, e3⟩ := hpe
      rw [← e1] at hq
      clear e1 e3
      subst hq
      obtain ⟨c0, hc0⟩ : ∃ c, c = cs[0]'(by rw [← HN.out]; omega) := ⟨_, rfl⟩
      rw [← hc0] at k0
      have HC0 := hid (show cs.head? = some c0 by rw [hc0]; cases cs with | nil => exact absurd rfl HQN.out | cons x r => rfl)
      have hkb := byte_lt c0.k
      simp only [Nat.zero_mul, Nat.add_zero] at k0
      have n0 : (0 : Int) < (n : Int) := by omega
      clear k1 k2 hrd hc0 hel
      have c15 := HAX.out.at 15 (by simp [AsD.cells])
      simp only [AsD.cells, List.getElem_cons_succ, List.getElem_cons_zero] at c15
      have HC24 := hid (HAX.out.at 24 (by simp [AsD.cells]))
      simp only [AsD.cells, List.getElem_cons_succ, List.getElem_cons_zero] at HC24
      have HC16 := hid (HAX.out.at 16 (by simp [AsD.cells]))
      simp only [AsD.cells, List.getElem_cons_succ, List.getElem_cons_zero] at HC16
      by_cases qk : c0.k = 10
      · have zk : ((c0.k.toNat : Int) == 10) = true := by rw [kind_eq c0.k 10 10 rfl, decide_eq_true qk]
        have HQ := hid (show takesB a tag cs = decide (a.st ≠ 0) by unfold takesB; rw [if_neg HQN.out, if_neg H1n.out, HC0.out]; simp only [Option.map_some]; rw [if_pos (by rw [qk])])
        clear qk
        obtain ⟨z, hz⟩ : ∃ z, z = decide (a.st ≠ 0) := ⟨_, rfl⟩
        have zs : ((a.st : Int) != 0) = z := by rw [hz, Bool.eq_iff_iff]; simp <;> omega
        rw [← hz] at HQ
        clear hz
        go_wp2_with fail
        go_ret
        exact ⟨by first | (rw [HQ.out]; done) | (rw [HQ.out]; rfl), GX.out⟩
      · have zk : ((c0.k.toNat : Int) == 10) = false := by rw [kind_eq c0.k 10 10 rfl, decide_eq_false qk]
        have HQK := hid (show ¬ (cs.head?.map (·.k) = some 10) by rw [HC0.out]; simpa using qk)
        clear qk
        obtain ⟨W3, hWW3⟩ : ∃ x, x = w1.alloc (.cells #[.int .u8 0, .int .u8 1] 5 (0, 0)) := ⟨_, rfl⟩
        have gW3 : Below w1.heap.size w1 W3 := by rw [hWW3]; exact (Below.refl _ _).alloc (Nat.le_refl _) _
        have HRDW3 := hid (show Rd W3 (.slice (some ⟨w1.heap.size, 0, none⟩) 2 2) [0, 1] by rw [hWW3]; exact rd_new w1 5 [0, 1] 2 _ rfl rfl (by unfold maxLen; omega))
        have HEW3 := hid hWW3
        have HAS3 := hid (HASX.out.mono gW3)
        have HPX3 := hid (HPX.out.mono gW3)
        have HCX3 := hid (HCX.out.mono gW3)
        have HAX3 := hid (HAX.out.mono gW3)
        have G3 := hid (gr_trans GX.out gW3)
        clear hWW3 gW3
        have HB3 := hid (show ([0, 1] : List UInt8).any (fun x => decide (a.st = x.toNat)) = (decide (a.st = 0) || (decide (a.st = 1) || false)) from rfl)
        go_wp2_with fail
        rw [← HEW3.out]
        refine (is_any B _ g vr a HAS3.out HST.out [0, 1] _ HRDW3.out).mono ?_
        rintro e w4 ⟨rfl, rfl⟩
        rw [HB3.out]
        clear c15 k0 p0 p1 HC24 HC16 HPT HPX HCX HAX GX HASX
        have HPX := HPX3
        have HCX := HCX3
        have HAX := HAX3
        have GX := G3
        have HC24 := hid (HAX.out.at 24 (by simp [AsD.cells]))
        simp only [AsD.cells, List.getElem_cons_succ, List.getElem_cons_zero] at HC24
        have HC16 := hid (HAX.out.at 16 (by simp [AsD.cells]))
        simp only [AsD.cells, List.getElem_cons_succ, List.getElem_cons_zero] at HC16
        have HPT := hid (HPX.out.at 0 (by simp))
        simp only [List.getElem_cons_succ, List.getElem_cons_zero] at HPT
        by_cases q1 : a.st = 0 ∨ a.st = 1
        · have hb : (decide (a.st = 0) || (decide (a.st = 1) || false)) = true := by rcases q1 with e | e <;> simp [e]
          rw [hb]
          have HQ0 := hid (show takesB a tag cs = (cs.any (kindIs 8) && (decide (a.go ≠ 0) && decide (tag = a.go))) by unfold takesB; rw [if_neg HQN.out, if_neg H1n.out, if_neg HQK.out, if_pos q1])
          clear q1 hb
          obtain ⟨b8, hb8⟩ : ∃ b, cs.any (kindIs 8) = b := ⟨_, rfl⟩
          have H8 := hid hb8
          clear hb8
          cases b8
          case false =>
            have HQ := hid (show takesB a tag cs = false by rw [HQ0.out, H8.out]; rfl)
            go_wp2_with fail
            refine wp_region_gr [Is (.agg ([.int .u32 (tag : Int), .slice (some ⟨bb, off, none⟩) n cp]).toArray), Is (.bool false), Is (.bool false), AnyF, AnyF, AnyF, AnyF, AnyF, AnyF, Is (.bool false), Is (.bool false), AnyF, AnyF, AnyF, AnyF, AnyF, AnyF, AnyF, AnyF, Is (.bool false), Is (.bool false)] (by kernel_rfl) (by kernel_rfl) (by kernel_rfl) ?_ ?_ ?_
            · simp only [StabAll, Is.gr, RdF.gr, OwnF.gr, AnyF.gr, and_self]
            · try (rename_i Kk hKk; clear hKk Kk)
              simp only [AllOps, List.map_cons, List.map_nil, depsOf, List.filterMap_cons, List.filterMap_nil, Region.binds, depFacts, guardF, reduceIte, List.getD_eq_getElem?_getD, List.getElem?_cons_succ, List.getElem?_cons_zero, Option.getD_some, factAt, and_true]
              refine ⟨?_, ?_, ?_, ?_, ?_, ?_, ?_, ?_, ?_, ?_, ?_, ?_, ?_, ?_, ?_, ?_, ?_, ?_, ?_, ?_, ?_⟩
              all_goals intro ρ wv hρ hR hd
              all_goals try simp only [Is] at hd
              · exact opOk_loadRow rfl (w.heap.size) (by first | exact hρ.2 _ rfl | simp [hd]) _ ([.int .u32 (tag : Int), .slice (some ⟨bb, off, none⟩) n cp]) _ (HPX.out.mono hR) Tryd.underlying45 rfl (by kernel_rfl) ⟨rfl, GrR.refl _⟩
              · exact opOk_call hρ.1 rfl rfl Tryd.func30 (by kernel_rfl) rfl (by simp [hd, hρ.1.const, hρ.1.func]) ((has_any tag cs 8 _ wv ⟨_, rfl, HCX.out.mono hR⟩).mono fun e w' ⟨h1, h2⟩ => ⟨_, h1, by rw [H8.out]; rfl, h2⟩)
              · exact opOk_move (.inl rfl) ⟨by simp only [Is]; (first | exact hρ.2 42 rfl | exact hd | exact hd.1 | exact hd.2 | simp [hd]), GrR.refl _⟩
              · exact ⟨fun hg => absurd hg (by simp [hd]), fun _ => trivial⟩
              · exact ⟨fun hg => absurd hg (by simp [hd]), fun _ => trivial⟩
              · exact ⟨fun hg => absurd hg (by simp [hd]), fun _ => trivial⟩
              · exact ⟨fun hg => absurd hg (by simp [hd]), fun _ => trivial⟩
              · exact ⟨fun hg => absurd hg (by simp [hd]), fun _ => trivial⟩
              · exact ⟨fun hg => absurd hg (by simp [hd]), fun _ => trivial⟩
              · exact opOk_val (v := .bool false) (w' := wv) (by simp [execOp, go_sem, hρ.1.const, hρ.1.func, hd]) ⟨rfl, GrR.refl _⟩
              · exact opOk_move (.inl rfl) ⟨by simp only [Is]; (first | exact hρ.2 50 rfl | exact hd | exact hd.1 | exact hd.2 | simp [hd]), GrR.refl _⟩
              · exact ⟨fun hg => absurd hg (by simp [hd]), fun _ => trivial⟩
              · exact ⟨fun hg => absurd hg (by simp [hd]), fun _ => trivial⟩
              · exact ⟨fun hg => absurd hg (by simp [hd]), fun _ => trivial⟩
              · exact ⟨fun hg => absurd hg (by simp [hd]), fun _ => trivial⟩
              · exact ⟨fun hg => absurd hg (by simp [hd]), fun _ => trivial⟩
              · exact ⟨fun hg => absurd hg (by simp [hd]), fun _ => trivial⟩
              · exact ⟨fun hg => absurd hg (by simp [hd]), fun _ => trivial⟩
              · exact ⟨fun hg => absurd hg (by simp [hd]), fun _ => trivial⟩
              · exact opOk_val (v := .bool false) (w' := wv) (by simp [execOp, go_sem, hρ.1.const, hρ.1.func, hd]) ⟨rfl, GrR.refl _⟩
              · exact opOk_move (.inr rfl) ⟨by simp only [Is]; (first | exact hρ.2 60 rfl | exact hd | exact hd.1 | exact hd.2 | simp [hd]), GrR.refl _⟩
            · intro vals wv hR hall
              have i20 := hall 20 (by simp)
              simp only [factAt, Is, List.getD_eq_getElem?_getD, List.getElem?_cons_succ, List.getElem?_cons_zero, Option.getD_some] at i20
              clear hall
              simp only [fillFrom, Act.put, i20, List.setIfInBounds_toArray, List.set_cons_zero, List.set_cons_succ]
              rename_i Kk hKk
              refine hKk _ _ ?_
              clear hKk Kk i20
              have GF := hid (gr_trans GX.out hR)
              clear hR
              go_wp2_with fail
              go_ret
              exact ⟨by first | (rw [HQ.out]; done) | (rw [HQ.out]; rfl), GF.out⟩
          case true =>
            by_cases qg : a.go = 0
            · have HG1 := hid (show ((a.go : Int) != 0) = false by simp; omega)
              have HQ := hid (show takesB a tag cs = false by rw [HQ0.out, H8.out]; simp [qg])
              clear qg
              go_wp2_with fail
              refine wp_region_gr [Is (.agg ([.int .u32 (tag : Int), .slice (some ⟨bb, off, none⟩) n cp]).toArray), Is (.bool true), Is (.bool true), Is (.pointer (some ⟨g, 0, none⟩)), Is (.pointer (some ⟨g, 0, none⟩)), Is (.pointer (some ⟨g, 24, none⟩)), Is (.pointer (some ⟨g, 24, none⟩)), Is (.int .u32 (a.go : Int)), Is (.bool false), Is (.bool false), Is (.bool false), AnyF, AnyF, AnyF, AnyF, AnyF, AnyF, AnyF, AnyF, Is (.bool false), Is (.bool false)] (by kernel_rfl) (by kernel_rfl) (by kernel_rfl) ?_ ?_ ?_
              · simp only [StabAll, Is.gr, RdF.gr, OwnF.gr, AnyF.gr, and_self]
              · try (rename_i Kk hKk; clear hKk Kk)
                simp only [AllOps, List.map_cons, List.map_nil, depsOf, List.filterMap_cons, List.filterMap_nil, Region.binds, depFacts, guardF, reduceIte, List.getD_eq_getElem?_getD, List.getElem?_cons_succ, List.getElem?_cons_zero, Option.getD_some, factAt, and_true]
                refine ⟨?_, ?_, ?_, ?_, ?_, ?_, ?_, ?_, ?_, ?_, ?_, ?_, ?_, ?_, ?_, ?_, ?_, ?_, ?_, ?_, ?_⟩
                all_goals intro ρ wv hρ hR hd
                all_goals try simp only [Is] at hd
                · exact opOk_loadRow rfl (w.heap.size) (by first | exact hρ.2 _ rfl | simp [hd]) _ ([.int .u32 (tag : Int), .slice (some ⟨bb, off, none⟩) n cp]) _ (HPX.out.mono hR) Tryd.underlying45 rfl (by kernel_rfl) ⟨rfl, GrR.refl _⟩
                · exact opOk_call hρ.1 rfl rfl Tryd.func30 (by kernel_rfl) rfl (by simp [hd, hρ.1.const, hρ.1.func]) ((has_any tag cs 8 _ wv ⟨_, rfl, HCX.out.mono hR⟩).mono fun e w' ⟨h1, h2⟩ => ⟨_, h1, by rw [H8.out]; rfl, h2⟩)
                · exact opOk_move (.inl rfl) ⟨by simp only [Is]; (first | exact hρ.2 42 rfl | exact hd | exact hd.1 | exact hd.2 | simp [hd]), GrR.refl _⟩
                · refine ⟨fun _ => ?_, fun hg => absurd (by simp [hd]) hg⟩; exact opOk_move (.inl rfl) ⟨by simp only [Is]; (first | exact hρ.2 0 rfl | exact hd | exact hd.1 | exact hd.2 | simp [hd]), GrR.refl _⟩
                · refine ⟨fun _ => ?_, fun hg => absurd (by simp [hd]) hg⟩; exact opOk_val (v := .pointer (some ⟨g, 0, none⟩)) (w' := wv) (by simp [execOp, go_sem, hρ.1.const, hρ.1.func, hd]) ⟨rfl, GrR.refl _⟩
                · refine ⟨fun _ => ?_, fun hg => absurd (by simp [hd]) hg⟩; exact opOk_val (v := .pointer (some ⟨g, 24, none⟩)) (w' := wv) (by simp [execOp, go_sem, hρ.1.const, hρ.1.func, hd]) ⟨rfl, GrR.refl _⟩
                · refine ⟨fun _ => ?_, fun hg => absurd (by simp [hd]) hg⟩; exact opOk_val (v := .pointer (some ⟨g, 24, none⟩)) (w' := wv) (by simp [execOp, go_sem, hρ.1.const, hρ.1.func, hd]) ⟨rfl, GrR.refl _⟩
                · refine ⟨fun _ => ?_, fun hg => absurd (by simp [hd]) hg⟩; (have h0 := cell?_of_below hR HC24.out; exact opOk_val (v := .int .u32 (a.go : Int)) (w' := wv) (by simp [execOp, go_sem, hd, h0]) ⟨rfl, GrR.refl _⟩)
                · refine ⟨fun _ => ?_, fun hg => absurd (by simp [hd]) hg⟩; exact opOk_val (v := .bool false) (w' := wv) (by simp [execOp, go_sem, hρ.1.const, hρ.1.func, hd, HG1.out]) ⟨rfl, GrR.refl _⟩
                · exact opOk_val (v := .bool false) (w' := wv) (by simp [execOp, go_sem, hρ.1.const, hρ.1.func, hd]) ⟨rfl, GrR.refl _⟩
                · exact opOk_move (.inl rfl) ⟨by simp only [Is]; (first | exact hρ.2 50 rfl | exact hd | exact hd.1 | exact hd.2 | simp [hd]), GrR.refl _⟩
                · exact ⟨fun hg => absurd hg (by simp [hd]), fun _ => trivial⟩
                · exact ⟨fun hg => absurd hg (by simp [hd]), fun _ => trivial⟩
                · exact ⟨fun hg => absurd hg (by simp [hd]), fun _ => trivial⟩
                · exact ⟨fun hg => absurd hg (by simp [hd]), fun _ => trivial⟩
                · exact ⟨fun hg => absurd hg (by simp [hd]), fun _ => trivial⟩
                · exact ⟨fun hg => absurd hg (by simp [hd]), fun _ => trivial⟩
                · exact ⟨fun hg => absurd hg (by simp [hd]), fun _ => trivial⟩
                · exact ⟨fun hg => absurd hg (by simp [hd]), fun _ => trivial⟩
                · exact opOk_val (v := .bool false) (w' := wv) (by simp [execOp, go_sem, hρ.1.const, hρ.1.func, hd]) ⟨rfl, GrR.refl _⟩
                · exact opOk_move (.inr rfl) ⟨by simp only [Is]; (first | exact hρ.2 60 rfl | exact hd | exact hd.1 | exact hd.2 | simp [hd]), GrR.refl _⟩
              · intro vals wv hR hall
                have i20 := hall 20 (by simp)
                simp only [factAt, Is, List.getD_eq_getElem?_getD, List.getElem?_cons_succ, List.getElem?_cons_zero, Option.getD_some] at i20
                clear hall
                simp only [fillFrom, Act.put, i20, List.setIfInBounds_toArray, List.set_cons_zero, List.set_cons_succ]
                rename_i Kk hKk
                refine hKk _ _ ?_
                clear hKk Kk i20
                have GF := hid (gr_trans GX.out hR)
                clear hR
                go_wp2_with fail
                go_ret
                exact ⟨by first | (rw [HQ.out]; done) | (rw [HQ.out]; rfl), GF.out⟩
            · have HG1 := hid (show ((a.go : Int) != 0) = true by simp; omega)
              obtain ⟨eb, heb⟩ : ∃ b, b = decide (tag = a.go) := ⟨_, rfl⟩
              have HEB := hid (show ((tag : Int) == (a.go : Int)) = eb by rw [heb, Bool.eq_iff_iff]; simp; omega)
              have HQ := hid (show takesB a tag cs = eb by rw [HQ0.out, H8.out, decide_eq_true qg, heb]; rfl)
              clear qg heb
              go_wp2_with fail
              refine wp_region_gr [Is (.agg ([.int .u32 (tag : Int), .slice (some ⟨bb, off, none⟩) n cp]).toArray), Is (.bool true), Is (.bool true), Is (.pointer (some ⟨g, 0, none⟩)), Is (.pointer (some ⟨g, 0, none⟩)), Is (.pointer (some ⟨g, 24, none⟩)), Is (.pointer (some ⟨g, 24, none⟩)), Is (.int .u32 (a.go : Int)), Is (.bool true), Is (.bool true), Is (.bool true), Is (.pointer (some ⟨w.heap.size, 0, none⟩)), Is (.int .u32 (tag : Int)), Is (.pointer (some ⟨g, 0, none⟩)), Is (.pointer (some ⟨g, 0, none⟩)), Is (.pointer (some ⟨g, 24, none⟩)), Is (.pointer (some ⟨g, 24, none⟩)), Is (.int .u32 (a.go : Int)), Is (.bool eb), Is (.bool eb), Is (.bool eb)] (by kernel_rfl) (by kernel_rfl) (by kernel_rfl) ?_ ?_ ?_
              · simp only [StabAll, Is.gr, RdF.gr, OwnF.gr, AnyF.gr, and_self]
              · try (rename_i Kk hKk; clear hKk Kk)
                simp only [AllOps, List.map_cons, List.map_nil, depsOf, List.filterMap_cons, List.filterMap_nil, Region.binds, depFacts, guardF, reduceIte, List.getD_eq_getElem?_getD, List.getElem?_cons_succ, List.getElem?_cons_zero, Option.getD_some, factAt, and_true]
                refine ⟨?_, ?_, ?_, ?_, ?_, ?_, ?_, ?_, ?_, ?_, ?_, ?_, ?_, ?_, ?_, ?_, ?_, ?_, ?_, ?_, ?_⟩
                all_goals intro ρ wv hρ hR hd
                all_goals try simp only [Is] at hd
                · exact opOk_loadRow rfl (w.heap.size) (by first | exact hρ.2 _ rfl | simp [hd]) _ ([.int .u32 (tag : Int), .slice (some ⟨bb, off, none⟩) n cp]) _ (HPX.out.mono hR) Tryd.underlying45 rfl (by kernel_rfl) ⟨rfl, GrR.refl _⟩
                · exact opOk_call hρ.1 rfl rfl Tryd.func30 (by kernel_rfl) rfl (by simp [hd, hρ.1.const, hρ.1.func]) ((has_any tag cs 8 _ wv ⟨_, rfl, HCX.out.mono hR⟩).mono fun e w' ⟨h1, h2⟩ => ⟨_, h1, by rw [H8.out]; rfl, h2⟩)
                · exact opOk_move (.inl rfl) ⟨by simp only [Is]; (first | exact hρ.2 42 rfl | exact hd | exact hd.1 | exact hd.2 | simp [hd]), GrR.refl _⟩
                · refine ⟨fun _ => ?_, fun hg => absurd (by simp [hd]) hg⟩; exact opOk_move (.inl rfl) ⟨by simp only [Is]; (first | exact hρ.2 0 rfl | exact hd | exact hd.1 | exact hd.2 | simp [hd]), GrR.refl _⟩
                · refine ⟨fun _ => ?_, fun hg => absurd (by simp [hd]) hg⟩; exact opOk_val (v := .pointer (some ⟨g, 0, none⟩)) (w' := wv) (by simp [execOp, go_sem, hρ.1.const, hρ.1.func, hd]) ⟨rfl, GrR.refl _⟩
                · refine ⟨fun _ => ?_, fun hg => absurd (by simp [hd]) hg⟩; exact opOk_val (v := .pointer (some ⟨g, 24, none⟩)) (w' := wv) (by simp [execOp, go_sem, hρ.1.const, hρ.1.func, hd]) ⟨rfl, GrR.refl _⟩
                · refine ⟨fun _ => ?_, fun hg => absurd (by simp [hd]) hg⟩; exact opOk_val (v := .pointer (some ⟨g, 24, none⟩)) (w' := wv) (by simp [execOp, go_sem, hρ.1.const, hρ.1.func, hd]) ⟨rfl, GrR.refl _⟩
                · refine ⟨fun _ => ?_, fun hg => absurd (by simp [hd]) hg⟩; (have h0 := cell?_of_below hR HC24.out; exact opOk_val (v := .int .u32 (a.go : Int)) (w' := wv) (by simp [execOp, go_sem, hd, h0]) ⟨rfl, GrR.refl _⟩)
                · refine ⟨fun _ => ?_, fun hg => absurd (by simp [hd]) hg⟩; exact opOk_val (v := .bool true) (w' := wv) (by simp [execOp, go_sem, hρ.1.const, hρ.1.func, hd, HG1.out]) ⟨rfl, GrR.refl _⟩
                · exact opOk_val (v := .bool true) (w' := wv) (by simp [execOp, go_sem, hρ.1.const, hρ.1.func, hd]) ⟨rfl, GrR.refl _⟩
                · exact opOk_move (.inl rfl) ⟨by simp only [Is]; (first | exact hρ.2 50 rfl | exact hd | exact hd.1 | exact hd.2 | simp [hd]), GrR.refl _⟩
                · refine ⟨fun _ => ?_, fun hg => absurd (by simp [hd]) hg⟩; exact opOk_val (v := .pointer (some ⟨w.heap.size, 0, none⟩)) (w' := wv) (by simp [execOp, go_sem, hρ.1.const, hρ.1.func, hd, (hρ.2 3 rfl)]) ⟨rfl, GrR.refl _⟩
                · refine ⟨fun _ => ?_, fun hg => absurd (by simp [hd]) hg⟩; (have h0 := cell?_of_below hR HPT.out; exact opOk_val (v := .int .u32 (tag : Int)) (w' := wv) (by simp [execOp, go_sem, hd, h0]) ⟨rfl, GrR.refl _⟩)
                · refine ⟨fun _ => ?_, fun hg => absurd (by simp [hd]) hg⟩; exact opOk_move (.inl rfl) ⟨by simp only [Is]; (first | exact hρ.2 0 rfl | exact hd | exact hd.1 | exact hd.2 | simp [hd]), GrR.refl _⟩
                · refine ⟨fun _ => ?_, fun hg => absurd (by simp [hd]) hg⟩; exact opOk_val (v := .pointer (some ⟨g, 0, none⟩)) (w' := wv) (by simp [execOp, go_sem, hρ.1.const, hρ.1.func, hd]) ⟨rfl, GrR.refl _⟩
                · refine ⟨fun _ => ?_, fun hg => absurd (by simp [hd]) hg⟩; exact opOk_val (v := .pointer (some ⟨g, 24, none⟩)) (w' := wv) (by simp [execOp, go_sem, hρ.1.const, hρ.1.func, hd]) ⟨rfl, GrR.refl _⟩
                · refine ⟨fun _ => ?_, fun hg => absurd (by simp [hd]) hg⟩; exact opOk_val (v := .pointer (some ⟨g, 24, none⟩)) (w' := wv) (by simp [execOp, go_sem, hρ.1.const, hρ.1.func, hd]) ⟨rfl, GrR.refl _⟩
                · refine ⟨fun _ => ?_, fun hg => absurd (by simp [hd]) hg⟩; (have h0 := cell?_of_below hR HC24.out; exact opOk_val (v := .int .u32 (a.go : Int)) (w' := wv) (by simp [execOp, go_sem, hd, h0]) ⟨rfl, GrR.refl _⟩)
                · refine ⟨fun _ => ?_, fun hg => absurd (by simp [hd]) hg⟩; exact opOk_val (v := .bool eb) (w' := wv) (by simp [execOp, go_sem, hρ.1.const, hρ.1.func, hd, HEB.out]) ⟨rfl, GrR.refl _⟩
                · exact opOk_val (v := .bool eb) (w' := wv) (by simp [execOp, go_sem, hρ.1.const, hρ.1.func, hd]) ⟨rfl, GrR.refl _⟩
                · exact opOk_move (.inr rfl) ⟨by simp only [Is]; (first | exact hρ.2 60 rfl | exact hd | exact hd.1 | exact hd.2 | simp [hd]), GrR.refl _⟩
              · intro vals wv hR hall
                have i20 := hall 20 (by simp)
                simp only [factAt, Is, List.getD_eq_getElem?_getD, List.getElem?_cons_succ, List.getElem?_cons_zero, Option.getD_some] at i20
                clear hall
                simp only [fillFrom, Act.put, i20, List.setIfInBounds_toArray, List.set_cons_zero, List.set_cons_succ]
                rename_i Kk hKk
                refine hKk _ _ ?_
                clear hKk Kk i20
                have GF := hid (gr_trans GX.out hR)
                clear hR
                go_wp2_with fail
                go_ret
                exact ⟨by first | (rw [HQ.out]; done) | (rw [HQ.out]; rfl), GF.out⟩
        · have hb : (decide (a.st = 0) || (decide (a.st = 1) || false)) = false := by simp; omega
          rw [hb]
          obtain ⟨eb, heb⟩ : ∃ b, b = decide (tag = a.tag) := ⟨_, rfl⟩
          have HEB := hid (show ((tag : Int) == (a.tag : Int)) = eb by rw [heb, Bool.eq_iff_iff]; simp; omega)
          have HQ := hid (show takesB a tag cs = eb by unfold takesB; rw [if_neg HQN.out, if_neg H1n.out, if_neg HQK.out, if_neg q1, heb])
          clear q1 hb heb
          go_wp2_with fail
          refine wp_region_gr [Is (.pointer (some ⟨w.heap.size, 0, none⟩)), Is (.int .u32 (tag : Int)), Is (.pointer (some ⟨g, 0, none⟩)), Is (.pointer (some ⟨g, 0, none⟩)), Is (.pointer (some ⟨g, 16, none⟩)), Is (.int .u32 (a.tag : Int)), Is (.bool eb), Is (.bool eb)] (by kernel_rfl) (by kernel_rfl) (by kernel_rfl) ?_ ?_ ?_
          · simp only [StabAll, Is.gr, RdF.gr, OwnF.gr, AnyF.gr, and_self]
          · try (rename_i Kk hKk; clear hKk Kk)
            simp only [AllOps, List.map_cons, List.map_nil, depsOf, List.filterMap_cons, List.filterMap_nil, Region.binds, depFacts, guardF, reduceIte, List.getD_eq_getElem?_getD, List.getElem?_cons_succ, List.getElem?_cons_zero, Option.getD_some, factAt, and_true]
            refine ⟨?_, ?_, ?_, ?_, ?_, ?_, ?_, ?_⟩
            all_goals intro ρ wv hρ hR hd
            all_goals try simp only [Is] at hd
            · exact opOk_val (v := .pointer (some ⟨w.heap.size, 0, none⟩)) (w' := wv) (by simp [execOp, go_sem, hρ.1.const, hρ.1.func, hd, (hρ.2 3 rfl)]) ⟨rfl, GrR.refl _⟩
            · (have h0 := cell?_of_below hR HPT.out; exact opOk_val (v := .int .u32 (tag : Int)) (w' := wv) (by simp [execOp, go_sem, hd, h0]) ⟨rfl, GrR.refl _⟩)
            · exact opOk_move (.inl rfl) ⟨by simp only [Is]; (first | exact hρ.2 0 rfl | exact hd | exact hd.1 | exact hd.2 | simp [hd]), GrR.refl _⟩
            · exact opOk_val (v := .pointer (some ⟨g, 0, none⟩)) (w' := wv) (by simp [execOp, go_sem, hρ.1.const, hρ.1.func, hd]) ⟨rfl, GrR.refl _⟩
            · exact opOk_val (v := .pointer (some ⟨g, 16, none⟩)) (w' := wv) (by simp [execOp, go_sem, hρ.1.const, hρ.1.func, hd]) ⟨rfl, GrR.refl _⟩
            · (have h0 := cell?_of_below hR HC16.out; exact opOk_val (v := .int .u32 (a.tag : Int)) (w' := wv) (by simp [execOp, go_sem, hd, h0]) ⟨rfl, GrR.refl _⟩)
            · exact opOk_val (v := .bool eb) (w' := wv) (by simp [execOp, go_sem, hρ.1.const, hρ.1.func, hd, HEB.out]) ⟨rfl, GrR.refl _⟩
            · exact opOk_move (.inr rfl) ⟨by simp only [Is]; (first | exact hρ.2 67 rfl | exact hd | exact hd.1 | exact hd.2 | simp [hd]), GrR.refl _⟩
          · intro vals wv hR hall
            have i7 := hall 7 (by simp)
            simp only [factAt, Is, List.getD_eq_getElem?_getD, List.getElem?_cons_succ, List.getElem?_cons_zero, Option.getD_some] at i7
            clear hall
            simp only [fillFrom, Act.put, i7, List.setIfInBounds_toArray, List.set_cons_zero, List.set_cons_succ]
            rename_i Kk hKk
            refine hKk _ _ ?_
            clear hKk Kk i7
            have GF := hid (gr_trans GX.out hR)
            clear hR
            go_wp2_with fail
            go_ret
            exact ⟨by first | (rw [HQ.out]; done) | (rw [HQ.out]; rfl), GF.out⟩
end Go.Proofs.YtiimlanbbfhkjaaDoor

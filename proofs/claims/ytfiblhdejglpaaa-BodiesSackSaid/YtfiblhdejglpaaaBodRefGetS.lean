/- The document's Apart and GetSack. Conditions: what comes in reads as it should. -/
import Derived.Test.YtfiblhdejglpaaaBodRefGets
import Derived.Test.YtfiblhdejglpaaaBodRefPutL
import Derived.Test.YtfiblhdejglpaaaBodRefGetF
import Derived.Test.YtfiblhdejglpaaaBodGetS
import Derived.Test.YtfiblhdejglpaaaBodRoom
import Derived.Test.YtfiblhdejglpaaaBodBackMath
import Derived.BigQuiet
import Derived.Deep.QuietTactic
namespace Go.FL
open Go.RowKit
theorem apart_false : ∀ (m : List (Nat × Nat)) (s : Bool × Nat), s.1 = false → (m.foldl apartStep s).1 = false
  | [], _, h => h
  | g :: m, s, h => apart_false m (apartStep s g) (by simp [apartStep, h])
theorem apartS_cut (l : List (Nat × Nat)) (k : Nat) (h : (apartS (l.take k)).1 = false) : (apartS l).1 = false := by
  have e : apartS l = (l.drop k).foldl apartStep (apartS (l.take k)) := by
    unfold apartS
    rw [← List.foldl_append, List.take_append_drop]
  rw [e]
  exact apart_false _ _ h
theorem apartS_next (l : List (Nat × Nat)) (k : Nat) (h : k < l.length) : apartS (l.take (k + 1)) = apartStep (apartS (l.take k)) l[k] := by
  rw [List.take_succ_eq_append_getElem h, apartS_snoc]
theorem sackNilDups (w : World) : RdV w (.slice none 0 0) (([] : List Nat).map fun x : Nat => Value.int .u32 (x : Int)) := ⟨none, 0, rfl, Nat.le_refl _, Nat.zero_le _, fun _ => rfl, fun j h => by simp at h⟩
theorem sack_nums (t : SackD) (a : t.gaps.length < 65536) (b : t.dups.length < 65536) : numAt t.body 8 2 = t.gaps.length ∧ numAt t.body 10 2 = t.dups.length := by
  have e : t.body = beBytes 4 t.cum ++ (beBytes 4 t.rwnd ++ (beBytes 2 t.gaps.length ++ (beBytes 2 t.dups.length ++ (gapsBytes t.gaps ++ catBE 4 t.dups)))) := by simp [SackD.body, SackD.head]
  rw [e]
  constructor
  · rw [← List.append_assoc]
    exact numAt_be _ _ 8 2 _ (by simp [beBytes_length]) (by omega)
  · rw [← List.append_assoc, ← List.append_assoc]
    exact numAt_be _ _ 10 2 _ (by simp [beBytes_length]) (by omega)
theorem sackGet_other (c : Chk) (h : c.b.length < 12 ∨ c.b.length ≠ 12 + 4 * numAt c.b 8 2 + 4 * numAt c.b 10 2) : sackGet c = (.zero, 7) := by
  unfold sackGet
  rw [if_neg]
  intro hc
  have e1 : (sackOf c).body = c.b := congrArg Chk.b hc.2
  have hl := (sackOf c).body_length
  have g1 : (sackOf c).gaps.length < 65536 := by
    show (pairsAt _ _ _).length < _
    rw [pairsAt_length]
    exact Nat.lt_of_le_of_lt (Nat.min_le_left _ _) (numAt_lt _ _ 2)
  have g2 : (sackOf c).dups.length < 65536 := by
    show (numsAt _ _ _).length < _
    rw [numsAt_length]
    exact Nat.lt_of_le_of_lt (Nat.min_le_left _ _) (numAt_lt _ _ 2)
  have hn := sack_nums (sackOf c) g1 g2
  rw [e1] at hn hl
  omega
theorem sackOf_full (c : Chk) (g d : Nat) (hg : g = numAt c.b 8 2) (hd : d = numAt c.b 10 2) (h : c.b.length = 12 + 4 * g + 4 * d) : sackOf c = ⟨numAt c.b 0 4, numAt c.b 4 4, pairsAt c.b 12 g, numsAt c.b (12 + 4 * g) d⟩ := by
  have e1 : sackNG c = g := by unfold sackNG cnt4; omega
  have e2 : sackND c = d := by unfold sackND cnt4; rw [e1]; omega
  unfold sackOf
  rw [e1, e2]
end Go.FL
namespace Go.Proofs.Ytfiblhdejglpaaa
open Go.RowKit Go.FL Go.ChangeShapes

set_option maxRecDepth 100000 in
set_option maxHeartbeats 4000000 in
theorem rApart_any (v : Value) (l : List (Nat × Nat)) (w : World) (h : RdP w v l) (hl : l.length ≤ 1000000) (hwf : pairsWf l) :
    Calls Try.prog 60 #[v] w fun e w' => e = .returned (.bool (apartS l).1) ∧ Below w.heap.size w w' := by
  have HV := hid h
  obtain ⟨p, c, rfl, hlc, hcm, -, -⟩ := h
  unfold maxLen at hcm
  obtain ⟨n, hn⟩ : ∃ n, n = l.length := ⟨_, rfl⟩
  have HN := hid hn
  have HWF := hid hwf
  clear hwf
  rw [← hn] at HV hl hlc ⊢
  obtain ⟨res, hres⟩ : ∃ b, b = (apartS l).1 := ⟨_, rfl⟩
  have HR := hid hres
  rw [← hres]
  clear hn hres
  go_enter Try.func60, Try.ntmps60
  go_wp2_with fail
  go_loopw [3, 4] (fun y3 y4 wr => ∃ (k L : Nat), k ≤ n ∧ y4 = .int .i64 (k : Int) ∧ y3 = .int .i64 (L : Int) ∧ Hid ((apartS (l.take k)) = (true, L)) ∧ L < 65536 ∧ Hid (Below w.heap.size w wr)) (fun _ y _ => n - (intOf y).toNat)
  case atStart => exact ⟨0, 0, Nat.zero_le _, rfl, rfl, hid rfl, by omega, hid (Below.refl _ _)⟩
  case round =>
    obtain ⟨k, L, hk, rfl, rfl, HA, hL, HB⟩ := hrel
    obtain ⟨L2, hL2⟩ : ∃ m, m = L + 2 := ⟨_, rfl⟩
    have hw2 : IntKind.i64.wrap ((L : Int) + 2) = (L2 : Int) := by rw [IntKind.wrap_i64]; omega
    by_cases hlt : k < n
    · obtain ⟨pp, cc, hpe, -, -, -, hcel⟩ := HV.out.mono HB.out
      simp only [Value.slice.injEq] at hpe
      obtain ⟨rfl, -, rfl⟩ := hpe
      have hltl : k < l.length := by rw [← HN.out]; exact hlt
      obtain ⟨bb, off, rfl, d0, d1⟩ := hcel k hltl
      have HNX := hid (apartS_next l k hltl)
      have hgw := HWF.out _ (List.getElem_mem hltl)
      obtain ⟨gj, hgj⟩ : ∃ g, g = l[k] := ⟨_, rfl⟩
      rw [← hgj] at d0 d1 HNX hgw
      clear hgj
      obtain ⟨ga, gb⟩ := gj
      simp only at d0 d1 hgw
      obtain ⟨hga, hgb⟩ := hgw
      have hwa : IntKind.i64.wrap (ga : Int) = (ga : Int) := by rw [IntKind.wrap_i64]; omega
      have hwb : IntKind.i64.wrap (gb : Int) = (gb : Int) := by rw [IntKind.wrap_i64]; omega
      have i0 : (0 : Int) ≤ (k : Int) := by omega
      have i1 : (k : Int) < (n : Int) := by omega
      have i2 : ((k : Int)).toNat = k := by omega
      have HST := hid (show apartS (l.take (k + 1)) = ((decide (L2 ≤ ga)) && decide (ga ≤ gb), gb) by rw [HNX.out, HA.out, hL2]; simp [apartStep])
      clear hcel hltl
      by_cases c1 : ga < L2
      · have c1b : decide (ga < L2) = true := decide_eq_true c1
        have HRS := hid (show res = false by rw [HR.out]; exact apartS_cut l (k + 1) (by rw [HST.out, decide_eq_false (by omega)]; rfl))
        clear hL2 c1
        go_wp2_with fail
        go_quiet (fail)
        go_wp2_with fail
        go_ret
        exact ⟨by rw [HRS.out]; rfl, gr_trans HB.out (gr_drewN _ _)⟩
      · have c1b : decide (ga < L2) = false := decide_eq_false c1
        by_cases c2 : gb < ga
        · have c2b : decide (gb < ga) = true := decide_eq_true c2
          have HRS := hid (show res = false by rw [HR.out]; exact apartS_cut l (k + 1) (by rw [HST.out, decide_eq_false (show ¬ ga ≤ gb by omega)]; simp))
          clear hL2 c1 c2
          go_wp2_with fail
          go_quiet (fail)
          go_wp2_with fail
          go_ret
          exact ⟨by rw [HRS.out]; rfl, gr_trans HB.out (gr_drewN _ _)⟩
        · have c2b : decide (gb < ga) = false := decide_eq_false c2
          have HSU := hid (show apartS (l.take (k + 1)) = (true, gb) by rw [HST.out, decide_eq_true (show L2 ≤ ga by omega), decide_eq_true (show ga ≤ gb by omega)]; rfl)
          clear hL2 c1 c2
          go_wp2_with fail
          go_quiet (fail)
          go_wp2_with fail
          go_roundw
          case rel => exact ⟨k + 1, gb, by omega, by go_num, rfl, HSU, hgb, hid (gr_trans HB.out (gr_drewN _ _))⟩
          case measure => simp [intOf]; omega
    · obtain rfl : k = n := by omega
      have HRS := hid (show res = true by
        rw [HR.out]
        have := HA.out
        rw [List.take_of_length_le (by rw [← HN.out]; exact Nat.le_refl _)] at this
        rw [this])
      clear hL2
      go_wp2_with fail
      go_ret
      exact ⟨by rw [HRS.out]; rfl, HB.out⟩
theorem rgetSack_ret {a : Act} {W : World} {g : Nat} {R : Ending → World → Prop} (v0 v1 v2 v3 : Value) (er : Int) (h2 : a.tmps.getD 2 undef = .pointer (some ⟨g, 0, none⟩)) (h3 : a.tmps.getD 3 undef = .int .i64 er) (hd : a.defers = [])
    (hc : RowV W g 45 [v0, v1, v2, v3]) (hR : R (.returned (.tuple #[.agg #[v0, v1, v2, v3], .int .i64 er])) W) : bodyPost Try.prog Try.f26 R .ret a W := by
  refine bodyPost_ret (v := .tuple #[.agg #[v0, v1, v2, v3], .int .i64 er]) ?_ hd hR
  obtain ⟨c0, c1, c2, c3, -⟩ := rowSack hc
  simp only [Array.getD_eq_getD_getElem?] at h2 h3
  simp [results, Try.results26, go_sem, h2, h3, asAddr, c0, c1, c2, c3]

set_option maxRecDepth 100000 in
set_option maxHeartbeats 16000000 in
theorem rgetSack_any (v : Value) (ch : Chk) (w : World) (h : ChkV w v ch) (hl : ch.b.length ≤ 1000000) :
    Calls Try.prog 26 #[v] w fun e w' => ∃ s, e = .returned (.tuple #[s, .int .i64 (sackGet ch).2]) ∧ SackAt w' s (sackGet ch).1 ∧ Below w.heap.size w w' := by
  obtain ⟨s, rfl, hrd⟩ := h
  have HV := hid hrd
  obtain ⟨p, c, rfl, hlc, hcm, hpn, hcell⟩ := hrd
  unfold maxLen at hcm
  clear hcell hpn
  obtain ⟨kc, fc, bc⟩ := ch
  simp only at *
  have hn0 := numAt_lt bc 0 4
  have hn1 := numAt_lt bc 4 4
  have hng := numAt_lt bc 8 2
  have hnd := numAt_lt bc 10 2
  obtain ⟨x0, hx0⟩ : ∃ x, x = numAt bc 0 4 := ⟨_, rfl⟩
  obtain ⟨x1, hx1⟩ : ∃ x, x = numAt bc 4 4 := ⟨_, rfl⟩
  obtain ⟨ng, hxg⟩ : ∃ x, x = numAt bc 8 2 := ⟨_, rfl⟩
  obtain ⟨nd, hxd⟩ : ∃ x, x = numAt bc 10 2 := ⟨_, rfl⟩
  rw [← hx0] at hn0
  rw [← hx1] at hn1
  rw [← hxg] at hng
  rw [← hxd] at hnd
  have HX0 := hid hx0
  have HX1 := hid hx1
  have HXG := hid hxg
  have HXD := hid hxd
  obtain ⟨res, hres⟩ : ∃ r, r = sackGet ⟨kc, fc, bc⟩ := ⟨_, rfl⟩
  rw [← hres]
  have HRES := hid hres
  clear hx0 hx1 hxg hxd hres
  have HW0 := hid (show IntKind.u32.wrap (x0 : Int) = (x0 : Int) by rw [wrap_u32_lt]; omega)
  have HW1 := hid (show IntKind.u32.wrap (x1 : Int) = (x1 : Int) by rw [wrap_u32_lt]; omega)
  obtain ⟨W0, hW0⟩ : ∃ W0, W0 = w.alloc (.cells #[.int .u8 (kc.toNat : Int), .int .u8 (fc.toNat : Int), .slice p bc.length c] 28 (0, 0)) := ⟨_, rfl⟩
  have hs0 : W0.heap.size = w.heap.size + 1 := by rw [hW0]; simp
  obtain ⟨W, hW⟩ : ∃ W, W = W0.alloc (.cells #[.int .u32 0, .int .u32 0, .slice none 0 0, .slice none 0 0] 45 (0, 0)) := ⟨_, rfl⟩
  have HC := hid (show RowV W w.heap.size 28 [.int .u8 (kc.toNat : Int), .int .u8 (fc.toNat : Int), .slice p bc.length c] by rw [hW, hW0]; exact (RowV.new w 28 _).alloc _)
  have HT := hid (show RowV W (w.heap.size + 1) 45 [.int .u32 0, .int .u32 0, .slice none 0 0, .slice none 0 0] by rw [hW, ← hs0]; exact RowV.new W0 45 _)
  have G0 := hid (show Below w.heap.size w W by rw [hW, hW0]; exact ((Below.refl _ _).alloc (Nat.le_refl _) _).alloc (by simp) _)
  have hs1 : W.heap.size = w.heap.size + 2 := by rw [hW]; simp [hs0]
  rw [hW0] at hW
  have HE := hid hW
  clear hW hW0 hs0
  have hkb := byte_lt kc
  have hfb := byte_lt fc
  have KC2 := hid (HC.out.at 2 (by simp))
  simp only [List.getElem_cons_succ, List.getElem_cons_zero] at KC2
  by_cases h12 : bc.length < 12
  · have HRS := hid (show res = (.zero, 7) by rw [HRES.out]; exact sackGet_other _ (.inl h12))
    have e1 : (bc.length : Int) < 12 := by omega
    go_enter Try.func26, Try.ntmps26
    go_wp2_with fail
    rw [← HE.out]
    refine rgetSack_ret (.int .u32 0) (.int .u32 0) (.slice none 0 0) (.slice none 0 0) 7 rfl rfl rfl HT.out ⟨.agg #[.int .u32 0, .int .u32 0, .slice none 0 0, .slice none 0 0], by rw [HRS.out], ?_, G0.out⟩
    rw [HRS.out]
    exact ⟨_, _, rfl, RdP.nil _, sackNilDups _⟩
  · have e1 : ¬ (bc.length : Int) < 12 := by omega
    obtain ⟨g4, hg4⟩ : ∃ n, n = 4 * ng := ⟨_, rfl⟩
    obtain ⟨d4, hd4⟩ : ∃ n, n = 4 * nd := ⟨_, rfl⟩
    obtain ⟨ag, hag⟩ : ∃ n, n = 12 + g4 := ⟨_, rfl⟩
    obtain ⟨al, hal⟩ : ∃ n, n = ag + d4 := ⟨_, rfl⟩
    have HG4 := hid (show IntKind.i64.wrap ((4 : Int) * (ng : Int)) = (g4 : Int) by rw [IntKind.wrap_i64]; omega)
    have HAG := hid (show IntKind.i64.wrap ((12 : Int) + (g4 : Int)) = (ag : Int) by rw [IntKind.wrap_i64]; omega)
    have HD4 := hid (show IntKind.i64.wrap ((4 : Int) * (nd : Int)) = (d4 : Int) by rw [IntKind.wrap_i64]; omega)
    have HAL := hid (show IntKind.i64.wrap ((ag : Int) + (d4 : Int)) = (al : Int) by rw [IntKind.wrap_i64]; omega)
    have HWG := hid (show IntKind.i64.wrap (ng : Int) = (ng : Int) by rw [IntKind.wrap_i64]; omega)
    have HWD := hid (show IntKind.i64.wrap (nd : Int) = (nd : Int) by rw [IntKind.wrap_i64]; omega)
    have HEG := hid (show ag = 12 + 4 * ng ∧ al = 12 + 4 * ng + 4 * nd by omega)
    clear hg4 hd4 hag hal h12
    go_enter Try.func26, Try.ntmps26
    go_wp2_with fail
    rw [← HE.out]
    refine wp_region_tail 10 [Is (.pointer (some ⟨w.heap.size, 2, none⟩)), Is (.slice p bc.length c), Is (.int .u64 (x0 : Int)), Is (.int .u32 (x0 : Int)), Is (.pointer (some ⟨w.heap.size, 2, none⟩)), Is (.slice p bc.length c), Is (.int .u64 (x1 : Int)), Is (.int .u32 (x1 : Int)), Is (.agg #[.int .u32 (x0 : Int), .int .u32 (x1 : Int), .slice none 0 0, .slice none 0 0]), NewF W.heap.size 45 [.int .u32 0, .int .u32 0, .slice none 0 0, .slice none 0 0]] (by kernel_rfl) (by kernel_rfl) (by kernel_rfl) (by kernel_rfl) (by kernel_rfl) (by kernel_rfl) ?_ ?_ ?_
    · simp only [StabAll, Is.gr, RdF.gr, OwnF.gr, AnyF.gr, NewF.gr, and_self]
    · rename_i Kk hKk; clear hKk Kk
      simp only [List.take_succ_cons, List.take_zero, AllOps, List.map_cons, List.map_nil, depsOf, List.filterMap_cons, List.filterMap_nil, Region.binds, depFacts, guardF, reduceIte, List.getD_eq_getElem?_getD, List.getElem?_cons_succ, List.getElem?_cons_zero, Option.getD_some, factAt, and_true]
      refine ⟨?_, ?_, ?_, ?_, ?_, ?_, ?_, ?_, ?_, ?_⟩
      all_goals intro ρ wv hρ hR hd
      all_goals try simp only [Is] at hd
      · exact opOk_val (v := .pointer (some ⟨w.heap.size, 2, none⟩)) (w' := wv) (by simp [execOp, go_sem, hρ.1.const, hρ.1.func, hd, (hρ.2 1 rfl)]) ⟨rfl, GrR.refl _⟩
      · (have h0 := cell?_of_below hR KC2.out; exact opOk_val (v := .slice p bc.length c) (w' := wv) (by simp [execOp, go_sem, hd, h0]) ⟨rfl, GrR.refl _⟩)
      · exact opOk_call hρ.1 rfl rfl Try.func54 (by kernel_rfl) rfl (by simp [hd, hρ.1.const, hρ.1.func]) ((bnumber_any _ bc 0 4 _ _ rfl rfl (by omega) _ ((HV.out.mono G0.out).mono hR) (by omega)).mono fun e w' ⟨h1, h2⟩ => ⟨_, h1, (by rw [HX0.out]; rfl), h2⟩)
      · exact opOk_val (v := .int .u32 (x0 : Int)) (w' := wv) (by simp [execOp, go_sem, hρ.1.const, hρ.1.func, hd, HW0.out]) ⟨rfl, GrR.refl _⟩
      · exact opOk_val (v := .pointer (some ⟨w.heap.size, 2, none⟩)) (w' := wv) (by simp [execOp, go_sem, hρ.1.const, hρ.1.func, hd, (hρ.2 1 rfl)]) ⟨rfl, GrR.refl _⟩
      · (have h0 := cell?_of_below hR KC2.out; exact opOk_val (v := .slice p bc.length c) (w' := wv) (by simp [execOp, go_sem, hd, h0]) ⟨rfl, GrR.refl _⟩)
      · exact opOk_call hρ.1 rfl rfl Try.func54 (by kernel_rfl) rfl (by simp [hd, hρ.1.const, hρ.1.func]) ((bnumber_any _ bc 4 4 _ _ rfl rfl (by omega) _ ((HV.out.mono G0.out).mono hR) (by omega)).mono fun e w' ⟨h1, h2⟩ => ⟨_, h1, (by rw [HX1.out]; rfl), h2⟩)
      · exact opOk_val (v := .int .u32 (x1 : Int)) (w' := wv) (by simp [execOp, go_sem, hρ.1.const, hρ.1.func, hd, HW1.out]) ⟨rfl, GrR.refl _⟩
      · exact opOk_val (v := .agg #[.int .u32 (x0 : Int), .int .u32 (x1 : Int), .slice none 0 0, .slice none 0 0]) (w' := wv) (by simp [execOp, go_sem, hρ.1.const, hρ.1.func, hd]) ⟨rfl, GrR.refl _⟩
      · exact opOk_val (v := .pointer (some ⟨wv.heap.size, 0, none⟩)) (w' := wv.alloc (.cells #[.int .u32 0, .int .u32 0, .slice none 0 0, .slice none 0 0] 45 (0, 0))) (by simp [execOp, go_sem]) ⟨⟨_, rfl, hR.size, RowV.new wv 45 [.int .u32 0, .int .u32 0, .slice none 0 0, .slice none 0 0]⟩, (Below.refl _ _).alloc (Nat.le_refl _) _⟩
    · intro vals wv hR hall
      have i8 := hall 8 (by omega)
      have i9 := hall 9 (by omega)
      simp only [factAt, Is, NewF, List.getD_eq_getElem?_getD, List.getElem?_cons_succ, List.getElem?_cons_zero, Option.getD_some] at i8 i9
      clear hall
      obtain ⟨h, h21, hge, hrow⟩ := i9
      simp only [List.take_succ_cons, List.take_zero, List.drop_succ_cons, List.drop_zero, fillFrom, Act.put, i8, h21, List.setIfInBounds_toArray, List.set_cons_zero, List.set_cons_succ, Nat.zero_add, Nat.reduceAdd]
      obtain ⟨w1, hw1⟩ : ∃ x, x = wv := ⟨_, rfl⟩
      subst hw1
      have HRW := hid hrow
      obtain ⟨i0, i1, i2, i3, -⟩ := rowSack HRW.out
      have y0 := HRW.out.frozen 0
      have y1 := HRW.out.frozen 1
      have y2 := HRW.out.frozen 2
      have y3 := HRW.out.frozen 3
      obtain ⟨w2, hw2⟩ : ∃ x, x = ((((w1.setCell ⟨h, 0, none⟩ (.int .u32 (x0 : Int))).setCell ⟨h, 1, none⟩ (.int .u32 (x1 : Int))).setCell ⟨h, 2, none⟩ (.slice none 0 0)).setCell ⟨h, 3, none⟩ (.slice none 0 0)) := ⟨_, rfl⟩
      have HF2 := hid (show RowV w2 h 45 [.int .u32 (x0 : Int), .int .u32 (x1 : Int), .slice none 0 0, .slice none 0 0] by rw [hw2]; exact ((((HRW.out.store 0 (.int .u32 (x0 : Int))).store 1 (.int .u32 (x1 : Int))).store 2 (.slice none 0 0)).store 3 (.slice none 0 0)))
      have g2 : w1.grownBy w2 (some h) := by rw [hw2]; exact gb_set (gb_set (gb_set (gb_set (gb_refl _ _) 0 _) 1 _) 2 _) 3 _
      have gq : Below W.heap.size W w2 := hR.trans (gb_below g2 hge hR.size)
      have HC2 := hid (HC.out.mono gq)
      have HT2 := hid (HT.out.mono gq)
      have G2 := hid (gr_trans G0.out gq)
      have HE2 := hid hw2
      have hh2 : w.heap.size + 2 ≤ h := by omega
      have HHS := hid (show h < w2.heap.size from HF2.out.lt)
      obtain ⟨q0, q1, q2⟩ := HC2.out.three
      rw [hw2] at q0 q1 q2
      clear hw2 g2 gq hR i8 h21 hrow
      go_wp2_with fail
      rw [← HE2.out]
      clear i0 i1 i2 i3 y0 y1 y2 y3 q0 q1 q2
      refine (bnumber_any _ bc 8 2 _ _ rfl rfl (by omega) _ (HV.out.mono G2.out) (by omega)).mono ?_
      rintro e w3 ⟨rfl, hb3⟩
      rw [← HXG.out]
      have HC3 := hid (HC2.out.mono hb3)
      have HT3 := hid (HT2.out.mono hb3)
      have HF3 := hid (HF2.out.mono hb3)
      have G3 := hid (gr_trans G2.out hb3)
      clear hb3
      obtain ⟨q0, q1, q2⟩ := HC3.out.three
      have hwg := HWG.out
      go_wp2_with fail
      clear q0 q1 q2 hwg
      refine (bnumber_any _ bc 10 2 _ _ rfl rfl (by omega) _ (HV.out.mono G3.out) (by omega)).mono ?_
      rintro e w4 ⟨rfl, hb4⟩
      rw [← HXD.out]
      have HC4 := hid (HC3.out.mono hb4)
      have HT4 := hid (HT3.out.mono hb4)
      have HF4 := hid (HF3.out.mono hb4)
      have G4 := hid (gr_trans G3.out hb4)
      have hh4 : h < w4.heap.size := HF4.out.lt
      clear hb4
      obtain ⟨q0, q1, q2⟩ := HC4.out.three
      have hwd := HWD.out
      have hg4 := HG4.out
      have hag := HAG.out
      have hd4 := HD4.out
      have hal := HAL.out
      by_cases hlen : bc.length = al
      · have hne : ((bc.length : Int) != (al : Int)) = false := by rw [hlen]; simp
        have HLEN := hid hlen
        have HSO := hid (show sackOf ⟨kc, fc, bc⟩ = ⟨x0, x1, pairsAt bc 12 ng, numsAt bc ag nd⟩ by rw [HX0.out, HX1.out, HEG.out.1]; exact sackOf_full ⟨kc, fc, bc⟩ ng nd HXG.out HXD.out (by show bc.length = _; rw [hlen, HEG.out.2]))
        clear hlen
        go_wp2_with fail
        clear q0 q1 q2 hwd hg4 hag hd4 hal hne
        have hlb : 12 + 4 * ng + 4 * nd ≤ bc.length := by rw [HLEN.out, HEG.out.2]; exact Nat.le_refl _
        go_loopw [7] (fun y wr => ∃ (j : Nat) (z : Value), j ≤ ng ∧ y = .int .i64 (j : Int) ∧ Hid (RowV wr h 45 [.int .u32 (x0 : Int), .int .u32 (x1 : Int), z, .slice none 0 0]) ∧ Hid (OwnP wr (h + 1) 80 z (pairsAt bc 12 j)) ∧ Hid (Chg (fun k => h ≤ k) w4 wr)) (fun y _ => ng - (intOf y).toNat)
        case atStart => exact ⟨0, .slice none 0 0, by omega, rfl, HF4, hid (OwnP.nil _ _ _), hid (Chg.refl _ _)⟩
        case round =>
          obtain ⟨j, z, hj, rfl, HF, HO, HG⟩ := hrel
          obtain ⟨pz, cz, rfl, hcz⟩ := HO.out.form
          have HCr := hid (HC4.out.chg HG.out (by omega))
          have HTr := hid (HT4.out.chg HG.out (by omega))
          have Gr := hid (show Below w.heap.size w wr from G4.out.trans (HG.out.below (B := w.heap.size) (by omega) (fun k hk => by omega)))
          have hszr := HG.out.size
          have HLP := hid (pairsAt_length bc 12 j)
          rw [HLP.out] at HF HO
          by_cases hlt : j < ng
          · obtain ⟨j4, hj4⟩ : ∃ n, n = 4 * j := ⟨_, rfl⟩
            obtain ⟨a, ha⟩ : ∃ n, n = 12 + j4 := ⟨_, rfl⟩
            obtain ⟨a2, ha2⟩ : ∃ n, n = 14 + j4 := ⟨_, rfl⟩
            have HM1 := hid (show IntKind.i64.wrap ((4 : Int) * (j : Int)) = (j4 : Int) by rw [IntKind.wrap_i64]; omega)
            have HM2 := hid (show IntKind.i64.wrap ((12 : Int) + (j4 : Int)) = (a : Int) by rw [IntKind.wrap_i64]; omega)
            have HM3 := hid (show IntKind.i64.wrap ((14 : Int) + (j4 : Int)) = (a2 : Int) by rw [IntKind.wrap_i64]; omega)
            have K2 := hid (HF.out.at 2 (by simp))
            have KC2 := hid (HCr.out.at 2 (by simp))
            simp only [List.getElem_cons_succ, List.getElem_cons_zero] at K2 KC2
            have hna := numAt_lt bc a 2
            have hnb := numAt_lt bc a2 2
            have HSU := hid (show pairsAt bc 12 (j + 1) = pairsAt bc 12 j ++ [(numAt bc a 2, numAt bc a2 2)] by rw [ha, ha2, hj4, show 14 + 4 * j = 12 + 4 * j + 2 by omega]; exact pairsAt_succ bc 12 j)
            obtain ⟨xa, hxa⟩ : ∃ x, x = numAt bc a 2 := ⟨_, rfl⟩
            obtain ⟨xb, hxb⟩ : ∃ x, x = numAt bc a2 2 := ⟨_, rfl⟩
            rw [← hxa] at hna
            rw [← hxb] at hnb
            rw [← hxa, ← hxb] at HSU
            have HXA := hid hxa
            have HXB := hid hxb
            have HWA := hid (show IntKind.u16.wrap (xa : Int) = (xa : Int) by rw [IntKind.wrap_u16]; omega)
            have HWB := hid (show IntKind.u16.wrap (xb : Int) = (xb : Int) by rw [IntKind.wrap_u16]; omega)
            obtain ⟨w7, hw7⟩ : ∃ x, x = wr := ⟨_, rfl⟩
            subst hw7
            have hlf := HF.out.lt
            clear hxa hxb hj4 ha ha2
            go_wp2_with fail
            refine wp_region_tail 18 [Is (.pointer (some ⟨h, 2, none⟩)), Is (.slice pz j cz), Is (.pointer (some ⟨w.heap.size, 2, none⟩)), Is (.slice p bc.length c), Is (.int .i64 (j : Int)), Is (.int .i64 (j4 : Int)), Is (.int .i64 (a : Int)), Is (.int .u64 (xa : Int)), Is (.int .u16 (xa : Int)), Is (.pointer (some ⟨w.heap.size, 2, none⟩)), Is (.slice p bc.length c), Is (.int .i64 (j : Int)), Is (.int .i64 (j4 : Int)), Is (.int .i64 (a2 : Int)), Is (.int .u64 (xb : Int)), Is (.int .u16 (xb : Int)), Is (.agg #[.int .u16 (xa : Int), .int .u16 (xb : Int)]), NewSF w7.heap.size 80 1 [.int .u16 (xa : Int), .int .u16 (xb : Int)]] (by kernel_rfl) (by kernel_rfl) (by kernel_rfl) (by kernel_rfl) (by kernel_rfl) (by kernel_rfl) ?_ ?_ ?_
            · simp only [StabAll, Is.gr, RdF.gr, OwnF.gr, AnyF.gr, NewSF.gr, and_self]
            · rename_i Kk hKk; clear hKk Kk
              simp only [List.take_succ_cons, List.take_zero, AllOps, List.map_cons, List.map_nil, depsOf, List.filterMap_cons, List.filterMap_nil, Region.binds, depFacts, guardF, reduceIte, List.getD_eq_getElem?_getD, List.getElem?_cons_succ, List.getElem?_cons_zero, Option.getD_some, factAt, and_true]
              refine ⟨?_, ?_, ?_, ?_, ?_, ?_, ?_, ?_, ?_, ?_, ?_, ?_, ?_, ?_, ?_, ?_, ?_, ?_⟩
              all_goals intro ρ wv hρ hR hd
              all_goals try simp only [Is] at hd
              · exact opOk_val (v := .pointer (some ⟨h, 2, none⟩)) (w' := wv) (by simp [execOp, go_sem, hρ.1.const, hρ.1.func, hd, (hρ.2 4 rfl)]) ⟨rfl, GrR.refl _⟩
              · (have h0 := cell?_of_below hR K2.out; exact opOk_val (v := .slice pz j cz) (w' := wv) (by simp [execOp, go_sem, hd, h0]) ⟨rfl, GrR.refl _⟩)
              · exact opOk_val (v := .pointer (some ⟨w.heap.size, 2, none⟩)) (w' := wv) (by simp [execOp, go_sem, hρ.1.const, hρ.1.func, hd, (hρ.2 1 rfl)]) ⟨rfl, GrR.refl _⟩
              · (have h0 := cell?_of_below hR KC2.out; exact opOk_val (v := .slice p bc.length c) (w' := wv) (by simp [execOp, go_sem, hd, h0]) ⟨rfl, GrR.refl _⟩)
              · exact opOk_move (.inl rfl) ⟨by simp only [Is]; (first | exact hρ.2 7 rfl | exact hd | exact hd.1 | exact hd.2 | simp [hd]), GrR.refl _⟩
              · exact opOk_val (v := .int .i64 (j4 : Int)) (w' := wv) (by simp [execOp, go_sem, hρ.1.const, hρ.1.func, hd, HM1.out]) ⟨rfl, GrR.refl _⟩
              · exact opOk_val (v := .int .i64 (a : Int)) (w' := wv) (by simp [execOp, go_sem, hρ.1.const, hρ.1.func, hd, HM2.out]) ⟨rfl, GrR.refl _⟩
              · exact opOk_call hρ.1 rfl rfl Try.func54 (by kernel_rfl) rfl (by simp [hd, hρ.1.const, hρ.1.func]) ((bnumber_any _ bc a 2 _ _ rfl rfl (by omega) _ ((HV.out.mono Gr.out).mono hR) (by omega)).mono fun e w' ⟨h1, h2⟩ => ⟨_, h1, (by rw [HXA.out]; rfl), h2⟩)
              · exact opOk_val (v := .int .u16 (xa : Int)) (w' := wv) (by simp [execOp, go_sem, hρ.1.const, hρ.1.func, hd, HWA.out]) ⟨rfl, GrR.refl _⟩
              · exact opOk_val (v := .pointer (some ⟨w.heap.size, 2, none⟩)) (w' := wv) (by simp [execOp, go_sem, hρ.1.const, hρ.1.func, hd, (hρ.2 1 rfl)]) ⟨rfl, GrR.refl _⟩
              · (have h0 := cell?_of_below hR KC2.out; exact opOk_val (v := .slice p bc.length c) (w' := wv) (by simp [execOp, go_sem, hd, h0]) ⟨rfl, GrR.refl _⟩)
              · exact opOk_move (.inl rfl) ⟨by simp only [Is]; (first | exact hρ.2 7 rfl | exact hd | exact hd.1 | exact hd.2 | simp [hd]), GrR.refl _⟩
              · exact opOk_val (v := .int .i64 (j4 : Int)) (w' := wv) (by simp [execOp, go_sem, hρ.1.const, hρ.1.func, hd, HM1.out]) ⟨rfl, GrR.refl _⟩
              · exact opOk_val (v := .int .i64 (a2 : Int)) (w' := wv) (by simp [execOp, go_sem, hρ.1.const, hρ.1.func, hd, HM3.out]) ⟨rfl, GrR.refl _⟩
              · exact opOk_call hρ.1 rfl rfl Try.func54 (by kernel_rfl) rfl (by simp [hd, hρ.1.const, hρ.1.func]) ((bnumber_any _ bc a2 2 _ _ rfl rfl (by omega) _ ((HV.out.mono Gr.out).mono hR) (by omega)).mono fun e w' ⟨h1, h2⟩ => ⟨_, h1, (by rw [HXB.out]; rfl), h2⟩)
              · exact opOk_val (v := .int .u16 (xb : Int)) (w' := wv) (by simp [execOp, go_sem, hρ.1.const, hρ.1.func, hd, HWB.out]) ⟨rfl, GrR.refl _⟩
              · exact opOk_val (v := .agg #[.int .u16 (xa : Int), .int .u16 (xb : Int)]) (w' := wv) (by simp [execOp, go_sem, hρ.1.const, hρ.1.func, hd]) ⟨rfl, GrR.refl _⟩
              · exact opOk_val (v := .slice (some ⟨wv.heap.size, 0, none⟩) 1 1) (w' := wv.alloc (.cells #[.int .u16 (xa : Int), .int .u16 (xb : Int)] 80 (0, 0))) (by simp [execOp, go_sem, hρ.1.const, hd]) ⟨⟨_, rfl, hR.size, RowV.new wv 80 [.int .u16 (xa : Int), .int .u16 (xb : Int)]⟩, (Below.refl _ _).alloc (Nat.le_refl _) _⟩
            · intro vals wv hR hall
              have i1 := hall 1 (by omega)
              have i17 := hall 17 (by omega)
              simp only [factAt, Is, NewSF, List.getD_eq_getElem?_getD, List.getElem?_cons_succ, List.getElem?_cons_zero, Option.getD_some] at i1 i17
              clear hall
              obtain ⟨hn, hhn, hgen, hrown⟩ := i17
              simp only [List.take_succ_cons, List.take_zero, List.drop_succ_cons, List.drop_zero, fillFrom, Act.put, i1, hhn, List.setIfInBounds_toArray, List.set_cons_zero, List.set_cons_succ, Nat.zero_add, Nat.reduceAdd]
              have HNR := hid (hrown.rdK (n := 1) (K := 2) rfl (by unfold maxLen; omega))
              have HF5 := hid (HF.out.mono hR)
              have HO5 := hid (HO.out.mono hR)
              have HG5 := hid (HG.out.trans (Chg.of_gr hR))
              have hszv := hR.size
              obtain ⟨w5, hw5⟩ : ∃ x, x = wv := ⟨_, rfl⟩
              subst hw5
              clear hR i1 hhn hrown
              go_wp2_with (at_builtin; refine wpList_append_OwnK rfl (.tmp 48) (.tmp 64) 42 rfl (h + 1) 80 (.agg #[.int .u16 0, .int .u16 0]) 2 4 rfl (by omega) Try.underlying42 infoGap _ _ j 1 (pairsV (pairsAt bc 12 j)) [.int .u16 (xa : Int), .int .u16 (xb : Int)] (by intro u hu; simp at hu; rcases hu with rfl | rfl <;> rfl) rfl (by have := HO5.out; unfold OwnP at this; rwa [HLP.out] at this) rfl HNR.out (by omega) (by omega) (by omega) ?_)
              intro v6 w6 ho6 hg6
              have HO6 := hid (show OwnP w6 (h + 1) 80 v6 (pairsAt bc 12 (j + 1)) by
                unfold OwnP
                rw [HSU.out, pairsV_append, List.length_append, HLP.out]
                exact ho6)
              have HF6 := hid (HF5.out.grown hg6 (fun e => by have := HO5.out.ge _ e; omega))
              have HG6 := hid (HG5.out.trans ((Chg.of_grown hg6).weak (fun i _ e => by have := HO5.out.ge _ e; omega)))
              obtain ⟨p6, c6, rfl, hc6⟩ := HO6.out.form
              obtain ⟨n6, hn6⟩ : ∃ n, n = (pairsAt bc 12 (j + 1)).length := ⟨_, rfl⟩
              rw [← hn6] at HO6 ⊢
              clear ho6 hg6 hn6
              have t1 := HF6.out.at 2 (by simp)
              have u1 := HF6.out.frozen 2
              simp only [List.getElem_cons_succ, List.getElem_cons_zero] at t1
              go_wp2_with fail
              go_roundw
              case rel =>
                refine ⟨j + 1, .slice p6 n6 c6, by omega, by go_num, hid (HF6.out.store 2 _), hid ?_, hid (HG6.out.set _ _ (.inl (Nat.le_refl _)))⟩
                exact HO6.out.keep (r := some h) (gb_set (gb_refl _ _) 2 _) (fun k hk e => by have := HO6.out.ge k hk; simp at e; omega)
              case measure => simp [intOf]; omega
          · obtain rfl : j = ng := by omega
            obtain ⟨w6, hw6⟩ : ∃ x, x = wr := ⟨_, rfl⟩
            subst hw6
            have HPB := hid (fun k (hk : (Value.slice pz j cz).ownBlock = some k) => OwnP.lt HO.out k hk)
            have HC6 := HCr
            have HT6 := HTr
            have G6 := Gr
            have HF6 := HF
            have HO6 := HO
            have hh6 : h < w6.heap.size := HF.out.lt
            clear HCr HTr Gr HF HO HG hlt
            go_wp2_with fail
            go_loopw [8] (fun y wr => ∃ (i : Nat) (z : Value), i ≤ nd ∧ y = .int .i64 (i : Int) ∧ Hid (RowV wr h 45 [.int .u32 (x0 : Int), .int .u32 (x1 : Int), .slice pz j cz, z]) ∧ Hid (NumsO wr w6.heap.size 22 z (numsAt bc ag i)) ∧ Hid (OwnP wr (h + 1) 80 (.slice pz j cz) (pairsAt bc 12 j)) ∧ Hid (Chg (fun k => h = k ∨ w6.heap.size ≤ k) w6 wr)) (fun y _ => nd - (intOf y).toNat)
            case atStart => exact ⟨0, .slice none 0 0, by omega, rfl, HF6, hid (OwnV.nil _ _ _), HO6, hid (Chg.refl _ _)⟩
            case round =>
              obtain ⟨i, z, hi, rfl, HF, HO, HP, HG⟩ := hrel
              obtain ⟨pd, cd, rfl, hcd⟩ := HO.out.form
              have HCr := hid (HC6.out.chg HG.out (by omega))
              have HTr := hid (HT6.out.chg HG.out (by omega))
              have Gr := hid (show Below w.heap.size w wr from G6.out.trans (HG.out.below (B := w.heap.size) (by omega) (fun k hk => by omega)))
              have hszr := HG.out.size
              have HLD := hid (numsAt_length bc ag i)
              rw [HLD.out] at HF HO
              by_cases hlt : i < nd
              · obtain ⟨i4, hi4⟩ : ∃ n, n = 4 * i := ⟨_, rfl⟩
                obtain ⟨a, ha⟩ : ∃ n, n = ag + i4 := ⟨_, rfl⟩
                have hagb : ag ≤ 1000000 := by have := HEG.out.1; omega
                have HM1 := hid (show IntKind.i64.wrap ((4 : Int) * (i : Int)) = (i4 : Int) by rw [IntKind.wrap_i64]; omega)
                have HM2 := hid (show IntKind.i64.wrap ((ag : Int) + (i4 : Int)) = (a : Int) by rw [IntKind.wrap_i64]; omega)
                have K3 := hid (HF.out.at 3 (by simp))
                have KC2 := hid (HCr.out.at 2 (by simp))
                simp only [List.getElem_cons_succ, List.getElem_cons_zero] at K3 KC2
                have hna := numAt_lt bc a 4
                have HSU := hid (show numsAt bc ag (i + 1) = numsAt bc ag i ++ [numAt bc a 4] by rw [ha, hi4]; exact numsAt_succ bc ag i)
                obtain ⟨xa, hxa⟩ : ∃ x, x = numAt bc a 4 := ⟨_, rfl⟩
                rw [← hxa] at hna
                rw [← hxa] at HSU
                have HXA := hid hxa
                have HWA := hid (show IntKind.u32.wrap (xa : Int) = (xa : Int) by rw [wrap_u32_lt]; omega)
                obtain ⟨w8, hw8⟩ : ∃ x, x = wr := ⟨_, rfl⟩
                subst hw8
                have hlf := HF.out.lt
                clear hxa hi4 ha
                go_wp2_with fail
                refine wp_region_tail 13 [Is (.pointer (some ⟨h, 3, none⟩)), Is (.slice pd i cd), Is (.pointer (some ⟨w.heap.size, 2, none⟩)), Is (.slice p bc.length c), Is (.int .i64 (j : Int)), Is (.int .i64 (g4 : Int)), Is (.int .i64 (ag : Int)), Is (.int .i64 (i : Int)), Is (.int .i64 (i4 : Int)), Is (.int .i64 (a : Int)), Is (.int .u64 (xa : Int)), Is (.int .u32 (xa : Int)), NewSF w8.heap.size 22 1 [.int .u32 (xa : Int)]] (by kernel_rfl) (by kernel_rfl) (by kernel_rfl) (by kernel_rfl) (by kernel_rfl) (by kernel_rfl) ?_ ?_ ?_
                · simp only [StabAll, Is.gr, RdF.gr, OwnF.gr, AnyF.gr, NewSF.gr, and_self]
                · rename_i Kk hKk; clear hKk Kk
                  simp only [List.take_succ_cons, List.take_zero, AllOps, List.map_cons, List.map_nil, depsOf, List.filterMap_cons, List.filterMap_nil, Region.binds, depFacts, guardF, reduceIte, List.getD_eq_getElem?_getD, List.getElem?_cons_succ, List.getElem?_cons_zero, Option.getD_some, factAt, and_true]
                  refine ⟨?_, ?_, ?_, ?_, ?_, ?_, ?_, ?_, ?_, ?_, ?_, ?_, ?_⟩
                  all_goals intro ρ wv hρ hR hd
                  all_goals try simp only [Is] at hd
                  · exact opOk_val (v := .pointer (some ⟨h, 3, none⟩)) (w' := wv) (by simp [execOp, go_sem, hρ.1.const, hρ.1.func, hd, (hρ.2 4 rfl)]) ⟨rfl, GrR.refl _⟩
                  · (have h0 := cell?_of_below hR K3.out; exact opOk_val (v := .slice pd i cd) (w' := wv) (by simp [execOp, go_sem, hd, h0]) ⟨rfl, GrR.refl _⟩)
                  · exact opOk_val (v := .pointer (some ⟨w.heap.size, 2, none⟩)) (w' := wv) (by simp [execOp, go_sem, hρ.1.const, hρ.1.func, hd, (hρ.2 1 rfl)]) ⟨rfl, GrR.refl _⟩
                  · (have h0 := cell?_of_below hR KC2.out; exact opOk_val (v := .slice p bc.length c) (w' := wv) (by simp [execOp, go_sem, hd, h0]) ⟨rfl, GrR.refl _⟩)
                  · exact opOk_move (.inl rfl) ⟨by simp only [Is]; (first | exact hρ.2 5 rfl | exact hd | exact hd.1 | exact hd.2 | simp [hd]), GrR.refl _⟩
                  · exact opOk_val (v := .int .i64 (g4 : Int)) (w' := wv) (by simp [execOp, go_sem, hρ.1.const, hρ.1.func, hd, HG4.out]) ⟨rfl, GrR.refl _⟩
                  · exact opOk_val (v := .int .i64 (ag : Int)) (w' := wv) (by simp [execOp, go_sem, hρ.1.const, hρ.1.func, hd, HAG.out]) ⟨rfl, GrR.refl _⟩
                  · exact opOk_move (.inl rfl) ⟨by simp only [Is]; (first | exact hρ.2 8 rfl | exact hd | exact hd.1 | exact hd.2 | simp [hd]), GrR.refl _⟩
                  · exact opOk_val (v := .int .i64 (i4 : Int)) (w' := wv) (by simp [execOp, go_sem, hρ.1.const, hρ.1.func, hd, HM1.out]) ⟨rfl, GrR.refl _⟩
                  · exact opOk_val (v := .int .i64 (a : Int)) (w' := wv) (by simp [execOp, go_sem, hρ.1.const, hρ.1.func, hd, HM2.out]) ⟨rfl, GrR.refl _⟩
                  · exact opOk_call hρ.1 rfl rfl Try.func54 (by kernel_rfl) rfl (by simp [hd, hρ.1.const, hρ.1.func]) ((bnumber_any _ bc a 4 _ _ rfl rfl (by omega) _ ((HV.out.mono Gr.out).mono hR) (by omega)).mono fun e w' ⟨h1, h2⟩ => ⟨_, h1, (by rw [HXA.out]; rfl), h2⟩)
                  · exact opOk_val (v := .int .u32 (xa : Int)) (w' := wv) (by simp [execOp, go_sem, hρ.1.const, hρ.1.func, hd, HWA.out]) ⟨rfl, GrR.refl _⟩
                  · exact opOk_val (v := .slice (some ⟨wv.heap.size, 0, none⟩) 1 1) (w' := wv.alloc (.cells #[.int .u32 (xa : Int)] 22 (0, 0))) (by simp [execOp, go_sem, hρ.1.const, hd]) ⟨⟨_, rfl, hR.size, RowV.new wv 22 [.int .u32 (xa : Int)]⟩, (Below.refl _ _).alloc (Nat.le_refl _) _⟩
                · intro vals wv hR hall
                  have i1 := hall 1 (by omega)
                  have i12 := hall 12 (by omega)
                  simp only [factAt, Is, NewSF, List.getD_eq_getElem?_getD, List.getElem?_cons_succ, List.getElem?_cons_zero, Option.getD_some] at i1 i12
                  clear hall
                  obtain ⟨hn, hhn, hgen, hrown⟩ := i12
                  simp only [List.take_succ_cons, List.take_zero, List.drop_succ_cons, List.drop_zero, fillFrom, Act.put, i1, hhn, List.setIfInBounds_toArray, List.set_cons_zero, List.set_cons_succ, Nat.zero_add, Nat.reduceAdd]
                  have HNR := hid (hrown.rdV (n := 1) rfl (by unfold maxLen; omega))
                  have HF8 := hid (HF.out.mono hR)
                  have HO8 := hid (show NumsO wv w6.heap.size 22 (.slice pd i cd) (numsAt bc ag i) from OwnV.mono HO.out hR)
                  have HP8 := hid (HP.out.mono hR)
                  have HG8 := hid (HG.out.trans (Chg.of_gr hR))
                  have hszv := hR.size
                  obtain ⟨w5, hw5⟩ : ∃ x, x = wv := ⟨_, rfl⟩
                  subst hw5
                  clear hR i1 hhn hrown
                  go_wp2_with (at_builtin; refine wpList_append_OwnV rfl (.tmp 73) (.tmp 84) 43 rfl w6.heap.size 22 (.int .u32 0) 4 rfl Try.underlying43 infoU32g _ _ ((numsAt bc ag i).map fun x : Nat => Value.int .u32 (x : Int)) [.int .u32 (xa : Int)] (by intro u hu; simp at hu; subst hu; rfl) (by simp) rfl HO8.out rfl HNR.out (by simp [HLD.out]; omega) (by simp [HLD.out]; omega) (by omega) ?_)
                  intro v9 w9 ho9 hg9
                  have HO9 := hid (show NumsO w9 w6.heap.size 22 v9 (numsAt bc ag (i + 1)) by
                    unfold NumsO
                    rw [HSU.out, List.map_append]
                    exact ho9)
                  have HF9 := hid (HF8.out.grown hg9 (fun e => by have := OwnV.ge HO8.out _ e; omega))
                  have HP9 := hid (HP8.out.keep hg9 (fun k hk e => by have h1 := OwnV.ge HO8.out _ e; have h2 := HPB.out k hk; omega))
                  have HG9 := hid (HG8.out.trans ((Chg.of_grown hg9).weak (fun i _ e => .inr (by have := OwnV.ge HO8.out _ e; omega))))
                  obtain ⟨p9, c9, rfl, hc9⟩ := HO9.out.form
                  obtain ⟨n9, hn9⟩ : ∃ n, n = (numsAt bc ag (i + 1)).length := ⟨_, rfl⟩
                  rw [← hn9] at HO9 ⊢
                  clear ho9 hg9 hn9
                  have s3 := HF9.out.at 3 (by simp)
                  have u3 := HF9.out.frozen 3
                  simp only [List.getElem_cons_succ, List.getElem_cons_zero] at s3
                  go_wp2_with fail
                  go_roundw
                  case rel =>
                    refine ⟨i + 1, .slice p9 n9 c9, by omega, by go_num, hid (HF9.out.store 3 _), hid ?_, hid ?_, hid (HG9.out.set _ _ (.inl (.inl rfl)))⟩
                    · exact OwnV.grown HO9.out (r := some h) (gb_set (gb_refl _ _) 3 _) (fun k e => by simp at e; omega)
                    · exact HP9.out.keep (r := some h) (gb_set (gb_refl _ _) 3 _) (fun k hk e => by have := HP9.out.ge k hk; simp at e; omega)
                  case measure => simp [intOf]; omega
              · obtain rfl : i = nd := by omega
                obtain ⟨wo, hwo⟩ : ∃ x, x = wr := ⟨_, rfl⟩
                subst hwo
                have K2 := hid (HF.out.at 2 (by simp))
                simp only [List.getElem_cons_succ, List.getElem_cons_zero] at K2
                obtain ⟨q, hq⟩ : ∃ q, q = chkEq (SackD.chk ⟨x0, x1, pairsAt bc 12 j, numsAt bc ag i⟩) ⟨kc, fc, bc⟩ := ⟨_, rfl⟩
                have HQ := hid hq
                obtain ⟨ap, hap⟩ : ∃ b, b = (apartS (pairsAt bc 12 j)).1 := ⟨_, rfl⟩
                have HAP := hid hap
                have HRF := hid (show res = if ap = true ∧ q = true then (⟨x0, x1, pairsAt bc 12 j, numsAt bc ag i⟩, 0) else (.zero, 7) by
                  rw [HRES.out]
                  unfold sackGet
                  rw [HSO.out, hap, hq, chkEq_dec]
                  by_cases e : SackD.chk ⟨x0, x1, pairsAt bc 12 j, numsAt bc ag i⟩ = ⟨kc, fc, bc⟩ <;> simp [e])
                clear hq hap hlt
                go_wp2_with fail
                cases ap
                · skip
                  refine wp_region_gr [Is (.pointer (some ⟨h, 2, none⟩)), Is (.slice pz j cz), Is (.bool false), Is (.bool true), Is (.bool true), AnyF, AnyF, AnyF, AnyF, AnyF, Is (.bool true)] (by kernel_rfl) (by kernel_rfl) (by kernel_rfl) ?_ ?_ ?_
                  · simp only [StabAll, Is.gr, RdF.gr, OwnF.gr, AnyF.gr, and_self]
                  · rename_i Kk hKk; clear hKk Kk
                    simp only [AllOps, List.map_cons, List.map_nil, depsOf, List.filterMap_cons, List.filterMap_nil, Region.binds, depFacts, guardF, reduceIte, List.getD_eq_getElem?_getD, List.getElem?_cons_succ, List.getElem?_cons_zero, Option.getD_some, factAt, and_true]
                    refine ⟨?_, ?_, ?_, ?_, ?_, ?_, ?_, ?_, ?_, ?_, ?_⟩
                    all_goals intro ρ wv hρ hR hd
                    all_goals try simp only [Is] at hd
                    · exact opOk_val (v := .pointer (some ⟨h, 2, none⟩)) (w' := wv) (by simp [execOp, go_sem, hρ.1.const, hρ.1.func, hd, (hρ.2 4 rfl)]) ⟨rfl, GrR.refl _⟩
                    · (have h0 := cell?_of_below hR K2.out; exact opOk_val (v := .slice pz j cz) (w' := wv) (by simp [execOp, go_sem, hd, h0]) ⟨rfl, GrR.refl _⟩)
                    · exact opOk_call hρ.1 rfl rfl Try.func60 (by kernel_rfl) rfl (by simp [hd, hρ.1.const, hρ.1.func]) ((rApart_any _ (pairsAt bc 12 j) _ ((OwnP.rd HP.out).mono hR) (by rw [HLP.out]; omega) (pairsAt_wf _ _ _)).mono fun e w' ⟨h1, h2⟩ => ⟨_, h1, (by rw [← HAP.out]; rfl), h2⟩)
                    · exact opOk_val (v := .bool true) (w' := wv) (by simp [execOp, go_sem, hρ.1.const, hρ.1.func, hd]) ⟨rfl, GrR.refl _⟩
                    · exact opOk_move (.inl rfl) ⟨by simp only [Is]; (first | exact hρ.2 90 rfl | exact hd | exact hd.1 | exact hd.2 | simp [hd]), GrR.refl _⟩
                    · exact ⟨fun hg => absurd hg (by simp [hd]), fun _ => trivial⟩
                    · exact ⟨fun hg => absurd hg (by simp [hd]), fun _ => trivial⟩
                    · exact ⟨fun hg => absurd hg (by simp [hd]), fun _ => trivial⟩
                    · exact ⟨fun hg => absurd hg (by simp [hd]), fun _ => trivial⟩
                    · exact ⟨fun hg => absurd hg (by simp [hd]), fun _ => trivial⟩
                    · exact opOk_val (v := .bool true) (w' := wv) (by simp [execOp, go_sem, hρ.1.const, hρ.1.func, hd]) ⟨rfl, GrR.refl _⟩
                  · intro vals wv hR hall
                    have hend := hall 10 (by simp)
                    simp only [factAt, Is, List.getD_eq_getElem?_getD, List.getElem?_cons_succ, List.getElem?_cons_zero, Option.getD_some] at hend
                    clear hall
                    simp only [fillFrom, Act.put, hend, List.setIfInBounds_toArray, List.set_cons_zero, List.set_cons_succ]
                    obtain ⟨w9, hw9⟩ : ∃ x, x = wv := ⟨_, rfl⟩
                    subst hw9
                    have HT9 := hid (HTr.out.mono hR)
                    have HF9 := hid (HF.out.mono hR)
                    have HO9 := hid (OwnV.mono HO.out hR)
                    have HP9 := hid (HP.out.mono hR)
                    have G9 := hid (gr_trans Gr.out hR)
                    clear hR hend
                    obtain ⟨j0, j1, j2, j3, -⟩ := rowSack HT9.out
                    have y0 := HT9.out.frozen 0
                    have y1 := HT9.out.frozen 1
                    have y2 := HT9.out.frozen 2
                    have y3 := HT9.out.frozen 3
                    have HRS := hid (show res = (.zero, 7) by rw [HRF.out]; rfl)
                    go_wp2_with fail
                    refine rgetSack_ret (.int .u32 0) (.int .u32 0) (.slice none 0 0) (.slice none 0 0) 7 rfl rfl rfl ((((HT9.out.store 0 (.int .u32 0)).store 1 (.int .u32 0)).store 2 (.slice none 0 0)).store 3 (.slice none 0 0)) ⟨.agg #[.int .u32 0, .int .u32 0, .slice none 0 0, .slice none 0 0], by rw [HRS.out], ?_, ((((G9.out.setCell (by simp; try omega) _).setCell (by simp; try omega) _).setCell (by simp; try omega) _).setCell (by simp; try omega) _)⟩
                    rw [HRS.out]
                    exact ⟨_, _, rfl, RdP.nil _, sackNilDups _⟩
                · skip
                  refine wp_region_gr [Is (.pointer (some ⟨h, 2, none⟩)), Is (.slice pz j cz), Is (.bool true), Is (.bool false), Is (.bool false), Is (.agg ([.int .u32 (x0 : Int), .int .u32 (x1 : Int), .slice pz j cz, .slice pd i cd]).toArray), ChkF (SackD.chk ⟨x0, x1, pairsAt bc 12 j, numsAt bc ag i⟩), Is (.agg ([.int .u8 (kc.toNat : Int), .int .u8 (fc.toNat : Int), .slice p bc.length c]).toArray), Is (.bool q), Is (.bool (!q)), Is (.bool (!q))] (by kernel_rfl) (by kernel_rfl) (by kernel_rfl) ?_ ?_ ?_
                  · simp only [StabAll, Is.gr, RdF.gr, OwnF.gr, AnyF.gr, ChkF.gr, and_self]
                  · rename_i Kk hKk; clear hKk Kk
                    simp only [AllOps, List.map_cons, List.map_nil, depsOf, List.filterMap_cons, List.filterMap_nil, Region.binds, depFacts, guardF, reduceIte, List.getD_eq_getElem?_getD, List.getElem?_cons_succ, List.getElem?_cons_zero, Option.getD_some, factAt, and_true]
                    refine ⟨?_, ?_, ?_, ?_, ?_, ?_, ?_, ?_, ?_, ?_, ?_⟩
                    all_goals intro ρ wv hρ hR hd
                    all_goals try simp only [Is] at hd
                    · exact opOk_val (v := .pointer (some ⟨h, 2, none⟩)) (w' := wv) (by simp [execOp, go_sem, hρ.1.const, hρ.1.func, hd, (hρ.2 4 rfl)]) ⟨rfl, GrR.refl _⟩
                    · (have h0 := cell?_of_below hR K2.out; exact opOk_val (v := .slice pz j cz) (w' := wv) (by simp [execOp, go_sem, hd, h0]) ⟨rfl, GrR.refl _⟩)
                    · exact opOk_call hρ.1 rfl rfl Try.func60 (by kernel_rfl) rfl (by simp [hd, hρ.1.const, hρ.1.func]) ((rApart_any _ (pairsAt bc 12 j) _ ((OwnP.rd HP.out).mono hR) (by rw [HLP.out]; omega) (pairsAt_wf _ _ _)).mono fun e w' ⟨h1, h2⟩ => ⟨_, h1, (by rw [← HAP.out]; rfl), h2⟩)
                    · exact opOk_val (v := .bool false) (w' := wv) (by simp [execOp, go_sem, hρ.1.const, hρ.1.func, hd]) ⟨rfl, GrR.refl _⟩
                    · exact opOk_move (.inl rfl) ⟨by simp only [Is]; (first | exact hρ.2 90 rfl | exact hd | exact hd.1 | exact hd.2 | simp [hd]), GrR.refl _⟩
                    · refine ⟨fun _ => ?_, fun hg => absurd (by simp [hd]) hg⟩; exact opOk_loadRow rfl (h) (by first | exact hρ.2 _ rfl | simp [hd]) _ ([.int .u32 (x0 : Int), .int .u32 (x1 : Int), .slice pz j cz, .slice pd i cd]) _ (HF.out.mono hR) Try.underlying45 rfl (by kernel_rfl) ⟨rfl, GrR.refl _⟩
                    · refine ⟨fun _ => ?_, fun hg => absurd (by simp [hd]) hg⟩; exact opOk_call hρ.1 rfl rfl Try.func27 (by kernel_rfl) rfl (by simp [hd, hρ.1.const, hρ.1.func]) ((rputSack_any _ ⟨x0, x1, pairsAt bc 12 j, numsAt bc ag i⟩ ⟨by omega, by omega, pairsAt_wf _ _ _, numsAt_wf _ _ _⟩ _ ⟨_, _, rfl, (OwnP.rd HP.out).mono hR, (OwnV.rd HO.out).mono hR⟩ (by show (pairsAt bc 12 j).length ≤ _; rw [HLP.out]; omega) (by show (numsAt bc ag i).length ≤ _; rw [numsAt_length]; omega)).mono fun e w' ⟨s, h1, h2, h3⟩ => ⟨_, h1, ⟨s, rfl, h2.rd⟩, h3⟩)
                    · refine ⟨fun _ => ?_, fun hg => absurd (by simp [hd]) hg⟩; exact opOk_loadRow rfl (w.heap.size) (by first | exact hρ.2 _ rfl | simp [hd]) _ ([.int .u8 (kc.toNat : Int), .int .u8 (fc.toNat : Int), .slice p bc.length c]) _ (HCr.out.mono hR) Try.underlying28 rfl (by kernel_rfl) ⟨rfl, GrR.refl _⟩
                    · refine ⟨fun _ => ?_, fun hg => absurd (by simp [hd]) hg⟩; exact opOk_call hρ.1 rfl rfl Try.func18 (by kernel_rfl) rfl (by simp [hd, hρ.1.const, hρ.1.func]) ((chkSame_any (ρ (.tmp 93)) _ (SackD.chk ⟨x0, x1, pairsAt bc 12 j, numsAt bc ag i⟩) ⟨kc, fc, bc⟩ _ hd.1 ⟨_, rfl, (HV.out.mono Gr.out).mono hR⟩).mono fun e w' ⟨h1, h2⟩ => ⟨_, h1, (by rw [HQ.out]; rfl), h2⟩)
                    · refine ⟨fun _ => ?_, fun hg => absurd (by simp [hd]) hg⟩; exact opOk_val (v := .bool (!q)) (w' := wv) (by simp [execOp, go_sem, hρ.1.const, hρ.1.func, hd]) ⟨rfl, GrR.refl _⟩
                    · exact opOk_val (v := .bool (!q)) (w' := wv) (by simp [execOp, go_sem, hρ.1.const, hρ.1.func, hd]) ⟨rfl, GrR.refl _⟩
                  · intro vals wv hR hall
                    have hend := hall 10 (by simp)
                    simp only [factAt, Is, List.getD_eq_getElem?_getD, List.getElem?_cons_succ, List.getElem?_cons_zero, Option.getD_some] at hend
                    clear hall
                    simp only [fillFrom, Act.put, hend, List.setIfInBounds_toArray, List.set_cons_zero, List.set_cons_succ]
                    obtain ⟨w9, hw9⟩ : ∃ x, x = wv := ⟨_, rfl⟩
                    subst hw9
                    have HT9 := hid (HTr.out.mono hR)
                    have HF9 := hid (HF.out.mono hR)
                    have HO9 := hid (OwnV.mono HO.out hR)
                    have HP9 := hid (HP.out.mono hR)
                    have G9 := hid (gr_trans Gr.out hR)
                    clear hR hend
                    obtain ⟨j0, j1, j2, j3, -⟩ := rowSack HT9.out
                    have y0 := HT9.out.frozen 0
                    have y1 := HT9.out.frozen 1
                    have y2 := HT9.out.frozen 2
                    have y3 := HT9.out.frozen 3
                    cases q
                    · have HRS := hid (show res = (.zero, 7) by rw [HRF.out]; rfl)
                      simp only [Bool.not_false]
                      go_wp2_with fail
                      refine rgetSack_ret (.int .u32 0) (.int .u32 0) (.slice none 0 0) (.slice none 0 0) 7 rfl rfl rfl ((((HT9.out.store 0 (.int .u32 0)).store 1 (.int .u32 0)).store 2 (.slice none 0 0)).store 3 (.slice none 0 0)) ⟨.agg #[.int .u32 0, .int .u32 0, .slice none 0 0, .slice none 0 0], by rw [HRS.out], ?_, ((((G9.out.setCell (by simp; try omega) _).setCell (by simp; try omega) _).setCell (by simp; try omega) _).setCell (by simp; try omega) _)⟩
                      rw [HRS.out]
                      exact ⟨_, _, rfl, RdP.nil _, sackNilDups _⟩
                    · have HRS := hid (show res = (⟨x0, x1, pairsAt bc 12 j, numsAt bc ag i⟩, 0) by rw [HRF.out]; rfl)
                      simp only [Bool.not_true]
                      obtain ⟨i0, i1, i2, i3, -⟩ := rowSack HF9.out
                      have hne : h ≠ w.heap.size + 1 := by omega
                      go_wp2_with fail
                      refine rgetSack_ret (.int .u32 (x0 : Int)) (.int .u32 (x1 : Int)) (.slice pz j cz) (.slice pd i cd) 0 rfl rfl rfl ((((HT9.out.store 0 (.int .u32 (x0 : Int))).store 1 (.int .u32 (x1 : Int))).store 2 (.slice pz j cz)).store 3 (.slice pd i cd)) ⟨.agg #[.int .u32 (x0 : Int), .int .u32 (x1 : Int), .slice pz j cz, .slice pd i cd], by rw [HRS.out], ?_, ((((G9.out.setCell (by simp; try omega) _).setCell (by simp; try omega) _).setCell (by simp; try omega) _).setCell (by simp; try omega) _)⟩
                      rw [HRS.out]
                      exact ⟨_, _, rfl, OwnP.rd (HP9.out.keep (r := some (w.heap.size + 1)) (gb_set (gb_set (gb_set (gb_set (gb_refl _ _) 0 _) 1 _) 2 _) 3 _) (fun k hk e => by have := HP9.out.ge k hk; simp at e; omega)), OwnV.rd (OwnV.grown HO9.out (r := some (w.heap.size + 1)) (gb_set (gb_set (gb_set (gb_set (gb_refl _ _) 0 _) 1 _) 2 _) 3 _) (fun k e => by simp at e; omega))⟩
      · have hne : ((bc.length : Int) != (al : Int)) = true := by simp; omega
        have HRS := hid (show res = (.zero, 7) by rw [HRES.out]; exact sackGet_other _ (.inr (by show bc.length ≠ 12 + 4 * numAt bc 8 2 + 4 * numAt bc 10 2; rw [← HXG.out, ← HXD.out, ← HEG.out.2]; exact hlen)))
        clear hlen
        obtain ⟨j0, j1, j2, j3, -⟩ := rowSack HT4.out
        have y0 := HT4.out.frozen 0
        have y1 := HT4.out.frozen 1
        have y2 := HT4.out.frozen 2
        have y3 := HT4.out.frozen 3
        go_wp2_with fail
        refine rgetSack_ret (.int .u32 0) (.int .u32 0) (.slice none 0 0) (.slice none 0 0) 7 rfl rfl rfl ((((HT4.out.store 0 (.int .u32 0)).store 1 (.int .u32 0)).store 2 (.slice none 0 0)).store 3 (.slice none 0 0)) ⟨.agg #[.int .u32 0, .int .u32 0, .slice none 0 0, .slice none 0 0], by rw [HRS.out], ?_, ((((G4.out.setCell (by simp; try omega) _).setCell (by simp; try omega) _).setCell (by simp; try omega) _).setCell (by simp; try omega) _)⟩
        rw [HRS.out]
        exact ⟨_, _, rfl, RdP.nil _, sackNilDups _⟩
end Go.Proofs.Ytfiblhdejglpaaa

/- The document's GetForward. Conditions: what comes in reads as it should. -/
import Derived.Test.YtfiblhdejglpaaaBodRefGets
import Derived.Test.YtfiblhdejglpaaaBodRefPutL
import Derived.Test.YtfiblhdejglpaaaBodGetF
import Derived.Test.YtfiblhdejglpaaaBodRoom
namespace Go.FL
open Go.RowKit
theorem NewSF.gr (B e n : Nat) (l : List Value) : Stab GrR (NewSF B e n l) := fun _ _ _ ⟨h, h1, h2, h3⟩ k => ⟨h, h1, h2, h3.mono k⟩
theorem fwdGet_short (c : Chk) (h : c.b.length < 4) : fwdGet c = (.zero, 7) := by
  unfold fwdGet
  rw [if_neg]
  intro hc
  have h1 : ((fwdOf c).chk).b.length = c.b.length := by rw [hc]
  have h2 : ((fwdOf c).chk).b.length = 4 + 4 * _ := FwdD.body_length _
  omega
theorem fwdGet_floor (c : Chk) (N : Nat) (h : 4 ≤ c.b.length) (hN : N = (c.b.length - 4) / 4) : fwdGet c = if FwdD.chk ⟨numAt c.b 0 4, pairsAt c.b 4 N⟩ = c then (⟨numAt c.b 0 4, pairsAt c.b 4 N⟩, 0) else (.zero, 7) := by
  by_cases e : (c.b.length - 4) % 4 = 0
  · have hf : fwdN c.b.length = N := by unfold fwdN; omega
    unfold fwdGet fwdOf
    rw [hf]
  · unfold fwdGet
    rw [if_neg, if_neg]
    · intro hc
      have h1 : (FwdD.chk ⟨numAt c.b 0 4, pairsAt c.b 4 N⟩).b.length = c.b.length := by rw [hc]
      have h2 : (FwdD.chk ⟨numAt c.b 0 4, pairsAt c.b 4 N⟩).b.length = 4 + 4 * _ := FwdD.body_length _
      omega
    · intro hc
      have h1 : ((fwdOf c).chk).b.length = c.b.length := by rw [hc]
      have h2 : ((fwdOf c).chk).b.length = 4 + 4 * _ := FwdD.body_length _
      omega
end Go.FL
namespace Go.Proofs.Ytfiblhdejglpaaa
open Go.RowKit Go.FL Go.ChangeShapes

theorem rgetFwd_ret {a : Act} {W : World} {g : Nat} {R : Ending → World → Prop} (v0 v1 : Value) (er : Int) (h2 : a.tmps.getD 2 undef = .pointer (some ⟨g, 0, none⟩)) (h3 : a.tmps.getD 3 undef = .int .i64 er) (hd : a.defers = [])
    (hc : RowV W g 49 [v0, v1]) (hR : R (.returned (.tuple #[.agg #[v0, v1], .int .i64 er])) W) : bodyPost Try.prog Try.f31 R .ret a W := by
  refine bodyPost_ret (v := .tuple #[.agg #[v0, v1], .int .i64 er]) ?_ hd hR
  obtain ⟨c0, c1, -⟩ := rowFwd hc
  simp only [Array.getD_eq_getD_getElem?] at h2 h3
  simp [results, Try.results31, go_sem, h2, h3, asAddr, c0, c1]

set_option maxRecDepth 100000 in
set_option maxHeartbeats 4000000 in
theorem rgetFwd_any (v : Value) (ch : Chk) (w : World) (h : ChkV w v ch) (hl : ch.b.length ≤ 1000000) :
    Calls Try.prog 31 #[v] w fun e w' => ∃ s, e = .returned (.tuple #[.agg #[.int .u32 ((fwdGet ch).1.cum : Int), s], .int .i64 (fwdGet ch).2]) ∧ RdP w' s (fwdGet ch).1.skips ∧ Below w.heap.size w w' := by
  obtain ⟨s, rfl, hrd⟩ := h
  have HV := hid hrd
  obtain ⟨p, c, rfl, hlc, hcm, hpn, hcell⟩ := hrd
  unfold maxLen at hcm
  clear hcell hpn
  obtain ⟨kc, fc, bc⟩ := ch
  simp only at *
  have hn0 := numAt_lt bc 0 4
  obtain ⟨x0, hx0⟩ : ∃ x, x = numAt bc 0 4 := ⟨_, rfl⟩
  rw [← hx0] at hn0
  have HX0 := hid hx0
  obtain ⟨res, hres⟩ : ∃ r, r = fwdGet ⟨kc, fc, bc⟩ := ⟨_, rfl⟩
  rw [← hres]
  have HRES := hid hres
  clear hx0 hres
  have hw0 : IntKind.u32.wrap (x0 : Int) = (x0 : Int) := by rw [wrap_u32_lt]; omega
  obtain ⟨W0, hW0⟩ : ∃ W0, W0 = w.alloc (.cells #[.int .u8 (kc.toNat : Int), .int .u8 (fc.toNat : Int), .slice p bc.length c] 28 (0, 0)) := ⟨_, rfl⟩
  have hs0 : W0.heap.size = w.heap.size + 1 := by rw [hW0]; simp
  obtain ⟨W, hW⟩ : ∃ W, W = W0.alloc (.cells #[.int .u32 0, .slice none 0 0] 49 (0, 0)) := ⟨_, rfl⟩
  have HC := hid (show RowV W w.heap.size 28 [.int .u8 (kc.toNat : Int), .int .u8 (fc.toNat : Int), .slice p bc.length c] by rw [hW, hW0]; exact (RowV.new w 28 _).alloc _)
  have HT := hid (show RowV W (w.heap.size + 1) 49 [.int .u32 0, .slice none 0 0] by rw [hW, ← hs0]; exact RowV.new W0 49 _)
  have G0 := hid (show Below w.heap.size w W by rw [hW, hW0]; exact ((Below.refl _ _).alloc (Nat.le_refl _) _).alloc (by simp) _)
  have hs1 : W.heap.size = w.heap.size + 2 := by rw [hW]; simp [hs0]
  rw [hW0] at hW
  have HE := hid hW
  clear hW hW0 hs0
  have hkb := byte_lt kc
  have hfb := byte_lt fc
  by_cases h4 : bc.length < 4
  · have HRS := hid (show res = (.zero, 7) by rw [HRES.out]; exact fwdGet_short _ h4)
    have e1 : (bc.length : Int) < 4 := by omega
    go_enter Try.func31, Try.ntmps31
    go_wp2_with fail
    rw [← HE.out]
    refine rgetFwd_ret (.int .u32 0) (.slice none 0 0) 7 rfl rfl rfl HT.out ⟨.slice none 0 0, by rw [HRS.out]; rfl, ?_, G0.out⟩
    rw [HRS.out]
    exact RdP.nil _
  · have e1 : ¬ (bc.length : Int) < 4 := by omega
    obtain ⟨N, hN⟩ : ∃ N, N = (bc.length - 4) / 4 := ⟨_, rfl⟩
    have HNL := hid (show ∀ j, j < N ↔ 4 + 4 * j + 4 ≤ bc.length by intro j; omega)
    have hN1 : N ≤ 250000 := by omega
    have HRG := hid (HRES.out.trans (fwdGet_floor ⟨kc, fc, bc⟩ N (by show 4 ≤ bc.length; omega) hN))
    clear hN h4
    go_enter Try.func31, Try.ntmps31
    go_wp2_with fail
    rw [← HE.out]
    refine (bnumber_any _ bc 0 4 _ _ rfl rfl (by omega) _ (HV.out.mono G0.out) (by omega)).mono ?_
    rw [← HX0.out]
    rintro e w1 ⟨rfl, hb1⟩
    have HC1 := hid (HC.out.mono hb1)
    have HT1 := hid (HT.out.mono hb1)
    have G1 := hid (gr_trans G0.out hb1)
    have hsz1 := hb1.size
    obtain ⟨W2, hW2⟩ : ∃ W2, W2 = w1.alloc (.cells #[.int .u32 (x0 : Int), .slice none 0 0] 49 (0, 0)) := ⟨_, rfl⟩
    have g2 : Below w1.heap.size w1 W2 := by rw [hW2]; exact (Below.refl _ _).alloc (Nat.le_refl _) _
    have hs2 : W2.heap.size = w1.heap.size + 1 := by rw [hW2]; simp
    have HC2 := hid (HC1.out.mono g2)
    have HT2 := hid (HT1.out.mono g2)
    have HF2 := hid (show RowV W2 w1.heap.size 49 [.int .u32 (x0 : Int), .slice none 0 0] by rw [hW2]; exact RowV.new w1 49 _)
    have G2 := hid (gr_trans G1.out g2)
    have HE2 := hid hW2
    obtain ⟨h, hh⟩ : ∃ h, h = w1.heap.size := ⟨_, rfl⟩
    clear hb1 hW2 g2
    obtain ⟨i0, i1, i2⟩ := HC2.out.three
    rw [HE2.out] at i0 i1 i2
    go_wp2_with fail
    rw [← HE2.out]
    rw [← hh] at HF2 hsz1 hs2 ⊢
    clear hh HE2 i0 i1 i2
    go_loopw [5] (fun y wr => ∃ (j a : Nat) (z : Value), j ≤ N ∧ Hid (a = 4 + 4 * j) ∧ y = .int .i64 (a : Int) ∧ Hid (RowV wr h 49 [.int .u32 (x0 : Int), z]) ∧ Hid (OwnP wr (h + 1) 101 z (pairsAt bc 4 j)) ∧ Hid (Chg (fun k => h ≤ k) W2 wr)) (fun y _ => 1000010 - (intOf y).toNat)
    case atStart => exact ⟨0, 4, .slice none 0 0, by omega, hid rfl, rfl, HF2, hid (OwnP.nil _ _ _), hid (Chg.refl _ _)⟩
    case round =>
      obtain ⟨j, a, z, hj, HA, rfl, HF, HO, HG⟩ := hrel
      obtain ⟨pz, cz, rfl, hcz⟩ := HO.out.form
      have HCr := hid (HC2.out.chg HG.out (by omega))
      have HTr := hid (HT2.out.chg HG.out (by omega))
      have Gr := hid (show Below w.heap.size w wr from G2.out.trans (HG.out.below (B := w.heap.size) (by omega) (fun k hk => by omega)))
      have hszr := HG.out.size
      have HLP := hid (pairsAt_length bc 4 j)
      rw [HLP.out] at HF HO
      obtain ⟨k0, k1, k2⟩ := HCr.out.three
      have ha0 := HA.out
      obtain ⟨a4, ha4⟩ : ∃ n, n = a + 4 := ⟨_, rfl⟩
      obtain ⟨a2, ha2⟩ : ∃ n, n = a + 2 := ⟨_, rfl⟩
      have HA4 := hid ha4
      have hab : a ≤ 1000004 := by omega
      have hw4 : IntKind.i64.wrap ((a : Int) + 4) = (a4 : Int) := by rw [IntKind.wrap_i64]; omega
      have HA2 := hid (show IntKind.i64.wrap ((a : Int) + 2) = (a2 : Int) by rw [IntKind.wrap_i64]; omega)
      have HA2e := hid ha2
      by_cases hlt : j < N
      · have hin := (HNL.out j).1 hlt
        have hle : (a4 : Int) ≤ (bc.length : Int) := by omega
        have K1 := hid (HF.out.at 1 (by simp))
        simp only [List.getElem_cons_succ, List.getElem_cons_zero] at K1
        have KC2 := hid k2
        have hna := numAt_lt bc a 2
        have hnb := numAt_lt bc a2 2
        have HSU := hid (show pairsAt bc 4 (j + 1) = pairsAt bc 4 j ++ [(numAt bc a 2, numAt bc a2 2)] by rw [ha2, ha0]; exact pairsAt_succ bc 4 j)
        obtain ⟨xa, hxa⟩ : ∃ x, x = numAt bc a 2 := ⟨_, rfl⟩
        obtain ⟨xb, hxb⟩ : ∃ x, x = numAt bc a2 2 := ⟨_, rfl⟩
        rw [← hxa] at hna
        rw [← hxb] at hnb
        rw [← hxa, ← hxb] at HSU
        have HXA := hid hxa
        have HXB := hid hxb
        have HWA := hid (show IntKind.u16.wrap (xa : Int) = (xa : Int) by rw [IntKind.wrap_u16]; omega)
        have HWB := hid (show IntKind.u16.wrap (xb : Int) = (xb : Int) by rw [IntKind.wrap_u16]; omega)
        obtain ⟨w4, hw4e⟩ : ∃ x, x = wr := ⟨_, rfl⟩
        subst hw4e
        have hlf := HF.out.lt
        clear hxa hxb ha4 ha2 ha0 hin
        go_wp2_with fail
        clear k0 k1 k2
        refine wp_region_tail 15 [Is (.pointer (some ⟨h, 1, none⟩)), Is (.slice pz j cz), Is (.pointer (some ⟨w.heap.size, 2, none⟩)), Is (.slice p bc.length c), Is (.int .i64 (a : Int)), Is (.int .u64 (xa : Int)), Is (.int .u16 (xa : Int)), Is (.pointer (some ⟨w.heap.size, 2, none⟩)), Is (.slice p bc.length c), Is (.int .i64 (a : Int)), Is (.int .i64 (a2 : Int)), Is (.int .u64 (xb : Int)), Is (.int .u16 (xb : Int)), Is (.agg #[.int .u16 (xa : Int), .int .u16 (xb : Int)]), NewSF w4.heap.size 101 1 [.int .u16 (xa : Int), .int .u16 (xb : Int)]] (by kernel_rfl) (by kernel_rfl) (by kernel_rfl) (by kernel_rfl) (by kernel_rfl) (by kernel_rfl) ?_ ?_ ?_
        · simp only [StabAll, Is.gr, RdF.gr, OwnF.gr, AnyF.gr, NewSF.gr, and_self]
        · rename_i Kk hKk; clear hKk Kk
          simp only [List.take_succ_cons, List.take_zero, AllOps, List.map_cons, List.map_nil, depsOf, List.filterMap_cons, List.filterMap_nil, Region.binds, depFacts, guardF, reduceIte, List.getD_eq_getElem?_getD, List.getElem?_cons_succ, List.getElem?_cons_zero, Option.getD_some, factAt, and_true]
          refine ⟨?_, ?_, ?_, ?_, ?_, ?_, ?_, ?_, ?_, ?_, ?_, ?_, ?_, ?_, ?_⟩
          all_goals intro ρ wv hρ hR hd
          all_goals try simp only [Is] at hd
          · exact opOk_val (v := .pointer (some ⟨h, 1, none⟩)) (w' := wv) (by simp [execOp, go_sem, hρ.1.const, hρ.1.func, hd, (hρ.2 4 rfl)]) ⟨rfl, GrR.refl _⟩
          · (have h0 := cell?_of_below hR K1.out; exact opOk_val (v := .slice pz j cz) (w' := wv) (by simp [execOp, go_sem, hd, h0]) ⟨rfl, GrR.refl _⟩)
          · exact opOk_val (v := .pointer (some ⟨w.heap.size, 2, none⟩)) (w' := wv) (by simp [execOp, go_sem, hρ.1.const, hρ.1.func, hd, (hρ.2 1 rfl)]) ⟨rfl, GrR.refl _⟩
          · (have h0 := cell?_of_below hR KC2.out; exact opOk_val (v := .slice p bc.length c) (w' := wv) (by simp [execOp, go_sem, hd, h0]) ⟨rfl, GrR.refl _⟩)
          · exact opOk_move (.inl rfl) ⟨by simp only [Is]; (first | exact hρ.2 5 rfl | exact hd | exact hd.1 | exact hd.2 | simp [hd]), GrR.refl _⟩
          · exact opOk_call hρ.1 rfl rfl Try.func54 (by kernel_rfl) rfl (by simp [hd, hρ.1.const, hρ.1.func]) ((bnumber_any _ bc a 2 _ _ rfl rfl (by omega) _ ((HV.out.mono Gr.out).mono hR) (by omega)).mono fun e w' ⟨h1, h2⟩ => ⟨_, h1, (by rw [HXA.out]; rfl), h2⟩)
          · exact opOk_val (v := .int .u16 (xa : Int)) (w' := wv) (by simp [execOp, go_sem, hρ.1.const, hρ.1.func, hd, HWA.out]) ⟨rfl, GrR.refl _⟩
          · exact opOk_val (v := .pointer (some ⟨w.heap.size, 2, none⟩)) (w' := wv) (by simp [execOp, go_sem, hρ.1.const, hρ.1.func, hd, (hρ.2 1 rfl)]) ⟨rfl, GrR.refl _⟩
          · (have h0 := cell?_of_below hR KC2.out; exact opOk_val (v := .slice p bc.length c) (w' := wv) (by simp [execOp, go_sem, hd, h0]) ⟨rfl, GrR.refl _⟩)
          · exact opOk_move (.inl rfl) ⟨by simp only [Is]; (first | exact hρ.2 5 rfl | exact hd | exact hd.1 | exact hd.2 | simp [hd]), GrR.refl _⟩
          · exact opOk_val (v := .int .i64 (a2 : Int)) (w' := wv) (by simp [execOp, go_sem, hρ.1.const, hρ.1.func, hd, HA2.out]) ⟨rfl, GrR.refl _⟩
          · exact opOk_call hρ.1 rfl rfl Try.func54 (by kernel_rfl) rfl (by simp [hd, hρ.1.const, hρ.1.func]) ((bnumber_any _ bc a2 2 _ _ rfl rfl (by omega) _ ((HV.out.mono Gr.out).mono hR) (by omega)).mono fun e w' ⟨h1, h2⟩ => ⟨_, h1, (by rw [HXB.out]; rfl), h2⟩)
          · exact opOk_val (v := .int .u16 (xb : Int)) (w' := wv) (by simp [execOp, go_sem, hρ.1.const, hρ.1.func, hd, HWB.out]) ⟨rfl, GrR.refl _⟩
          · exact opOk_val (v := .agg #[.int .u16 (xa : Int), .int .u16 (xb : Int)]) (w' := wv) (by simp [execOp, go_sem, hρ.1.const, hρ.1.func, hd]) ⟨rfl, GrR.refl _⟩
          · exact opOk_val (v := .slice (some ⟨wv.heap.size, 0, none⟩) 1 1) (w' := wv.alloc (.cells #[.int .u16 (xa : Int), .int .u16 (xb : Int)] 101 (0, 0))) (by simp [execOp, go_sem, hρ.1.const, hd]) ⟨⟨_, rfl, hR.size, RowV.new wv 101 [.int .u16 (xa : Int), .int .u16 (xb : Int)]⟩, (Below.refl _ _).alloc (Nat.le_refl _) _⟩
        · intro vals wv hR hall
          have i1 := hall 1 (by omega)
          have i14 := hall 14 (by omega)
          simp only [factAt, Is, NewSF, List.getD_eq_getElem?_getD, List.getElem?_cons_succ, List.getElem?_cons_zero, Option.getD_some] at i1 i14
          clear hall
          obtain ⟨hn, hhn, hgen, hrown⟩ := i14
          simp only [List.take_succ_cons, List.take_zero, List.drop_succ_cons, List.drop_zero, fillFrom, Act.put, i1, hhn, List.setIfInBounds_toArray, List.set_cons_zero, List.set_cons_succ, Nat.zero_add, Nat.reduceAdd]
          have HNR := hid (hrown.rdK (n := 1) (K := 2) rfl (by unfold maxLen; omega))
          have HF5 := hid (HF.out.mono hR)
          have HO5 := hid (OwnK.mono HO.out hR)
          have HG5 := hid (HG.out.trans (Chg.of_gr hR))
          have hszv := hR.size
          obtain ⟨w5, hw5⟩ : ∃ x, x = wv := ⟨_, rfl⟩
          subst hw5
          clear hR i1 hhn hrown
          go_wp2_with (at_builtin; refine wpList_append_OwnK rfl (.tmp 25) (.tmp 38) 47 rfl (h + 1) 101 (.agg #[.int .u16 0, .int .u16 0]) 2 4 rfl (by omega) Try.underlying47 infoSkip _ _ j 1 (pairsV (pairsAt bc 4 j)) [.int .u16 (xa : Int), .int .u16 (xb : Int)] (by intro u hu; simp at hu; rcases hu with rfl | rfl <;> rfl) rfl (by have := HO5.out; rwa [HLP.out] at this) rfl HNR.out (by omega) (by omega) (by omega) ?_)
          intro v6 w6 ho6 hg6
          have HO6 := hid (show OwnP w6 (h + 1) 101 v6 (pairsAt bc 4 (j + 1)) by
            unfold OwnP
            rw [HSU.out, pairsV_append, List.length_append, HLP.out]
            exact ho6)
          have HF6 := hid (HF5.out.grown hg6 (fun e => by have := OwnK.ge HO5.out _ e; omega))
          have HG6 := hid (HG5.out.trans ((Chg.of_grown hg6).weak (fun i _ e => by have := OwnK.ge HO5.out _ e; omega)))
          obtain ⟨p6, c6, rfl, hc6⟩ := HO6.out.form
          obtain ⟨n6, hn6⟩ : ∃ n, n = (pairsAt bc 4 (j + 1)).length := ⟨_, rfl⟩
          rw [← hn6] at HO6 ⊢
          clear ho6 hg6 hn6
          have t1 := HF6.out.at 1 (by simp)
          have u1 := HF6.out.frozen 1
          simp only [List.getElem_cons_succ, List.getElem_cons_zero] at t1
          go_wp2_with fail
          go_roundw
          case rel =>
            refine ⟨j + 1, a4, .slice p6 n6 c6, by omega, hid (by have := HA.out; have := HA4.out; omega), rfl, hid (HF6.out.store 1 _), hid ?_, hid (HG6.out.set _ _ (.inl (Nat.le_refl _)))⟩
            exact HO6.out.keep (r := some h) (gb_set (gb_refl _ _) 1 _) (fun k hk e => by have := HO6.out.ge k hk; simp at e; omega)
          case measure => have := HA4.out; simp [intOf]; omega
      · have hnl : ¬ 4 + 4 * j + 4 ≤ bc.length := fun h => hlt ((HNL.out j).2 h)
        have hle : ¬ (a4 : Int) ≤ (bc.length : Int) := by omega
        obtain rfl : j = N := by omega
        obtain ⟨wo, hwo⟩ : ∃ x, x = wr := ⟨_, rfl⟩
        subst hwo
        obtain ⟨q, hq⟩ : ∃ q, q = chkEq (FwdD.chk ⟨x0, pairsAt bc 4 j⟩) ⟨kc, fc, bc⟩ := ⟨_, rfl⟩
        have HQ := hid hq
        have HRF := hid (show res = if q = true then (⟨x0, pairsAt bc 4 j⟩, 0) else (.zero, 7) by
          have h1 := HRG.out
          rw [← HX0.out] at h1
          rw [h1, hq, chkEq_dec]
          by_cases e : FwdD.chk ⟨x0, pairsAt bc 4 j⟩ = ⟨kc, fc, bc⟩ <;> simp [e])
        clear hnl hq ha0 ha4 ha2
        go_wp2_with fail
        clear k0 k1 k2
        refine wp_region_gr [Is (.agg ([.int .u32 (x0 : Int), .slice pz j cz]).toArray), ChkF (FwdD.chk ⟨x0, pairsAt bc 4 j⟩), Is (.agg ([.int .u8 (kc.toNat : Int), .int .u8 (fc.toNat : Int), .slice p bc.length c]).toArray), Is (.bool q), Is (.bool (!q))] (by kernel_rfl) (by kernel_rfl) (by kernel_rfl) ?_ ?_ ?_
        · simp only [StabAll, Is.gr, RdF.gr, OwnF.gr, AnyF.gr, ChkF.gr, and_self]
        · rename_i Kk hKk; clear hKk Kk
          simp only [AllOps, List.map_cons, List.map_nil, depsOf, List.filterMap_cons, List.filterMap_nil, Region.binds, depFacts, guardF, reduceIte, List.getD_eq_getElem?_getD, List.getElem?_cons_succ, List.getElem?_cons_zero, Option.getD_some, factAt, and_true]
          refine ⟨?_, ?_, ?_, ?_, ?_⟩
          all_goals intro ρ wv hρ hR hd
          all_goals try simp only [Is] at hd
          · exact opOk_loadRow rfl (h) (by first | exact hρ.2 _ rfl | simp [hd]) _ ([.int .u32 (x0 : Int), .slice pz j cz]) _ (HF.out.mono hR) Try.underlying49 rfl (by kernel_rfl) ⟨rfl, GrR.refl _⟩
          · exact opOk_call hρ.1 rfl rfl Try.func32 (by kernel_rfl) rfl (by simp [hd, hρ.1.const, hρ.1.func]) ((rputFwd_any _ ⟨x0, pairsAt bc 4 j⟩ ⟨by omega, pairsAt_wf bc 4 j⟩ _ ⟨_, rfl, HO.out.rd.mono hR⟩ (by show (pairsAt bc 4 j).length ≤ _; rw [HLP.out]; omega)).mono fun e w' ⟨s, h1, h2, h3⟩ => ⟨_, h1, ⟨s, rfl, h2.rd⟩, h3⟩)
          · exact opOk_loadRow rfl (w.heap.size) (by first | exact hρ.2 _ rfl | simp [hd]) _ ([.int .u8 (kc.toNat : Int), .int .u8 (fc.toNat : Int), .slice p bc.length c]) _ (HCr.out.mono hR) Try.underlying28 rfl (by kernel_rfl) ⟨rfl, GrR.refl _⟩
          · exact opOk_call hρ.1 rfl rfl Try.func18 (by kernel_rfl) rfl (by simp [hd, hρ.1.const, hρ.1.func]) ((chkSame_any (ρ (.tmp 42)) _ (FwdD.chk ⟨x0, pairsAt bc 4 j⟩) ⟨kc, fc, bc⟩ _ hd.1 ⟨_, rfl, (HV.out.mono Gr.out).mono hR⟩).mono fun e w' ⟨h1, h2⟩ => ⟨_, h1, (by rw [HQ.out]; rfl), h2⟩)
          · exact opOk_val (v := .bool (!q)) (w' := wv) (by simp [execOp, go_sem, hρ.1.const, hρ.1.func, hd]) ⟨rfl, GrR.refl _⟩
        · intro vals wv hR hall
          have hend := hall 4 (by simp)
          simp only [factAt, Is, List.getD_eq_getElem?_getD, List.getElem?_cons_succ, List.getElem?_cons_zero, Option.getD_some] at hend
          clear hall
          simp only [fillFrom, Act.put, hend, List.setIfInBounds_toArray, List.set_cons_zero, List.set_cons_succ]
          obtain ⟨w3, hw3⟩ : ∃ x, x = wv := ⟨_, rfl⟩
          subst hw3
          have HT3 := hid (HTr.out.mono hR)
          have HF3 := hid (HF.out.mono hR)
          have HO3 := hid (OwnK.mono HO.out hR)
          have G3 := hid (gr_trans Gr.out hR)
          clear hR hend
          obtain ⟨j0, j1, -⟩ := rowFwd HT3.out
          have y0 := HT3.out.frozen 0
          have y1 := HT3.out.frozen 1
          cases q
          · have HRS := hid (show res = (.zero, 7) by rw [HRF.out]; rfl)
            simp only [Bool.not_false]
            go_wp2_with fail
            refine rgetFwd_ret (.int .u32 0) (.slice none 0 0) 7 rfl rfl rfl ((HT3.out.store 0 (.int .u32 0)).store 1 (.slice none 0 0)) ⟨.slice none 0 0, by rw [HRS.out]; rfl, ?_, ((G3.out.setCell (by simp; try omega) _).setCell (by simp; try omega) _)⟩
            rw [HRS.out]
            exact RdP.nil _
          · have HRS := hid (show res = (⟨x0, pairsAt bc 4 j⟩, 0) by rw [HRF.out]; rfl)
            simp only [Bool.not_true]
            obtain ⟨i0, i1, -⟩ := rowFwd HF3.out
            have hne : h ≠ w.heap.size + 1 := by omega
            go_wp2_with fail
            refine rgetFwd_ret (.int .u32 (x0 : Int)) (.slice pz j cz) 0 rfl rfl rfl ((HT3.out.store 0 (.int .u32 (x0 : Int))).store 1 (.slice pz j cz)) ⟨.slice pz j cz, by rw [HRS.out], ?_, ((G3.out.setCell (by simp; try omega) _).setCell (by simp; try omega) _)⟩
            rw [HRS.out]
            exact OwnP.rd (OwnK.grown (r := some (w.heap.size + 1)) HO3.out (gb_set (gb_set (gb_refl _ _) 0 _) 1 _) (fun k hk e => by have := OwnK.ge HO3.out k hk; simp at e; omega))
end Go.Proofs.Ytfiblhdejglpaaa

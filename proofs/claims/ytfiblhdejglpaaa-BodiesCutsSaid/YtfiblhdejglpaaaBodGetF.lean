/- bodies.GetForward: what will not come. Conditions: what comes in reads as it should. -/
import Derived.Test.YtfiblhdejglpaaaGetsA
import Derived.Test.YtfiblhdejglpaaaBodGetD
import Derived.Test.YtfiblhdejglpaaaPutsB
import Derived.Deep.LoopGhost
namespace Go.FL
open Go.RowKit
def fwdN (n : Nat) : Nat := (n - 4 + 3) / 4
def fwdOf (c : Chk) : FwdD := ⟨numAt c.b 0 4, pairsAt c.b 4 (fwdN c.b.length)⟩
def fwdGet (c : Chk) : FwdD × Int := if (fwdOf c).chk = c then (fwdOf c, 0) else (.zero, 7)
theorem fwdN_lt (n j : Nat) : j < fwdN n ↔ 4 + 4 * j < n := by unfold fwdN; omega
theorem pairsAt_wf (l : List UInt8) (a n : Nat) : pairsWf (pairsAt l a n) := by
  intro g hg
  simp only [pairsAt, List.mem_map] at hg
  obtain ⟨i, _, rfl⟩ := hg
  exact ⟨numAt_lt l _ 2, numAt_lt l _ 2⟩
end Go.FL
namespace Go.Proofs.Ytfiblhdejglpaaa
open Go.RowKit Go.FL Go.ChangeShapes

theorem infoSkip : (Try.prog.info? 101).map (fun i => (i.zero, i.size, i.bytes)) = some (some (.agg #[.int .u16 0, .int .u16 0]), 2, 4) := by kernel_rfl

theorem getFwd_ret {a : Act} {W : World} {g : Nat} {R : Ending → World → Prop} (v0 v1 : Value) (er : Int) (h2 : a.tmps.getD 2 undef = .pointer (some ⟨g, 0, none⟩)) (h3 : a.tmps.getD 3 undef = .int .i64 er) (hd : a.defers = [])
    (hc : RowV W g 49 [v0, v1]) (hR : R (.returned (.tuple #[.agg #[v0, v1], .int .i64 er])) W) : bodyPost Try.prog Try.f30 R .ret a W := by
  refine bodyPost_ret (v := .tuple #[.agg #[v0, v1], .int .i64 er]) ?_ hd hR
  obtain ⟨c0, c1, -⟩ := rowFwd hc
  simp only [Array.getD_eq_getD_getElem?] at h2 h3
  simp [results, Try.results30, go_sem, h2, h3, asAddr, c0, c1]

set_option maxRecDepth 100000 in
set_option maxHeartbeats 4000000 in
theorem getFwd_any (v : Value) (ch : Chk) (w : World) (h : ChkV w v ch) (hl : ch.b.length ≤ 1000000) :
    Calls Try.prog 30 #[v] w fun e w' => ∃ s, e = .returned (.tuple #[.agg #[.int .u32 ((fwdGet ch).1.cum : Int), s], .int .i64 (fwdGet ch).2]) ∧ RdP w' s (fwdGet ch).1.skips ∧ Below w.heap.size w w' := by
  obtain ⟨s, rfl, hrd⟩ := h
  have HV := hid hrd
  obtain ⟨p, c, rfl, hlc, hcm, hpn, hcell⟩ := hrd
  unfold maxLen at hcm
  clear hcell
  obtain ⟨kc, fc, bc⟩ := ch
  simp only at *
  have hn0 := numAt_lt bc 0 4
  obtain ⟨N, hN⟩ : ∃ N, N = fwdN bc.length := ⟨_, rfl⟩
  have HNL := hid (show ∀ j, j < N ↔ 4 + 4 * j < bc.length by intro j; rw [hN]; exact fwdN_lt _ j)
  have hN1 : N ≤ 250000 := by rw [hN]; unfold fwdN; omega
  have HDO := hid (show fwdOf ⟨kc, fc, bc⟩ = ⟨numAt bc 0 4, pairsAt bc 4 N⟩ by rw [hN]; rfl)
  obtain ⟨x0, hx0⟩ : ∃ x, x = numAt bc 0 4 := ⟨_, rfl⟩
  rw [← hx0] at hn0 HDO
  have HX0 := hid hx0
  obtain ⟨res, hres⟩ : ∃ r, r = fwdGet ⟨kc, fc, bc⟩ := ⟨_, rfl⟩
  rw [← hres]
  have HRES := hid hres
  clear hx0 hres hN
  have hw0 : IntKind.u32.wrap (x0 : Int) = (x0 : Int) := by rw [wrap_u32_lt]; omega
  obtain ⟨Wa, hWa⟩ : ∃ W0, W0 = w.alloc (.cells #[.int .u8 (kc.toNat : Int), .int .u8 (fc.toNat : Int), .slice p bc.length c] 28 (0, 0)) := ⟨_, rfl⟩
  have hsa : Wa.heap.size = w.heap.size + 1 := by rw [hWa]; simp
  obtain ⟨Wb, hWb⟩ : ∃ W0, W0 = Wa.alloc (.cells #[.int .u32 0, .slice none 0 0] 49 (0, 0)) := ⟨_, rfl⟩
  have hsb : Wb.heap.size = w.heap.size + 2 := by rw [hWb]; simp [hsa]
  obtain ⟨W, hW⟩ : ∃ W, W = Wb.alloc (.cells #[.slice p bc.length c, .int .i64 0] 90 (0, 0)) := ⟨_, rfl⟩
  have HC := hid (show RowV W w.heap.size 28 [.int .u8 (kc.toNat : Int), .int .u8 (fc.toNat : Int), .slice p bc.length c] by rw [hW, hWb, hWa]; exact ((RowV.new w 28 _).alloc _).alloc _)
  have HT := hid (show RowV W (w.heap.size + 1) 49 [.int .u32 0, .slice none 0 0] by rw [hW, hWb, ← hsa]; exact (RowV.new Wa 49 _).alloc _)
  have HR := hid (show RdrAt (w.heap.size + 2) (.slice p bc.length c) 0 W by rw [hW, ← hsb]; exact RowV.new Wb 90 _)
  have G0 := hid (show Below w.heap.size w W by rw [hW, hWb, hWa]; exact (((Below.refl _ _).alloc (Nat.le_refl _) _).alloc (by simp) _).alloc (by simp; omega) _)
  have hs1 : W.heap.size = w.heap.size + 3 := by rw [hW]; simp [hsb]
  rw [hWb, hWa] at hW
  have HE := hid hW
  clear hW hWa hWb hsa hsb
  have hkb := byte_lt kc
  have hfb := byte_lt fc
  go_enter Try.func30, Try.ntmps30
  go_wp2_with fail
  rw [← HE.out]
  refine (btake_any _ _ bc 0 4 _ rfl (by omega) _ HR.out (HV.out.mono G0.out) (by omega)).mono ?_
  rw [← HX0.out]
  rintro e w1 ⟨rfl, hj1, hg1⟩
  have HC1 := hid (HC.out.grown hg1 (fun e => by simp at e))
  have HT1 := hid (HT.out.grown hg1 (fun e => by simp at e))
  have G1 := hid (show Below w.heap.size w w1 from G0.out.trans (gb_below hg1 (by omega) (by omega)))
  have hsz1 := hg1.size
  obtain ⟨W2, hW2⟩ : ∃ W2, W2 = w1.alloc (.cells #[.int .u32 (x0 : Int), .slice none 0 0] 49 (0, 0)) := ⟨_, rfl⟩
  have g2 : Below w1.heap.size w1 W2 := by rw [hW2]; exact (Below.refl _ _).alloc (Nat.le_refl _) _
  have hs2 : W2.heap.size = w1.heap.size + 1 := by rw [hW2]; simp
  have HC2 := hid (HC1.out.mono g2)
  have HT2 := hid (HT1.out.mono g2)
  have HJ2 := hid (show RdrAt (w.heap.size + 2) (.slice p bc.length c) 4 W2 from RowV.mono hj1 g2)
  have HF2 := hid (show RowV W2 w1.heap.size 49 [.int .u32 (x0 : Int), .slice none 0 0] by rw [hW2]; exact RowV.new w1 49 _)
  have G2 := hid (gr_trans G1.out g2)
  have HE2 := hid hW2
  obtain ⟨h, hh⟩ : ∃ h, h = w1.heap.size := ⟨_, rfl⟩
  clear hj1 hg1 hW2 g2
  go_wp2_with fail
  rw [← HE2.out]
  rw [← hh] at HF2 hsz1 hs2 ⊢
  clear hh HE2
  go_loopg [] N (fun k wr => ∃ (j : Nat) (z : Value), j + k = N ∧ Hid (RdrAt (w.heap.size + 2) (.slice p bc.length c) (4 + 4 * j) wr) ∧ Hid (RowV wr h 49 [.int .u32 (x0 : Int), z]) ∧ Hid (OwnP wr (h + 1) 101 z (pairsAt bc 4 j)) ∧ Hid (Chg (fun k => k = w.heap.size + 2 ∨ h ≤ k) W2 wr))
  case atStart => exact ⟨0, .slice none 0 0, by omega, HJ2, HF2, hid (OwnP.nil _ _ _), hid (Chg.refl _ _)⟩
  case round =>
    obtain ⟨j, z, hjk, HJ, HF, HO, HG⟩ := hrel
    obtain ⟨pz, cz, rfl, hcz⟩ := HO.out.form
    have HCr := hid (HC2.out.chg HG.out (by omega))
    have HTr := hid (HT2.out.chg HG.out (by omega))
    have Gr := hid (show Below w.heap.size w wr from G2.out.trans (HG.out.below (B := w.heap.size) (by omega) (fun k hk => by omega)))
    have hszr := HG.out.size
    have HLP := hid (pairsAt_length bc 4 j)
    rw [HLP.out] at HF HO
    go_wp2_with fail
    refine (bleft_any _ _ bc (4 + 4 * j) _ HJ.out (HV.out.mono Gr.out) (by omega)).mono ?_
    rintro e w3 ⟨rfl, hb3⟩
    have HJ3 := hid (show RdrAt (w.heap.size + 2) (.slice p bc.length c) (4 + 4 * j) w3 from RowV.mono HJ.out hb3)
    have HF3 := hid (HF.out.mono hb3)
    have HO3 := hid (HO.out.mono hb3)
    have HG3 := hid (HG.out.trans (Chg.of_gr hb3))
    have HC3 := hid (HCr.out.mono hb3)
    have HT3 := hid (HTr.out.mono hb3)
    have G3 := hid (gr_trans Gr.out hb3)
    have hsz3 := hb3.size
    clear hb3 HJ HF HO HG
    by_cases hlt : j < N
    · have hin := (HNL.out j).1 hlt
      have hpos : (0 : Int) < (bc.length : Int) - ((4 + 4 * j : Nat) : Int) := by omega
      have K1 := hid (HF3.out.at 1 (by simp))
      simp only [List.getElem_cons_succ, List.getElem_cons_zero] at K1
      have hna := numAt_lt bc (4 + 4 * j) 2
      have hnb := numAt_lt bc (4 + 4 * j + 2) 2
      have HSU := hid (show pairsAt bc 4 (j + 1) = pairsAt bc 4 j ++ [(numAt bc (4 + 4 * j) 2, numAt bc (4 + 4 * j + 2) 2)] from pairsAt_succ bc 4 j)
      obtain ⟨xa, hxa⟩ : ∃ x, x = numAt bc (4 + 4 * j) 2 := ⟨_, rfl⟩
      obtain ⟨xb, hxb⟩ : ∃ x, x = numAt bc (4 + 4 * j + 2) 2 := ⟨_, rfl⟩
      rw [← hxa] at hna
      rw [← hxb] at hnb
      rw [← hxa, ← hxb] at HSU
      have HXA := hid hxa
      have HXB := hid hxb
      have HWA := hid (show IntKind.u16.wrap (xa : Int) = (xa : Int) by rw [IntKind.wrap_u16]; omega)
      have HWB := hid (show IntKind.u16.wrap (xb : Int) = (xb : Int) by rw [IntKind.wrap_u16]; omega)
      have HGG := hid (fun (wx : World) (h : GbR (w.heap.size + 2) w3 wx) => (show Below w.heap.size w wx from G3.out.trans (gb_below h (by omega) (by omega))))
      obtain ⟨w4, hw4⟩ : ∃ x, x = w3 := ⟨_, rfl⟩
      subst hw4
      have hlf := HF3.out.lt
      clear hxa hxb
      go_wp2_with fail
      refine wp_region_take 10 (w.heap.size + 2) [3, 6] (fun k wx => RdrAt (w.heap.size + 2) (.slice p bc.length c) ([4 + 4 * j, 4 + 4 * j + 2, 4 + 4 * j + 2 + 2].getD k 0) wx) [Is (.pointer (some ⟨h, 1, none⟩)), Is (.slice pz j cz), Is (.pointer (some ⟨w.heap.size + 2, 0, none⟩)), Is (.int .u64 (xa : Int)), Is (.int .u16 (xa : Int)), Is (.pointer (some ⟨w.heap.size + 2, 0, none⟩)), Is (.int .u64 (xb : Int)), Is (.int .u16 (xb : Int)), Is (.agg #[.int .u16 (xa : Int), .int .u16 (xb : Int)]), NewSF w4.heap.size 101 1 [.int .u16 (xa : Int), .int .u16 (xb : Int)]] (by kernel_rfl) (by kernel_rfl) (by kernel_rfl) (by kernel_rfl) (by kernel_rfl) (by kernel_rfl) (by kernel_rfl) (HJ3.out) (fun _ _ _ h k => RowV.mono h k) ?_ ?_ ?_
      · exact ⟨Is.stab _ _, Is.stab _ _, Is.stab _ _, Is.stab _ _, Is.stab _ _, Is.stab _ _, Is.stab _ _, Is.stab _ _, Is.stab _ _, NewSF.gb _ (show w.heap.size + 2 < w4.heap.size by omega), trivial⟩
      · rename_i Kk hKk; clear hKk Kk
        simp only [List.take_succ_cons, List.take_zero, AllOpsC, wrAt, Nat.reduceAdd, Nat.reduceEqDiff, Option.map_some, Option.map_none, List.map_cons, List.map_nil, depsOf, List.filterMap_cons, List.filterMap_nil, Region.binds, depFacts, guardF, reduceIte, List.getD_eq_getElem?_getD, List.getElem?_cons_succ, List.getElem?_cons_zero, Option.getD_some, factAt, and_true]
        refine ⟨?_, ?_, ?_, ?_, ?_, ?_, ?_, ?_, ?_, ?_⟩
        all_goals intro ρ wv hρ hR hd
        all_goals try simp only [Is] at hd
        · exact opOk_val (v := .pointer (some ⟨h, 1, none⟩)) (w' := wv) (by simp [execOp, go_sem, hρ.1.const, hρ.1.func, hd, (hρ.2 5 rfl)]) ⟨rfl, GrR.refl _⟩
        · (have h0 := cell_gb hR K1.out (by show h ≠ _; omega); exact opOk_val (v := .slice pz j cz) (w' := wv) (by simp [execOp, go_sem, hd, h0]) ⟨rfl, GrR.refl _⟩)
        · exact opOk_move (.inl rfl) ⟨by simp only [Is]; (first | exact hρ.2 4 rfl | exact hd | exact hd.1 | exact hd.2 | simp [hd]), GrR.refl _⟩
        · (first | refine ⟨rfl, fun hJ => ?_⟩ | refine ⟨trivial, fun hJ => ?_⟩ | intro hJ); exact opOk_call hρ.1 rfl rfl Try.func50 (by kernel_rfl) rfl (by simp [hd, hρ.1.const, hρ.1.func]) ((btake_any _ _ bc (4 + 4 * j) 2 _ rfl (by omega) _ hJ (HV.out.mono (HGG.out _ hR)) (by omega)).mono fun e w' ⟨h1, h2, h3⟩ => ⟨_, h1, by rw [HXA.out]; rfl, h3, h2⟩)
        · exact opOk_val (v := .int .u16 (xa : Int)) (w' := wv) (by simp [execOp, go_sem, hρ.1.const, hρ.1.func, hd, HWA.out]) ⟨rfl, GrR.refl _⟩
        · exact opOk_move (.inl rfl) ⟨by simp only [Is]; (first | exact hρ.2 4 rfl | exact hd | exact hd.1 | exact hd.2 | simp [hd]), GrR.refl _⟩
        · (first | refine ⟨rfl, fun hJ => ?_⟩ | refine ⟨trivial, fun hJ => ?_⟩ | intro hJ); exact opOk_call hρ.1 rfl rfl Try.func50 (by kernel_rfl) rfl (by simp [hd, hρ.1.const, hρ.1.func]) ((btake_any _ _ bc (4 + 4 * j + 2) 2 _ rfl (by omega) _ hJ (HV.out.mono (HGG.out _ hR)) (by omega)).mono fun e w' ⟨h1, h2, h3⟩ => ⟨_, h1, by rw [HXB.out]; rfl, h3, h2⟩)
        · exact opOk_val (v := .int .u16 (xb : Int)) (w' := wv) (by simp [execOp, go_sem, hρ.1.const, hρ.1.func, hd, HWB.out]) ⟨rfl, GrR.refl _⟩
        · exact opOk_val (v := .agg #[.int .u16 (xa : Int), .int .u16 (xb : Int)]) (w' := wv) (by simp [execOp, go_sem, hρ.1.const, hρ.1.func, hd]) ⟨rfl, GrR.refl _⟩
        · exact opOk_val (v := .slice (some ⟨wv.heap.size, 0, none⟩) 1 1) (w' := wv.alloc (.cells #[.int .u16 (xa : Int), .int .u16 (xb : Int)] 101 (0, 0))) (by simp [execOp, go_sem, hρ.1.const, hd]) ⟨⟨_, rfl, hR.size, RowV.new wv 101 [.int .u16 (xa : Int), .int .u16 (xb : Int)]⟩, (Below.refl _ _).alloc (Nat.le_refl _) _⟩
      · intro vals wv hR hJ hall
        have i1 := hall 1 (by omega)
        have i9 := hall 9 (by omega)
        simp only [factAt, Is, NewSF, List.getD_eq_getElem?_getD, List.getElem?_cons_succ, List.getElem?_cons_zero, Option.getD_some] at i1 i9
        clear hall
        obtain ⟨hn, hhn, hgen, hrown⟩ := i9
        simp only [List.take_succ_cons, List.take_zero, List.drop_succ_cons, List.drop_zero, fillFrom, Act.put, i1, hhn, List.setIfInBounds_toArray, List.set_cons_zero, List.set_cons_succ, Nat.zero_add, Nat.reduceAdd]
        have HNR := hid (hrown.rdK (n := 1) (K := 2) rfl (by unfold maxLen; omega))
        have HJ5 := hid (show RdrAt (w.heap.size + 2) (.slice p bc.length c) (4 + 4 * (j + 1)) wv from hJ)
        have HF5 := hid (HF3.out.grown hR (fun e => by simp at e; omega))
        have HO5 := hid (HO3.out.keep hR (fun k hk e => by have := HO3.out.ge k hk; simp at e; omega))
        have HG5 := hid (HG3.out.trans ((Chg.of_grown hR).weak (fun i _ e => .inl (by simpa using e.symm))))
        have hszv := hR.size
        obtain ⟨w5, hw5⟩ : ∃ x, x = wv := ⟨_, rfl⟩
        subst hw5
        clear hR hJ i1 hhn hrown
        go_wp2_with (at_builtin; refine wpList_append_OwnK rfl (.tmp 18) (.tmp 26) 47 rfl (h + 1) 101 (.agg #[.int .u16 0, .int .u16 0]) 2 4 rfl (by omega) Try.underlying47 infoSkip _ _ j 1 (pairsV (pairsAt bc 4 j)) [.int .u16 (xa : Int), .int .u16 (xb : Int)] (by intro u hu; simp at hu; rcases hu with rfl | rfl <;> rfl) rfl (by have := HO5.out; unfold OwnP at this; rwa [HLP.out] at this) rfl HNR.out (by omega) (by omega) (by omega) ?_)
        intro v6 w6 ho6 hg6
        have HO6 := hid (show OwnP w6 (h + 1) 101 v6 (pairsAt bc 4 (j + 1)) by
          unfold OwnP
          rw [HSU.out, pairsV_append, List.length_append, HLP.out]
          exact ho6)
        have HJ6 := hid (show RdrAt (w.heap.size + 2) (.slice p bc.length c) (4 + 4 * (j + 1)) w6 from RowV.grown HJ5.out hg6 (fun e => by have := HO5.out.ge _ e; omega))
        have HF6 := hid (HF5.out.grown hg6 (fun e => by have := HO5.out.ge _ e; omega))
        have HG6 := hid (HG5.out.trans ((Chg.of_grown hg6).weak (fun i _ e => .inr (by have := HO5.out.ge _ e; omega))))
        obtain ⟨p6, c6, rfl, hc6⟩ := HO6.out.form
        obtain ⟨n6, hn6⟩ : ∃ n, n = (pairsAt bc 4 (j + 1)).length := ⟨_, rfl⟩
        rw [← hn6] at HO6 ⊢
        clear ho6 hg6 hn6
        have t1 := HF6.out.at 1 (by simp)
        have u1 := HF6.out.frozen 1
        simp only [List.getElem_cons_succ, List.getElem_cons_zero] at t1
        go_wp2_with fail
        go_roundg (N - (j + 1))
        case measure => omega
        case rel =>
          refine ⟨j + 1, .slice p6 n6 c6, by omega, hid ?_, hid (HF6.out.store 1 _), hid ?_, hid (HG6.out.set _ _ (.inl (.inr (Nat.le_refl _))))⟩
          · exact RowV.other HJ6.out _ _ (by show h ≠ _; omega)
          · exact HO6.out.keep (r := some h) (gb_set (gb_refl _ _) 1 _) (fun k hk e => by have := HO6.out.ge k hk; simp at e; omega)
    · have hnl : ¬ 4 + 4 * j < bc.length := fun h => hlt ((HNL.out j).2 h)
      have hnn : ¬ (0 : Int) < (bc.length : Int) - ((4 + 4 * j : Nat) : Int) := by omega
      obtain rfl : j = N := by omega
      obtain ⟨k0, k1, k2⟩ := HC3.out.three
      obtain ⟨i0, i1, -⟩ := rowFwd HF3.out
      clear hnl
      go_wp2_with fail
      refine (bgetFwd_any x0 pz j cz kc fc _ bc true _ (HV.out.mono G3.out) (FwdD.chk ⟨x0, pairsAt bc 4 j⟩) (fun wx hbx => putFwd_any _ ⟨x0, pairsAt bc 4 j⟩ ⟨hn0, pairsAt_wf bc 4 j⟩ wx ⟨_, rfl, HO3.out.rd.mono hbx⟩ (by show (pairsAt bc 4 j).length ≤ _; rw [HLP.out]; omega))).mono ?_
      rintro e w7 ⟨rfl, hb7⟩
      have HT7 := hid (HT3.out.mono hb7)
      have HO7 := hid (HO3.out.mono hb7)
      have G7 := hid (gr_trans G3.out hb7)
      clear hb7 k0 k1 k2 i0 i1
      obtain ⟨jj0, jj1, -⟩ := rowFwd HT7.out
      have y0 := HT7.out.frozen 0
      have y1 := HT7.out.frozen 1
      by_cases hq : true = true ∧ FwdD.chk ⟨x0, pairsAt bc 4 j⟩ = ⟨kc, fc, bc⟩
      · have HRS := hid (show res = (⟨x0, pairsAt bc 4 j⟩, 0) by rw [HRES.out, fwdGet, HDO.out, if_pos hq.2])
        rw [if_pos hq]
        clear hq
        go_wp2_with fail
        refine getFwd_ret (.int .u32 (x0 : Int)) (.slice pz j cz) 0 rfl rfl rfl ((HT7.out.store 0 (.int .u32 (x0 : Int))).store 1 (.slice pz j cz)) ⟨.slice pz j cz, by rw [HRS.out], ?_, ((G7.out.setCell (by simp; try omega) _).setCell (by simp; try omega) _)⟩
        rw [HRS.out]
        exact (HO7.out.keep (r := some (w.heap.size + 1)) (gb_set (gb_set (gb_refl _ _) 0 _) 1 _) (fun k hk e => by have := HO7.out.ge k hk; simp at e; omega)).rd
      · have HRS := hid (show res = (.zero, 7) by
          rw [HRES.out, fwdGet, HDO.out, if_neg]
          intro hc
          exact hq ⟨rfl, hc⟩)
        rw [if_neg hq]
        clear hq
        go_wp2_with fail
        refine getFwd_ret (.int .u32 0) (.slice none 0 0) 7 rfl rfl rfl ((HT7.out.store 0 (.int .u32 0)).store 1 (.slice none 0 0)) ⟨.slice none 0 0, by rw [HRS.out]; rfl, ?_, ((G7.out.setCell (by simp; try omega) _).setCell (by simp; try omega) _)⟩
        rw [HRS.out]
        exact RdP.nil _
end Go.Proofs.Ytfiblhdejglpaaa

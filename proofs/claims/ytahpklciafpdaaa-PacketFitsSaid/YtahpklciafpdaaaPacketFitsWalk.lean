/- PacketFits: the walk of the law. Conditions: none but what the row reads. -/
import Derived.Test.YtahpklciafpdaaaPacketShortWalk
import Derived.Test.YtahpklciafpdaaaPktLarge
import Derived.Test.YtahpklciafpdaaaPktRefFits
import Derived.Test.YtahpklciafpdaaaPktOpen
import Derived.Test.YtahpklciafpdaaaBaseE
set_option linter.unusedSimpArgs false
set_option linter.unusedVariables false
namespace Go.Proofs.Ytahpklciafpdaaa
open Go.RowKit Go.FL Go.ChangeShapes

set_option maxRecDepth 100000 in
set_option maxHeartbeats 2000000 in
theorem packetFits_walk {w : World} {v : Value} (p : Pkt) (h : PktAt w v p) {u : Value} (c : Chk) (k : ChkAt w u c) (mtu : Int) (hmtu : (Lit.int .i64 mtu).wf = true) :
    Calls Try.prog 9 #[v, u, .int .i64 mtu] w fun e w' => e = .returned (.bool true) ∧ Below w.heap.size w w' := by
  clear hmtu
  obtain ⟨sl, rfl, hcs, ht⟩ := h
  obtain ⟨s, rfl, hrs⟩ := k
  obtain ⟨tg, cs⟩ := p
  simp only at *
  obtain ⟨q, cp, rfl, hle, hcm, -⟩ := id hcs
  obtain ⟨ps, cps, rfl, hslc, hscm, -⟩ := id hrs
  unfold maxLen at hcm hscm
  obtain ⟨n, hnn⟩ : ∃ n, n = cs.length := ⟨_, rfl⟩
  obtain ⟨nb, hnb⟩ : ∃ n, n = c.b.length := ⟨_, rfl⟩
  have HN := hid hnn
  have HNB := hid hnb
  have HTG := hid ht
  rw [← hnn] at hle
  rw [← hnb] at hslc
  rw [show (Value.slice q cs.length cp) = .slice q n cp by rw [hnn]] at hcs ⊢
  rw [show (Value.slice ps c.b.length cps) = .slice ps nb cps by rw [hnb]] at hrs ⊢
  obtain ⟨W0, hW0⟩ : ∃ W, W = w.alloc (.cells #[.int .u32 (tg : Int), .slice q n cp] 25 (0, 0)) := ⟨_, rfl⟩
  have hs0 : W0.heap.size = w.heap.size + 1 := by rw [hW0]; simp
  obtain ⟨W, hW⟩ : ∃ W, W = W0.alloc (.cells #[.int .u8 (c.k.toNat : Int), .int .u8 (c.f.toNat : Int), .slice ps nb cps] 41 (0, 0)) := ⟨_, rfl⟩
  have HP := hid (show RowV W w.heap.size 25 [.int .u32 (tg : Int), .slice q n cp] by rw [hW, hW0]; exact (RowV.new w _ _).alloc _)
  have HC := hid (show RowV W (w.heap.size + 1) 41 [.int .u8 (c.k.toNat : Int), .int .u8 (c.f.toNat : Int), .slice ps nb cps] by rw [hW, ← hs0]; exact RowV.new W0 _ _)
  have G0 := hid (show Below w.heap.size w W by rw [hW, hW0]; exact ((Below.refl _ _).alloc (Nat.le_refl _) _).alloc (by simp) _)
  have HAT := hid (hcs.mono G0.out)
  have HRS := hid (hrs.mono G0.out)
  obtain ⟨fb, hfb⟩ : ∃ b, fitsB ⟨tg, cs⟩ c mtu = b := ⟨_, rfl⟩
  have HFB := hid hfb
  obtain ⟨ab, hab⟩ : ∃ b, aloneB c.k = b := ⟨_, rfl⟩
  have HAB := hid hab
  clear hfb hab hcs hrs hnn hnb ht
  rw [hW0] at hW
  have k0 := HC.out.at 0 (by simp)
  have k1 := HC.out.at 1 (by simp)
  have k2 := HC.out.at 2 (by simp)
  have p0 := HP.out.at 0 (by simp)
  have p1 := HP.out.at 1 (by simp)
  simp only [List.getElem_cons_succ, List.getElem_cons_zero] at k0 k1 k2 p0 p1
  rw [hW] at k0 k1 k2 p0 p1
  have HE := hid hW
  clear hW hW0 hs0 W0
  go_enter Try.func9, Try.ntmps9
  go_wp2_with fail
  rw [← HE.out]
  clear k0 k1 k2 p0 p1
  refine (large_any ⟨tg, cs⟩ _ _ ⟨_, rfl, HAT.out, HTG.out⟩).mono ?_
  rintro e w1 ⟨lg, rfl, hsm, hb1⟩
  have G1 := hid (gr_trans G0.out hb1)
  have HP1 := hid (HP.out.mono hb1)
  have HC1 := hid (HC.out.mono hb1)
  have HAT1 := hid (HAT.out.mono hb1)
  have HRS1 := hid (HRS.out.mono hb1)
  have HSM := hid hsm
  clear hb1 hsm
  have k0 := HC1.out.at 0 (by simp)
  have k1 := HC1.out.at 1 (by simp)
  have k2 := HC1.out.at 2 (by simp)
  simp only [List.getElem_cons_succ, List.getElem_cons_zero] at k0 k1 k2
  have HK0 := hid k0
  cases lg
  · have HS := HSM.out rfl
    have HN6 := hid (show (⟨tg, cs⟩ : Pkt).cs.length ≤ 1000000 by have := HS.1; omega)
    have HSZ := hid (show sizesN (⟨tg, cs⟩ : Pkt).cs ≤ 10000000000 by have := HS.2.2; omega)
    clear HS
    by_cases hl : 262144 < nb
    · have e1 : (262144 : Int) < (nb : Int) := by omega
      go_wp2_with fail
      refine (works_any _).mono ?_
      rintro e w2 ⟨rfl, hb2⟩
      have G2 := hid (gr_trans G1.out hb2)
      clear hb2
      go_wp2_with fail
      go_ret
      exact ⟨rfl, G2.out⟩
    · have e1 : ¬ (262144 : Int) < (nb : Int) := by omega
      have HCB := hid (show c.b.length ≤ 10000000000 by rw [← HNB.out]; omega)
      go_wp2_with fail
      clear k0 k1 k2
      refine wp_region_gr [Is (.agg ([.int .u32 (tg : Int), .slice q n cp]).toArray), Is (.agg ([.int .u8 (c.k.toNat : Int), .int .u8 (c.f.toNat : Int), .slice ps nb cps]).toArray), Is (.int .i64 mtu), Is (.bool fb), Is (.agg ([.int .u32 (tg : Int), .slice q n cp]).toArray), Is (.agg ([.int .u8 (c.k.toNat : Int), .int .u8 (c.f.toNat : Int), .slice ps nb cps]).toArray), Is (.int .i64 mtu), Is (.bool fb), Is (.bool true), Is (.bool true), Is (.pointer (some ⟨w.heap.size + 1, 0, none⟩)), Is (.int .u8 (c.k.toNat : Int)), Is (.bool ab), Is (.pointer (some ⟨w.heap.size + 1, 0, none⟩)), Is (.int .u8 (c.k.toNat : Int)), Is (.bool ab), Is (.bool true), Is (.bool true), Is (.bool true), Is (.bool true), Is (.bool true), Is (.bool true)] (by kernel_rfl) (by kernel_rfl) (by kernel_rfl) ?_ ?_ ?_
      · simp only [StabAll, Is.gr, RdF.gr, OwnF.gr, AnyF.gr, and_self]
      · rename_i Kk hKk; clear hKk Kk
        simp only [AllOps, List.map_cons, List.map_nil, depsOf, List.filterMap_cons, List.filterMap_nil, Region.binds, depFacts, guardF, reduceIte, List.getD_eq_getElem?_getD, List.getElem?_cons_succ, List.getElem?_cons_zero, Option.getD_some, factAt, and_true]
        refine ⟨?_, ?_, ?_, ?_, ?_, ?_, ?_, ?_, ?_, ?_, ?_, ?_, ?_, ?_, ?_, ?_, ?_, ?_, ?_, ?_, ?_, ?_⟩
        all_goals intro ρ wv hρ hR hd
        all_goals try simp only [Is] at hd
        · exact opOk_loadRow rfl (w.heap.size) (by first | exact hρ.2 _ rfl | simp [hd]) _ ([.int .u32 (tg : Int), .slice q n cp]) _ (HP1.out.mono hR) Try.underlying25 rfl (by kernel_rfl) ⟨rfl, GrR.refl _⟩
        · exact opOk_loadRow rfl (w.heap.size + 1) (by first | exact hρ.2 _ rfl | simp [hd]) _ ([.int .u8 (c.k.toNat : Int), .int .u8 (c.f.toNat : Int), .slice ps nb cps]) _ (HC1.out.mono hR) Try.underlying41 rfl (by kernel_rfl) ⟨rfl, GrR.refl _⟩
        · exact opOk_move (.inl rfl) ⟨by simp only [Is]; (first | exact hρ.2 2 rfl | exact hd | exact hd.1 | exact hd.2 | simp [hd]), GrR.refl _⟩
        · exact opOk_call hρ.1 rfl rfl Try.func27 (by kernel_rfl) rfl (by simp [hd, hρ.1.const, hρ.1.func]) ((fits_any ⟨tg, cs⟩ c mtu (.agg #[.int .u32 (tg : Int), .slice q n cp]) (.agg #[.int .u8 (c.k.toNat : Int), .int .u8 (c.f.toNat : Int), .slice ps nb cps]) wv ⟨_, rfl, HAT1.out.mono hR, HTG.out⟩ ⟨_, rfl, HRS1.out.mono hR⟩ HN6.out (Nat.le_trans HSZ.out (by decide)) (Nat.le_trans HCB.out (by decide))).mono fun e w' ⟨h1, h2⟩ => ⟨_, h1, by rw [HFB.out]; rfl, h2⟩)
        · exact opOk_loadRow rfl (w.heap.size) (by first | exact hρ.2 _ rfl | simp [hd]) _ ([.int .u32 (tg : Int), .slice q n cp]) _ (HP1.out.mono hR) Try.underlying25 rfl (by kernel_rfl) ⟨rfl, GrR.refl _⟩
        · exact opOk_loadRow rfl (w.heap.size + 1) (by first | exact hρ.2 _ rfl | simp [hd]) _ ([.int .u8 (c.k.toNat : Int), .int .u8 (c.f.toNat : Int), .slice ps nb cps]) _ (HC1.out.mono hR) Try.underlying41 rfl (by kernel_rfl) ⟨rfl, GrR.refl _⟩
        · exact opOk_move (.inl rfl) ⟨by simp only [Is]; (first | exact hρ.2 2 rfl | exact hd | exact hd.1 | exact hd.2 | simp [hd]), GrR.refl _⟩
        · exact opOk_call hρ.1 rfl rfl Try.func28 (by kernel_rfl) rfl (by simp [hd, hρ.1.const, hρ.1.func]) ((rfits_any ⟨tg, cs⟩ c mtu (.agg #[.int .u32 (tg : Int), .slice q n cp]) (.agg #[.int .u8 (c.k.toNat : Int), .int .u8 (c.f.toNat : Int), .slice ps nb cps]) wv ⟨_, rfl, HAT1.out.mono hR, HTG.out⟩ ⟨_, rfl, HRS1.out.mono hR⟩ HN6.out HSZ.out HCB.out).mono fun e w' ⟨h1, h2⟩ => ⟨_, h1, by rw [HFB.out]; rfl, h2⟩)
        · exact opOk_val (v := .bool true) (w' := wv) (by simp [execOp, go_sem, hρ.1.const, hρ.1.func, hd]) ⟨rfl, GrR.refl _⟩
        · exact opOk_move (.inl rfl) ⟨by simp only [Is]; (first | exact hρ.2 24 rfl | exact hd | exact hd.1 | exact hd.2 | simp [hd]), GrR.refl _⟩
        · refine ⟨fun _ => ?_, fun hg => absurd (by simp [hd]) hg⟩; exact opOk_val (v := .pointer (some ⟨w.heap.size + 1, 0, none⟩)) (w' := wv) (by simp [execOp, go_sem, hρ.1.const, hρ.1.func, hd, (hρ.2 4 rfl)]) ⟨rfl, GrR.refl _⟩
        · refine ⟨fun _ => ?_, fun hg => absurd (by simp [hd]) hg⟩; (have h0 := cell?_of_below hR HK0.out; exact opOk_val (v := .int .u8 (c.k.toNat : Int)) (w' := wv) (by simp [execOp, go_sem, hd, h0]) ⟨rfl, GrR.refl _⟩)
        · refine ⟨fun _ => ?_, fun hg => absurd (by simp [hd]) hg⟩; exact opOk_call hρ.1 rfl rfl Try.func29 (by kernel_rfl) rfl (by simp [hd, hρ.1.const, hρ.1.func]) ((alone_any c.k wv).mono fun e w' ⟨h1, h2⟩ => ⟨_, h1, by rw [HAB.out]; rfl, h2 ▸ GrR.refl _⟩)
        · refine ⟨fun _ => ?_, fun hg => absurd (by simp [hd]) hg⟩; exact opOk_val (v := .pointer (some ⟨w.heap.size + 1, 0, none⟩)) (w' := wv) (by simp [execOp, go_sem, hρ.1.const, hρ.1.func, hd, (hρ.2 4 rfl)]) ⟨rfl, GrR.refl _⟩
        · refine ⟨fun _ => ?_, fun hg => absurd (by simp [hd]) hg⟩; (have h0 := cell?_of_below hR HK0.out; exact opOk_val (v := .int .u8 (c.k.toNat : Int)) (w' := wv) (by simp [execOp, go_sem, hd, h0]) ⟨rfl, GrR.refl _⟩)
        · refine ⟨fun _ => ?_, fun hg => absurd (by simp [hd]) hg⟩; exact opOk_call hρ.1 rfl rfl Try.func30 (by kernel_rfl) rfl (by simp [hd, hρ.1.const, hρ.1.func]) ((ralone_any c.k wv).mono fun e w' ⟨h1, h2⟩ => ⟨_, h1, by rw [HAB.out]; rfl, h2 ▸ GrR.refl _⟩)
        · refine ⟨fun _ => ?_, fun hg => absurd (by simp [hd]) hg⟩; exact opOk_val (v := .bool true) (w' := wv) (by simp [execOp, go_sem, hρ.1.const, hρ.1.func, hd]) ⟨rfl, GrR.refl _⟩
        · exact opOk_val (v := .bool true) (w' := wv) (by simp [execOp, go_sem, hρ.1.const, hρ.1.func, hd]) ⟨rfl, GrR.refl _⟩
        · exact opOk_move (.inl rfl) ⟨by simp only [Is]; (first | exact hρ.2 33 rfl | exact hd | exact hd.1 | exact hd.2 | simp [hd]), GrR.refl _⟩
        · refine ⟨fun _ => ?_, fun hg => absurd (by simp [hd]) hg⟩; exact opOk_call hρ.1 rfl rfl Try.func12 (by kernel_rfl) rfl (by simp [hd, hρ.1.const, hρ.1.func]) ((works_any _).mono fun e w' ⟨h1, h2⟩ => ⟨_, h1, rfl, h2⟩)
        · exact opOk_val (v := .bool true) (w' := wv) (by simp [execOp, go_sem, hρ.1.const, hρ.1.func, hd]) ⟨rfl, GrR.refl _⟩
        · exact opOk_move (.inr rfl) ⟨by simp only [Is]; (first | exact hρ.2 36 rfl | exact hd | exact hd.1 | exact hd.2 | simp [hd]), GrR.refl _⟩
      · intro vals wv hR hall
        have h21 := hall 21 (by simp)
        simp only [factAt, Is, List.getD_eq_getElem?_getD, List.getElem?_cons_succ, List.getElem?_cons_zero, Option.getD_some] at h21
        clear hall
        simp only [fillFrom, Act.put, h21, List.setIfInBounds_toArray, List.set_cons_zero, List.set_cons_succ]
        rename_i Kk hKk
        refine hKk _ _ ?_
        clear hKk Kk h21
        have GF := hid (gr_trans G1.out hR)
        clear hR
        go_wp2_with fail
        go_ret
        exact ⟨rfl, GF.out⟩
  · go_wp2_with fail
    refine (works_any _).mono ?_
    rintro e w2 ⟨rfl, hb2⟩
    have G2 := hid (gr_trans G1.out hb2)
    clear hb2
    go_wp2_with fail
    go_ret
    exact ⟨rfl, G2.out⟩
end Go.Proofs.Ytahpklciafpdaaa

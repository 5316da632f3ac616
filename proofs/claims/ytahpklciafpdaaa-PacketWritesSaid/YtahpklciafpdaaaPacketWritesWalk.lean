/- PacketWrites: the walk of the law. Conditions: none but what the row reads. -/
import Derived.Test.YtahpklciafpdaaaPktWorks
import Derived.Test.YtahpklciafpdaaaPktLarge
import Derived.Test.YtahpklciafpdaaaPktOpen
import Derived.Test.YtahpklciafpdaaaPktBackM
import Derived.Test.YtahpklciafpdaaaPktRefW
import Derived.Test.YtahpklciafpdaaaPktCopy
import Derived.Test.YtahpklciafpdaaaApart
set_option linter.unusedSimpArgs false
set_option linter.unusedVariables false
namespace Go.Proofs.Ytahpklciafpdaaa
open Go.RowKit Go.FL Go.ChangeShapes

/-- Two rows in two rooms, one above the other. -/
theorem apart2 {v v1 v2 : Value} {l1 l2 : List UInt8} {b1 b2 : Nat} {w w1 w2 : World} (hv : RdV w v [v1, v2])
    (h1 : Go.FL.Own w1 b1 5 v1 l1) (h2 : Go.FL.Own w2 b2 5 v2 l2) (g1 : Below w1.heap.size w1 w) (g2 : Below w2.heap.size w2 w) (e1 : w1.heap.size ≤ b2) :
    Calls Try.prog 20 #[v] w fun e w' => e = .returned (.bool true) ∧ Below w.heap.size w w' := by
  obtain ⟨r1, q1, _, y1, z1⟩ := h1.arow
  obtain ⟨r2, q2, _, y2, z2⟩ := h2.arow
  have f12 : r1.far r2 := far_of (B := b2) (fun g hg => Nat.lt_of_lt_of_le (z1 g hg).2 e1) (fun g hg => (z2 g hg).1)
  refine apart_any v [r1, r2] w (by simpa [q1, q2] using hv) (rows_lie ?_) (rows_far ?_) (by simp)
  · intro r hr
    simp at hr
    rcases hr with rfl | rfl
    · exact y1.mono g1
    · exact y2.mono g2
  · simp [f12]

set_option maxRecDepth 100000 in
set_option maxHeartbeats 4000000 in
theorem packetWrites_walk {w : World} {v : Value} (p : Pkt) (hp : PktAt w v p) :
    Calls Try.prog 3 #[v] w fun e w' => e = .returned (.bool true) ∧ Below w.heap.size w w' := by
  obtain ⟨s, hs, hcs, ht⟩ := id hp
  obtain ⟨q, cp, hsl, hlc, hcm, -⟩ := id hcs
  subst hsl
  subst hs
  unfold maxLen at hcm
  obtain ⟨n, hn⟩ : ∃ n, n = p.cs.length := ⟨_, rfl⟩
  have HN := hid hn
  rw [← hn] at hp hcs hlc ⊢
  obtain ⟨tg, htg⟩ : ∃ n, n = p.tag := ⟨_, rfl⟩
  have HTG := hid htg
  rw [← htg] at hp ⊢
  obtain ⟨W, hW⟩ : ∃ W, W = w.alloc (.cells #[.int .u32 (tg : Int), .slice q n cp] 25 (0, 0)) := ⟨_, rfl⟩
  have HR := hid (show RowV W w.heap.size 25 [.int .u32 (tg : Int), .slice q n cp] by rw [hW]; exact RowV.new w _ _)
  have G := hid (show Below w.heap.size w W by rw [hW]; exact (Below.refl _ _).alloc (Nat.le_refl _) _)
  have HP := hid (hp.mono G.out)
  have a0 := HR.out.at 0 (by simp)
  have a1 := HR.out.at 1 (by simp)
  simp only [List.getElem_cons_succ, List.getElem_cons_zero] at a0 a1
  rw [hW] at a0 a1
  have HE := hid hW
  clear hW hp hcs hn htg ht
  go_enter Try.func3, Try.ntmps3
  go_wp2_with fail
  rw [← HE.out]
  clear a0 a1
  refine (large_any p _ _ HP.out).mono ?_
  rintro e w1 ⟨lg, rfl, hsm, hb1⟩
  have G1 := hid (gr_trans G.out hb1)
  have HR1 := hid (HR.out.mono hb1)
  have HP1 := hid (HP.out.mono hb1)
  have HSM := hid hsm
  clear hb1 hsm
  cases lg
  · have HS := hid (HSM.out rfl)
    have HBL := hid (show sizesN p.cs ≤ 140000 from HS.out.2.2)
    obtain ⟨wb, hwb⟩ : ∃ x, x = p.bytes := ⟨_, rfl⟩
    have HWB := hid hwb
    obtain ⟨nb, hnb⟩ : ∃ x, x = wb.length := ⟨_, rfl⟩
    have HNB := hid hnb
    obtain ⟨sz, hsz⟩ : ∃ x, x = p.size := ⟨_, rfl⟩
    have HSZ := hid hsz
    have hcase : nb = 0 ∨ (0 < nb ∧ nb = sz) := by
      cases hm : mayB p.cs
      · exact .inl (by rw [hnb, hwb, Pkt.bytes, if_neg (by rw [hm]; simp)]; rfl)
      · refine .inr ⟨?_, ?_⟩
        · rw [hnb, hwb, Pkt.bytes_length p hm]
          unfold Pkt.size
          omega
        · rw [hnb, hwb, Pkt.bytes_length p hm, hsz]
    clear hwb hnb hsz
    have a0 := HR1.out.at 0 (by simp)
    have a1 := HR1.out.at 1 (by simp)
    simp only [List.getElem_cons_succ, List.getElem_cons_zero] at a0 a1
    go_wp2_with fail
    clear a0 a1
    refine (rcopy_any p _ _ HP1.out (by have := HS.out.1; omega) (fun c hc => by have := HS.out.2.1 c hc; omega)).mono ?_
    rintro e w2 ⟨v2, rfl, ⟨s2, rfl, hc2, ht2⟩, hb2⟩
    obtain ⟨up, uc, rfl⟩ : ∃ up uc, s2 = .slice up n uc := by
      obtain ⟨ss, q1, q2, q3⟩ := hc2
      rw [HN.out]
      exact q2.form
    rw [← HTG.out]
    have GA := hid (show Below w2.heap.size w2 (w2.alloc (.cells #[.int .u32 (tg : Int), .slice up n uc] 25 (0, 0))) from (Below.refl _ _).alloc (Nat.le_refl _) _)
    have HRI := hid (RowV.new w2 25 [.int .u32 (tg : Int), .slice up n uc])
    obtain ⟨W3, hW3⟩ : ∃ W3, W3 = w2.alloc (.cells #[.int .u32 (tg : Int), .slice up n uc] 25 (0, 0)) := ⟨_, rfl⟩
    rw [← hW3] at GA
    have HRI3 := hid (show RowV W3 w2.heap.size 25 [.int .u32 (tg : Int), .slice up n uc] by rw [hW3]; exact HRI.out)
    have HR3 := hid ((HR1.out.mono hb2).mono GA.out)
    have HP3 := hid ((HP1.out.mono hb2).mono GA.out)
    have HI3 := hid (show PktAt W3 (.agg #[.int .u32 (tg : Int), .slice up n uc]) p from ⟨_, by rw [HTG.out], (hc2.at).mono GA.out, ht2⟩)
    have G3 := hid (gr_trans (gr_trans G1.out hb2) GA.out)
    have a0 := HRI3.out.at 0 (by simp)
    have a1 := HRI3.out.at 1 (by simp)
    simp only [List.getElem_cons_succ, List.getElem_cons_zero] at a0 a1
    rw [hW3] at a0 a1
    have HE3 := hid hW3
    clear hb2 hc2 ht2 hW3 HRI
    go_wp2_with fail
    rw [← HE3.out]
    clear a0 a1
    refine (pwrite_any p _ _ HI3.out (by have := HBL.out; omega)).mono ?_
    rw [← HWB.out]
    rintro e w4 ⟨v4, rfl, ho4, hb4⟩
    obtain ⟨p4, c4, rfl⟩ := RdF.form ho4.rd
    have HO4 := hid ho4
    have HR4 := hid (HR3.out.mono hb4)
    have HRI4 := hid (HRI3.out.mono hb4)
    have HP4 := hid (HP3.out.mono hb4)
    have HI4 := hid (HI3.out.mono hb4)
    have G4 := hid (gr_trans G3.out hb4)
    have HW4 := hid hb4.size
    rw [← HNB.out] at HO4 ⊢
    clear hb4 ho4
    have a0 := HRI4.out.at 0 (by simp)
    have a1 := HRI4.out.at 1 (by simp)
    simp only [List.getElem_cons_succ, List.getElem_cons_zero] at a0 a1
    go_wp2_with fail
    clear a0 a1
    refine (psize_any p _ _ HI4.out (by have := HBL.out; omega)).mono ?_
    rw [← HSZ.out]
    rintro e w5 ⟨rfl, hb5⟩
    have HO5 := hid (HO4.out.mono hb5)
    have HR5 := hid (HR4.out.mono hb5)
    have HRI5 := hid (HRI4.out.mono hb5)
    have HP5 := hid (HP4.out.mono hb5)
    have HI5 := hid (HI4.out.mono hb5)
    have G5 := hid (gr_trans G4.out hb5)
    have B5 := hid hb5
    clear hb5
    have a0 := HR5.out.at 0 (by simp)
    have a1 := HR5.out.at 1 (by simp)
    simp only [List.getElem_cons_succ, List.getElem_cons_zero] at a0 a1
    go_wp2_with fail
    clear a0 a1
    refine (refpwrite_any p _ _ HP5.out (by have := HBL.out; omega)).mono ?_
    rw [← HWB.out]
    rintro e w6 ⟨v6, rfl, ho6, hb6⟩
    have HV6 := hid ho6.rd
    have HO6 := hid (HO5.out.mono hb6)
    have HR6 := hid (HR5.out.mono hb6)
    have HRI6 := hid (HRI5.out.mono hb6)
    have HP6 := hid (HP5.out.mono hb6)
    have HI6 := hid (HI5.out.mono hb6)
    have G6 := hid (gr_trans G5.out hb6)
    have B6 := hid (gr_trans B5.out hb6)
    clear hb6 ho6
    go_wp2_with fail
    refine (eqBytes_gr _ _ wb wb _ HO6.out.rd HV6.out).mono ?_
    rw [decide_eq_true rfl]
    rintro e w7 ⟨rfl, hb7⟩
    have HR7 := hid (HR6.out.mono hb7)
    have HRI7 := hid (HRI6.out.mono hb7)
    have HP7 := hid (HP6.out.mono hb7)
    have HI7 := hid (HI6.out.mono hb7)
    have G7 := hid (gr_trans G6.out hb7)
    have B7 := hid (gr_trans B6.out hb7)
    clear hb7
    have a0 := HR7.out.at 0 (by simp)
    have a1 := HR7.out.at 1 (by simp)
    simp only [List.getElem_cons_succ, List.getElem_cons_zero] at a0 a1
    go_wp2_with fail
    clear a0 a1
    refine (rsize_any p _ _ HP7.out (by have := HBL.out; omega)).mono ?_
    rw [← HSZ.out]
    rintro e w8 ⟨rfl, hb8⟩
    have HR8 := hid (HR7.out.mono hb8)
    have HRI8 := hid (HRI7.out.mono hb8)
    have HP8 := hid (HP7.out.mono hb8)
    have HI8 := hid (HI7.out.mono hb8)
    have G8 := hid (gr_trans G7.out hb8)
    have B8 := hid (gr_trans B7.out hb8)
    have e8 : ((sz : Int) != (sz : Int)) = false := by simp
    clear hb8
    have a0 := HR8.out.at 0 (by simp)
    have a1 := HR8.out.at 1 (by simp)
    simp only [List.getElem_cons_succ, List.getElem_cons_zero] at a0 a1
    have b0 := HRI8.out.at 0 (by simp)
    have b1 := HRI8.out.at 1 (by simp)
    simp only [List.getElem_cons_succ, List.getElem_cons_zero] at b0 b1
    go_wp2_with fail
    clear a0 a1 b0 b1 e8
    refine (rsame_yes p _ _ _ HI8.out HP8.out).mono ?_
    rintro e w9 ⟨rfl, hb9⟩
    have HRI9 := hid (HRI8.out.mono hb9)
    have HI9 := hid (HI8.out.mono hb9)
    have G9 := hid (gr_trans G8.out hb9)
    have B9 := hid (gr_trans B8.out hb9)
    have HO9 := hid (HO4.out.mono B9.out)
    clear hb9
    have a0 := HRI9.out.at 0 (by simp)
    have a1 := HRI9.out.at 1 (by simp)
    simp only [List.getElem_cons_succ, List.getElem_cons_zero] at a0 a1
    rcases hcase with h0 | ⟨hpos, hns⟩
    · subst h0
      go_wp2_with fail
      clear a0 a1
      refine (pwrite_any p _ _ HI9.out (by have := HBL.out; omega)).mono ?_
      rw [← HWB.out]
      rintro e w10 ⟨v10, rfl, ho10, hb10⟩
      obtain ⟨p10, c10, rfl⟩ := RdF.form ho10.rd
      have HO10 := hid ho10
      have G10 := hid (gr_trans G9.out hb10)
      have B10 := hid (gr_trans B9.out hb10)
      have HSZW := hid B9.out.size
      rw [← HNB.out] at HO10 ⊢
      clear hb10 ho10
      obtain ⟨W11, hW11⟩ : ∃ W11, W11 = w10.alloc (.cells #[.slice p4 0 c4, .slice p10 0 c10] 29 (0, 0)) := ⟨_, rfl⟩
      have HV11 := hid (show RdV W11 (.slice (some ⟨w10.heap.size, 0, none⟩) 2 2) [.slice p4 0 c4, .slice p10 0 c10] by rw [hW11]; exact rdV_new w10 29 [.slice p4 0 c4, .slice p10 0 c10] 2 _ rfl rfl (by unfold maxLen; omega))
      have B11 := hid (show Below w10.heap.size w10 W11 by rw [hW11]; exact (Below.refl _ _).alloc (Nat.le_refl _) _)
      have HE11 := hid hW11
      clear hW11
      go_wp2_with fail
      rw [← HE11.out]
      refine (apart2 HV11.out HO4.out HO10.out (gr_trans B10.out B11.out) B11.out HSZW.out).mono ?_
      rintro e w12 ⟨rfl, hb12⟩
      have G12 := hid (gr_trans (gr_trans G10.out B11.out) hb12)
      clear hb12
      go_wp2_with fail
      refine (works_any _).mono ?_
      rintro e w13 ⟨rfl, hb13⟩
      have G13 := hid (gr_trans G12.out hb13)
      clear hb13
      go_wp2_with fail
      go_ret
      exact ⟨rfl, G13.out⟩
    · subst hns
      have i0 : (0 : Int) < (nb : Int) := by omega
      have e9 : ((nb : Int) != (nb : Int)) = false := by simp
      go_wp2_with fail
      clear e9
      clear a0 a1
      refine (pwrite_any p _ _ HI9.out (by have := HBL.out; omega)).mono ?_
      rw [← HWB.out]
      rintro e w10 ⟨v10, rfl, ho10, hb10⟩
      obtain ⟨p10, c10, rfl⟩ := RdF.form ho10.rd
      have HO10 := hid ho10
      have G10 := hid (gr_trans G9.out hb10)
      have B10 := hid (gr_trans B9.out hb10)
      have HSZW := hid B9.out.size
      rw [← HNB.out] at HO10 ⊢
      clear hb10 ho10
      obtain ⟨W11, hW11⟩ : ∃ W11, W11 = w10.alloc (.cells #[.slice p4 nb c4, .slice p10 nb c10] 29 (0, 0)) := ⟨_, rfl⟩
      have HV11 := hid (show RdV W11 (.slice (some ⟨w10.heap.size, 0, none⟩) 2 2) [.slice p4 nb c4, .slice p10 nb c10] by rw [hW11]; exact rdV_new w10 29 [.slice p4 nb c4, .slice p10 nb c10] 2 _ rfl rfl (by unfold maxLen; omega))
      have B11 := hid (show Below w10.heap.size w10 W11 by rw [hW11]; exact (Below.refl _ _).alloc (Nat.le_refl _) _)
      have HE11 := hid hW11
      clear hW11
      go_wp2_with fail
      rw [← HE11.out]
      refine (apart2 HV11.out HO4.out HO10.out (gr_trans B10.out B11.out) B11.out HSZW.out).mono ?_
      rintro e w12 ⟨rfl, hb12⟩
      have G12 := hid (gr_trans (gr_trans G10.out B11.out) hb12)
      clear hb12
      go_wp2_with fail
      refine (works_any _).mono ?_
      rintro e w13 ⟨rfl, hb13⟩
      have G13 := hid (gr_trans G12.out hb13)
      clear hb13
      go_wp2_with fail
      go_ret
      exact ⟨rfl, G13.out⟩
  · go_wp2_with fail
    refine (works_any _).mono ?_
    rintro e w2 ⟨rfl, hb2⟩
    have G2 := hid (gr_trans G1.out hb2)
    clear hb2
    go_wp2_with fail
    go_ret
    exact ⟨rfl, G2.out⟩
end Go.Proofs.Ytahpklciafpdaaa

/- PacketBack: the walk of the law. Conditions: none but what the row reads. -/
import Derived.Test.YtahpklciafpdaaaPktWorks
import Derived.Test.YtahpklciafpdaaaPktLarge
import Derived.Test.YtahpklciafpdaaaPktOpen
import Derived.Test.YtahpklciafpdaaaPktBackM
set_option linter.unusedSimpArgs false
set_option linter.unusedVariables false
namespace Go.Proofs.Ytahpklciafpdaaa
open Go.RowKit Go.FL Go.ChangeShapes

set_option maxRecDepth 100000 in
set_option maxHeartbeats 4000000 in
theorem packetBack_walk {w : World} {v u : Value} (p : Pkt) (hp : PktAt w v p) (l : List UInt8) (hu : Rd w u l) :
    Calls Try.prog 5 #[v, u] w fun e w' => e = .returned (.bool true) ∧ Below w.heap.size w w' := by
  have HU := hid hu
  obtain ⟨pu, cu, rfl, hlcu, hcmu, -, -⟩ := hu
  unfold maxLen at hcmu
  obtain ⟨s, hs, hcs, ht⟩ := id hp
  obtain ⟨q, cp, hsl, hlc, hcm, -⟩ := id hcs
  subst hsl
  subst hs
  unfold maxLen at hcm
  obtain ⟨n, hn⟩ : ∃ n, n = p.cs.length := ⟨_, rfl⟩
  have HN := hid hn
  rw [← hn] at hp hcs hlc ⊢
  obtain ⟨tg, htg⟩ : ∃ n, n = p.tag := ⟨_, rfl⟩
  rw [← htg] at hp ⊢
  obtain ⟨W, hW⟩ : ∃ W, W = w.alloc (.cells #[.int .u32 (tg : Int), .slice q n cp] 25 (0, 0)) := ⟨_, rfl⟩
  have HR := hid (show RowV W w.heap.size 25 [.int .u32 (tg : Int), .slice q n cp] by rw [hW]; exact RowV.new w _ _)
  have G := hid (show Below w.heap.size w W by rw [hW]; exact (Below.refl _ _).alloc (Nat.le_refl _) _)
  have HP := hid (hp.mono G.out)
  have a0 := HR.out.at 0 (by simp)
  have a1 := HR.out.at 1 (by simp)
  simp only [List.getElem_cons_succ, List.getElem_cons_zero] at a0 a1
  rw [hW] at a0 a1
  have HE := hid hW
  have HT := hid ht
  clear hW hp hcs hn htg ht
  go_enter Try.func5, Try.ntmps5
  go_wp2_with fail
  rw [← HE.out]
  clear a0 a1
  refine (large_any p _ _ HP.out).mono ?_
  rintro e w1 ⟨lg, rfl, hsm, hb1⟩
  have G1 := hid (gr_trans G.out hb1)
  have HR1 := hid (HR.out.mono hb1)
  have HP1 := hid (HP.out.mono hb1)
  have HSM := hid hsm
  clear hb1 hsm
  cases lg
  · have HS := hid (HSM.out rfl)
    by_cases hbig : 16384 < l.length
    · have e1 : (16384 : Int) < (l.length : Int) := by omega
      go_wp2_with fail
      refine (works_any _).mono ?_
      rintro e w2 ⟨rfl, hb2⟩
      have G2 := hid (gr_trans G1.out hb2)
      clear hb2
      go_wp2_with fail
      go_ret
      exact ⟨rfl, G2.out⟩
    · have e1 : ¬ (16384 : Int) < (l.length : Int) := by omega
      have a0 := HR1.out.at 0 (by simp)
      have a1 := HR1.out.at 1 (by simp)
      simp only [List.getElem_cons_succ, List.getElem_cons_zero] at a0 a1
      have hBL : sizesN p.cs ≤ 140000 := HS.out.2.2
      have HBL := hid hBL
      obtain ⟨wb, hwb⟩ : ∃ x, x = p.bytes := ⟨_, rfl⟩
      have HWB := hid hwb
      obtain ⟨nb, hnb⟩ : ∃ x, x = wb.length := ⟨_, rfl⟩
      have HNB := hid hnb
      have HCASE := hid (show (mayB p.cs = true ∧ nb = p.size ∧ 0 < nb) ∨ (mayB p.cs = false ∧ nb = 0) by
        cases hm : mayB p.cs
        · exact .inr ⟨rfl, by rw [hnb, hwb, Pkt.bytes, if_neg (by rw [hm]; simp)]; rfl⟩
        · refine .inl ⟨rfl, ?_, ?_⟩
          · rw [hnb, hwb, Pkt.bytes_length p hm]
          · rw [hnb, hwb, Pkt.bytes_length p hm]
            unfold Pkt.size
            omega)
      clear hwb hnb hBL
      go_wp2_with fail
      clear a0 a1
      refine (pwrite_any p _ _ HP1.out (by have := HBL.out; omega)).mono ?_
      rw [← HWB.out]
      rintro e w2 ⟨v2, rfl, ho2, hb2⟩
      have HO2 := hid ho2
      obtain ⟨p2, c2, rfl⟩ := RdF.form ho2.rd
      have G2 := hid (gr_trans G1.out hb2)
      have HR2 := hid (HR1.out.mono hb2)
      have HP2 := hid (HP1.out.mono hb2)
      rw [← HNB.out] at HO2 ⊢
      clear hb2 ho2
      -- the second half, from whatever world
      have HREST := hid (show ∀ w3 : World, Below w.heap.size w w3 → Rd w3 (.slice pu l.length cu) l from fun w3 hb => HU.out.mono hb)
      rcases HCASE.out with ⟨hm, hsz, hpos⟩ | ⟨hm, h0⟩
      · have i0 : (0 : Int) < (nb : Int) := by omega
        have HRD := hid (show readP wb = (p, 0) by rw [HWB.out]; exact readP_bytes p HT.out hm)
        have HSZ := hid hsz
        have hmd : nb % 4 = 0 := by rw [hsz]; exact p.size_mod
        have htm : Int.tmod (nb : Int) 4 = 0 := by
          rw [Int.tmod_eq_emod_of_nonneg (by omega)]
          omega
        clear hsz hpos hm hmd
        go_wp2_with fail
        refine (pread_any _ wb _ HO2.out.rd (by rw [← HNB.out, HSZ.out]; unfold Pkt.size; have := HBL.out; omega)).mono ?_
        rw [HRD.out]
        rintro e w3 ⟨v3, rfl, ⟨s3, rfl, hc3, ht3⟩, hb3⟩
        obtain ⟨up, uc, rfl⟩ : ∃ up uc, s3 = .slice up p.cs.length uc := by
          obtain ⟨ss, q1, q2, q3⟩ := hc3
          exact q2.form
        have GA := hid (show Below w3.heap.size w3 (w3.alloc (.cells #[.int .u32 (p.tag : Int), .slice up p.cs.length uc] 25 (0, 0))) from (Below.refl _ _).alloc (Nat.le_refl _) _)
        have HR4 := hid ((HR2.out.mono hb3).mono GA.out)
        have HP4 := hid ((HP2.out.mono hb3).mono GA.out)
        have HQ4 := hid (show PktAt _ (.agg #[.int .u32 (p.tag : Int), .slice up p.cs.length uc]) p from ⟨_, rfl, (hc3.at).mono GA.out, ht3⟩)
        have G4 := hid (gr_trans (gr_trans G2.out hb3) GA.out)
        obtain ⟨W4, hW4⟩ : ∃ W4, W4 = w3.alloc (.cells #[.int .u32 (p.tag : Int), .slice up p.cs.length uc] 25 (0, 0)) := ⟨_, rfl⟩
        rw [← hW4] at GA HR4 HP4 HQ4 G4
        have a0 := HR4.out.at 0 (by simp)
        have a1 := HR4.out.at 1 (by simp)
        simp only [List.getElem_cons_succ, List.getElem_cons_zero] at a0 a1
        rw [hW4] at a0 a1
        have HE4 := hid hW4
        clear hb3 hc3 ht3 hW4
        go_wp2_with fail
        rw [← HE4.out]
        clear a0 a1
        refine (rsame_yes p _ _ _ HP4.out HQ4.out).mono ?_
        rintro e w5 ⟨rfl, hb5⟩
        have HR5 := hid (HR4.out.mono hb5)
        have HP5 := hid (HP4.out.mono hb5)
        have G5 := hid (gr_trans G4.out hb5)
        have a0 := HR5.out.at 0 (by simp)
        have a1 := HR5.out.at 1 (by simp)
        simp only [List.getElem_cons_succ, List.getElem_cons_zero] at a0 a1
        clear hb5
        go_wp2_with fail
        clear a0 a1
        refine (psize_any p _ _ HP5.out (by have := HBL.out; omega)).mono ?_
        rw [← HSZ.out]
        rintro e w6 ⟨rfl, hb6⟩
        have G6 := hid (gr_trans G5.out hb6)
        have e3 : ((nb : Int) != (nb : Int)) = false := by simp
        clear hb6
        go_wp2_with fail
        clear htm e3
        refine (pread_any _ l _ (HREST.out _ G6.out) (by omega)).mono ?_
        rcases readP_cases l with hr | hr | ⟨p9, hr, hb9, ht9, hm9, -⟩
        · rw [hr]
          rintro e w7 ⟨v7, rfl, ⟨s7, rfl, hc7, -⟩, hb7⟩
          obtain ⟨up7, uc7, rfl⟩ : ∃ up uc, s7 = .slice up 0 uc := by
            obtain ⟨ss, q1, q2, q3⟩ := hc7
            exact q2.form
          rw [show ((Pkt.zero.tag : Nat) : Int) = 0 from rfl]
          have HT7 := hid (RowV.new w7 25 [.int .u32 0, .slice up7 0 uc7])
          have G7 := hid ((gr_trans G6.out hb7).alloc (gr_trans G6.out hb7).size (.cells #[.int .u32 0, .slice up7 0 uc7] 25 (0, 0)))
          clear hb7 hc7 hr
          go_wp2_with fail
          refine (works_any _).mono ?_
          rintro e w8 ⟨rfl, hb8⟩
          have G8 := hid (gr_trans G7.out hb8)
          clear hb8
          go_wp2_with fail
          go_ret
          exact ⟨rfl, G8.out⟩
        · rw [hr]
          rintro e w7 ⟨v7, rfl, ⟨s7, rfl, hc7, -⟩, hb7⟩
          obtain ⟨up7, uc7, rfl⟩ : ∃ up uc, s7 = .slice up 0 uc := by
            obtain ⟨ss, q1, q2, q3⟩ := hc7
            exact q2.form
          rw [show ((Pkt.zero.tag : Nat) : Int) = 0 from rfl]
          have HT7 := hid (RowV.new w7 25 [.int .u32 0, .slice up7 0 uc7])
          have G7 := hid ((gr_trans G6.out hb7).alloc (gr_trans G6.out hb7).size (.cells #[.int .u32 0, .slice up7 0 uc7] 25 (0, 0)))
          clear hb7 hc7 hr
          go_wp2_with fail
          refine (works_any _).mono ?_
          rintro e w8 ⟨rfl, hb8⟩
          have G8 := hid (gr_trans G7.out hb8)
          clear hb8
          go_wp2_with fail
          go_ret
          exact ⟨rfl, G8.out⟩
        · rw [hr]
          rintro e w7 ⟨v7, rfl, ⟨s7, rfl, hc7, -⟩, hb7⟩
          obtain ⟨up7, uc7, rfl⟩ : ∃ up uc, s7 = .slice up p9.cs.length uc := by
            obtain ⟨ss, q1, q2, q3⟩ := hc7
            exact q2.form
          obtain ⟨tg9, htg9⟩ : ∃ n, n = p9.tag := ⟨_, rfl⟩
          obtain ⟨n9, hn9⟩ : ∃ n, n = p9.cs.length := ⟨_, rfl⟩
          have GA7 := hid (show Below w7.heap.size w7 (w7.alloc (.cells #[.int .u32 (p9.tag : Int), .slice up7 p9.cs.length uc7] 25 (0, 0))) from (Below.refl _ _).alloc (Nat.le_refl _) _)
          have HQ7 := hid (show PktAt _ (.agg #[.int .u32 (p9.tag : Int), .slice up7 p9.cs.length uc7]) p9 from ⟨_, rfl, (hc7.at).mono GA7.out, ht9⟩)
          have G7 := hid (gr_trans (gr_trans G6.out hb7) GA7.out)
          have HL7 := hid (show sizesN p9.cs ≤ 100000000000 by
            have := Pkt.bytes_length p9 hm9
            rw [hb9] at this
            unfold Pkt.size at this
            omega)
          have HB9 := hid hb9
          have HRN := hid (RowV.new w7 25 [.int .u32 (p9.tag : Int), .slice up7 p9.cs.length uc7])
          rw [← htg9, ← hn9] at GA7 HQ7 G7 HRN ⊢
          clear hb7 hc7 hb9 ht9 hm9 hr htg9 hn9
          go_wp2_with fail
          refine (pwrite_any p9 _ _ HQ7.out HL7.out).mono ?_
          rw [HB9.out]
          rintro e w8 ⟨v8, rfl, ho8, hb8⟩
          have HO8 := hid ho8.rd
          have G8 := hid (gr_trans G7.out hb8)
          clear ho8 hb8
          go_wp2_with fail
          refine (eqBytes_gr _ _ l l _ HO8.out (HREST.out _ G8.out)).mono ?_
          rintro e w9 ⟨rfl, hb9⟩
          rw [decide_eq_true rfl]
          have G9 := hid (gr_trans G8.out hb9)
          clear hb9
          go_wp2_with fail
          refine (works_any _).mono ?_
          rintro e w10 ⟨rfl, hb10⟩
          have G10 := hid (gr_trans G9.out hb10)
          clear hb10
          go_wp2_with fail
          go_ret
          exact ⟨rfl, G10.out⟩
      · obtain rfl : nb = 0 := h0
        have G6 := G2
        clear hm
        go_wp2_with fail
        refine (pread_any _ l _ (HREST.out _ G6.out) (by omega)).mono ?_
        rcases readP_cases l with hr | hr | ⟨p9, hr, hb9, ht9, hm9, -⟩
        · rw [hr]
          rintro e w7 ⟨v7, rfl, ⟨s7, rfl, hc7, -⟩, hb7⟩
          obtain ⟨up7, uc7, rfl⟩ : ∃ up uc, s7 = .slice up 0 uc := by
            obtain ⟨ss, q1, q2, q3⟩ := hc7
            exact q2.form
          rw [show ((Pkt.zero.tag : Nat) : Int) = 0 from rfl]
          have HT7 := hid (RowV.new w7 25 [.int .u32 0, .slice up7 0 uc7])
          have G7 := hid ((gr_trans G6.out hb7).alloc (gr_trans G6.out hb7).size (.cells #[.int .u32 0, .slice up7 0 uc7] 25 (0, 0)))
          clear hb7 hc7 hr
          go_wp2_with fail
          refine (works_any _).mono ?_
          rintro e w8 ⟨rfl, hb8⟩
          have G8 := hid (gr_trans G7.out hb8)
          clear hb8
          go_wp2_with fail
          go_ret
          exact ⟨rfl, G8.out⟩
        · rw [hr]
          rintro e w7 ⟨v7, rfl, ⟨s7, rfl, hc7, -⟩, hb7⟩
          obtain ⟨up7, uc7, rfl⟩ : ∃ up uc, s7 = .slice up 0 uc := by
            obtain ⟨ss, q1, q2, q3⟩ := hc7
            exact q2.form
          rw [show ((Pkt.zero.tag : Nat) : Int) = 0 from rfl]
          have HT7 := hid (RowV.new w7 25 [.int .u32 0, .slice up7 0 uc7])
          have G7 := hid ((gr_trans G6.out hb7).alloc (gr_trans G6.out hb7).size (.cells #[.int .u32 0, .slice up7 0 uc7] 25 (0, 0)))
          clear hb7 hc7 hr
          go_wp2_with fail
          refine (works_any _).mono ?_
          rintro e w8 ⟨rfl, hb8⟩
          have G8 := hid (gr_trans G7.out hb8)
          clear hb8
          go_wp2_with fail
          go_ret
          exact ⟨rfl, G8.out⟩
        · rw [hr]
          rintro e w7 ⟨v7, rfl, ⟨s7, rfl, hc7, -⟩, hb7⟩
          obtain ⟨up7, uc7, rfl⟩ : ∃ up uc, s7 = .slice up p9.cs.length uc := by
            obtain ⟨ss, q1, q2, q3⟩ := hc7
            exact q2.form
          obtain ⟨tg9, htg9⟩ : ∃ n, n = p9.tag := ⟨_, rfl⟩
          obtain ⟨n9, hn9⟩ : ∃ n, n = p9.cs.length := ⟨_, rfl⟩
          have GA7 := hid (show Below w7.heap.size w7 (w7.alloc (.cells #[.int .u32 (p9.tag : Int), .slice up7 p9.cs.length uc7] 25 (0, 0))) from (Below.refl _ _).alloc (Nat.le_refl _) _)
          have HQ7 := hid (show PktAt _ (.agg #[.int .u32 (p9.tag : Int), .slice up7 p9.cs.length uc7]) p9 from ⟨_, rfl, (hc7.at).mono GA7.out, ht9⟩)
          have G7 := hid (gr_trans (gr_trans G6.out hb7) GA7.out)
          have HL7 := hid (show sizesN p9.cs ≤ 100000000000 by
            have := Pkt.bytes_length p9 hm9
            rw [hb9] at this
            unfold Pkt.size at this
            omega)
          have HB9 := hid hb9
          have HRN := hid (RowV.new w7 25 [.int .u32 (p9.tag : Int), .slice up7 p9.cs.length uc7])
          rw [← htg9, ← hn9] at GA7 HQ7 G7 HRN ⊢
          clear hb7 hc7 hb9 ht9 hm9 hr htg9 hn9
          go_wp2_with fail
          refine (pwrite_any p9 _ _ HQ7.out HL7.out).mono ?_
          rw [HB9.out]
          rintro e w8 ⟨v8, rfl, ho8, hb8⟩
          have HO8 := hid ho8.rd
          have G8 := hid (gr_trans G7.out hb8)
          clear ho8 hb8
          go_wp2_with fail
          refine (eqBytes_gr _ _ l l _ HO8.out (HREST.out _ G8.out)).mono ?_
          rintro e w9 ⟨rfl, hb9⟩
          rw [decide_eq_true rfl]
          have G9 := hid (gr_trans G8.out hb9)
          clear hb9
          go_wp2_with fail
          refine (works_any _).mono ?_
          rintro e w10 ⟨rfl, hb10⟩
          have G10 := hid (gr_trans G9.out hb10)
          clear hb10
          go_wp2_with fail
          go_ret
          exact ⟨rfl, G10.out⟩
  · go_wp2_with fail
    refine (works_any _).mono ?_
    rintro e w2 ⟨rfl, hb2⟩
    have G2 := hid (gr_trans G1.out hb2)
    clear hb2
    go_wp2_with fail
    go_ret
    exact ⟨rfl, G2.out⟩
end Go.Proofs.Ytahpklciafpdaaa

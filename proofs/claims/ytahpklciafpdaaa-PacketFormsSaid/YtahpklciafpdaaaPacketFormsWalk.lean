/- PacketForms: the walk of the law. Conditions: none but what the row reads. -/
import Derived.Test.YtahpklciafpdaaaPacketShortWalk
import Derived.Test.YtahpklciafpdaaaPktLarge
import Derived.Test.YtahpklciafpdaaaPktFormM
import Derived.Test.YtahpklciafpdaaaPktTurnOpen
set_option linter.unusedSimpArgs false
set_option linter.unusedVariables false
namespace Go.Proofs.Ytahpklciafpdaaa
open Go.RowKit Go.FL Go.ChangeShapes

set_option maxRecDepth 100000 in
set_option maxHeartbeats 8000000 in
theorem packetForms_walk {w : World} {v : Value} (x : TurnD) (hx : TurnAt w v x) :
    Calls Try.prog 7 #[v] w fun e w' => e = .returned (.bool true) ∧ Below w.heap.size w w' := by
  obtain ⟨s, rfl, hcs, ht, hat⟩ := hx
  obtain ⟨p, at_, V⟩ := x
  simp only at *
  obtain ⟨q, cp, hsl, hlc, hcm, -⟩ := id hcs
  subst hsl
  unfold maxLen at hcm
  obtain ⟨n, hn⟩ : ∃ n, n = p.cs.length := ⟨_, rfl⟩
  rw [← hn] at hcs hlc ⊢
  obtain ⟨tg, htg⟩ : ∃ n, n = p.tag := ⟨_, rfl⟩
  have HTG := hid htg
  have HT := hid ht
  rw [← htg] at ht ⊢
  obtain ⟨W, hW⟩ : ∃ W, W = w.alloc (.cells #[.int .u32 (tg : Int), .slice q n cp, .int .u16 (at_ : Int), .int .u8 (V.toNat : Int)] 50 (0, 0)) := ⟨_, rfl⟩
  have HR := hid (show RowV W w.heap.size 50 [.int .u32 (tg : Int), .slice q n cp, .int .u16 (at_ : Int), .int .u8 (V.toNat : Int)] by rw [hW]; exact RowV.new w _ _)
  have G := hid (show Below w.heap.size w W by rw [hW]; exact (Below.refl _ _).alloc (Nat.le_refl _) _)
  have HP := hid (show PktAt W (.agg #[.int .u32 (tg : Int), .slice q n cp]) p from ⟨_, by rw [HTG.out], hcs.mono G.out, HT.out⟩)
  have a0 := HR.out.at 0 (by simp)
  have a1 := HR.out.at 1 (by simp)
  have a2 := HR.out.at 2 (by simp)
  have a3 := HR.out.at 3 (by simp)
  simp only [List.getElem_cons_succ, List.getElem_cons_zero] at a0 a1 a2 a3
  rw [hW] at a0 a1 a2 a3
  have HE := hid hW
  have hvb := byte_lt V
  clear hW hcs hn htg
  go_enter Try.func7, Try.ntmps7
  go_wp2_with fail
  rw [← HE.out]
  clear a0 a1 a2 a3
  refine (large_any p _ _ HP.out).mono ?_
  rintro e w1 ⟨lg, rfl, hsm, hb1⟩
  have G1 := hid (gr_trans G.out hb1)
  have HR1 := hid (HR.out.mono hb1)
  have HP1 := hid (HP.out.mono hb1)
  have HSM := hid hsm
  clear hb1 hsm
  cases lg
  · have HS := hid (HSM.out rfl)
    have HBL := hid (show sizesN p.cs ≤ 140000 from HS.out.2.2)
    obtain ⟨wb, hwb⟩ : ∃ x, x = p.bytes := ⟨_, rfl⟩
    have HWB := hid hwb
    obtain ⟨nb, hnb⟩ : ∃ x, x = wb.length := ⟨_, rfl⟩
    have HNB := hid hnb
    have hcase : (mayB p.cs = true ∧ 12 ≤ nb ∧ nb ≤ 140012) ∨ nb = 0 := by
      cases hm : mayB p.cs
      · exact .inr (by rw [hnb, hwb, Pkt.bytes, if_neg (by rw [hm]; simp)]; rfl)
      · refine .inl ⟨rfl, ?_, ?_⟩
        · rw [hnb, hwb, Pkt.bytes_length p hm]
          unfold Pkt.size
          omega
        · rw [hnb, hwb, Pkt.bytes_length p hm]
          have := HBL.out
          unfold Pkt.size
          omega
    clear hwb hnb
    have a0 := HR1.out.at 0 (by simp)
    have a1 := HR1.out.at 1 (by simp)
    have a2 := HR1.out.at 2 (by simp)
    have a3 := HR1.out.at 3 (by simp)
    simp only [List.getElem_cons_succ, List.getElem_cons_zero] at a0 a1 a2 a3
    go_wp2_with fail
    clear a0 a1 a2 a3
    refine (pwrite_any p _ _ HP1.out (by have := HBL.out; omega)).mono ?_
    rw [← HWB.out]
    rintro e w2 ⟨v2, rfl, ho2, hb2⟩
    rcases hcase with ⟨hm, h12, hmax⟩ | h0
    · rcases id ho2 with ⟨-, he⟩ | ⟨g, sp, hg, rfl, hrow, hmx⟩
      · have h1 := HNB.out
        rw [he] at h1
        simp at h1
        omega
      rw [← HNB.out] at hmx ⊢
      have HROW := hid (RowV.of_row hrow)
      have HB2 := hid hb2
      have HGE := hid (show w1.heap.size ≤ g from hg)
      have HMX := hid hmx
      have HR2 := hid (HR1.out.mono hb2)
      have HM := hid hm
      have HN12 := hid h12
      have HNM := hid hmax
      clear ho2 hrow hb2 hg hm
      obtain ⟨k, hk⟩ : ∃ k, k = at_ % 8 := ⟨_, rfl⟩
      have hk8 : k < 8 := by omega
      have htm : Int.tmod (at_ : Int) 8 = (k : Int) := by
        rw [Int.tmod_eq_emod_of_nonneg (by omega)]
        omega
      have hwi : IntKind.i64.wrap (at_ : Int) = (at_ : Int) := by rw [IntKind.wrap_i64]; omega
      have HK8 := hid hk8
      have hkl : k < wb.length := by rw [← HNB.out]; omega
      have HKL := hid hkl
      have ck := HROW.out.cell k
      rw [bytesV_at _ _ _ hkl] at ck
      have fk := HROW.out.frozen k
      obtain ⟨ws, hws⟩ : ∃ ws : UInt8, ws = wb[k]'hkl := ⟨_, rfl⟩
      rw [← hws] at ck
      have HSET := hid (show wb.set k ws = wb by rw [hws]; simp)
      have HF := hid (show ∃ tg2, (readP (setSum (wb.set k V)) = if k < 4 ∧ V ≠ ws then (.zero, 7) else (⟨tg2, p.cs⟩, 0)) ∧ (4 ≤ k → (tg2 = p.tag ↔ V = ws)) by
        have hq : ∀ (wb : List UInt8) (hkl : k < wb.length), wb = p.bytes → ∃ tg2, (readP (setSum (wb.set k V)) = if k < 4 ∧ V ≠ wb[k] then (.zero, 7) else (⟨tg2, p.cs⟩, 0)) ∧ (4 ≤ k → (tg2 = p.tag ↔ V = wb[k])) := by
          intro wb hkl e
          subst e
          exact forms_turned p HT.out HM.out k V HK8.out hkl
        rw [hws]
        exact hq wb hkl HWB.out)
      have HF3 := hid (show readP (setSum (wb.take 12)) = (.zero, 7) by rw [HWB.out]; exact forms_head p HM.out)
      have HF4 := hid (show readP (setSum (wb ++ [0, 0, 0])) = (.zero, 7) by rw [HWB.out]; exact forms_tail p HM.out)
      obtain ⟨p12, c12, hsf⟩ := sliced_form (some ⟨g, 0, none⟩) 0 12 (nb + sp.length)
      rw [Nat.sub_zero] at hsf
      have HSF := hid hsf
      have HS12 := hid (show ∀ wx, (Instr.slice 29 (.slice (some ⟨g, 0, none⟩) nb (nb + sp.length)) none (some (.int .i64 12)) none).run Try.prog wx = .ok (.slice p12 12 c12) wx from fun wx => hsf ▸ run_slice_hi (P := Try.prog) 29 5 Try.underlying29 (by kernel_rfl) (some ⟨g, 0, none⟩) nb (nb + sp.length) 12 (by omega) .i64 wx)
      have HROW3 := hid (HROW.out.store k (.int .u8 (V.toNat : Int)))
      rw [bytesV_set _ _ _ _ hkl] at HROW3
      have HB3 := hid (HB2.out.setCell (p := ⟨g, k, none⟩) HGE.out (.int .u8 (V.toNat : Int)))
      have HR3 := hid (HR2.out.other ⟨g, k, none⟩ (.int .u8 (V.toNat : Int)) (by have := HR1.out.lt; have := HGE.out; simp; omega))
      have HV3 := hid (show Rd (w2.setCell ⟨g, k, none⟩ (.int .u8 (V.toNat : Int))) (.slice (some ⟨g, 0, none⟩) nb (nb + sp.length)) (wb.set k V) by
        have := HROW3.out.to_row.rd nb (nb + sp.length) (by rw [List.length_append, List.length_set, ← HNB.out]; omega) (by omega) hmx
        rwa [List.take_left' (by rw [List.length_set]; exact HNB.out.symm)] at this)
      have hwsb := byte_lt ws
      have i0 : ¬ (nb : Int) = 0 := by omega
      have k0 : (0 : Int) ≤ (k : Int) := by omega
      have k1 : (k : Int) < (nb : Int) := by omega
      have k2 : ((k : Int)).toNat = k := by omega
      have a0 := HR2.out.at 0 (by simp)
      have a1 := HR2.out.at 1 (by simp)
      have a2 := HR2.out.at 2 (by simp)
      have a3 := HR2.out.at 3 (by simp)
      simp only [List.getElem_cons_succ, List.getElem_cons_zero] at a0 a1 a2 a3
      clear hk hkl hws hsf hmx
      go_wp2_with fail
      clear ck fk a0 a1 a2 a3
      refine (summed_any _ (wb.set k V) _ HV3.out (by rw [List.length_set, ← HNB.out]; exact HN12.out) (by rw [List.length_set, ← HNB.out]; have := HNM.out; omega)).mono ?_
      rintro e w4 ⟨v4, rfl, ho4, hb4⟩
      have HO4 := hid ho4.rd
      have HB4 := hid (HB3.out.trans (hb4.mono HB3.out.size))
      have HR4 := hid (HR3.out.mono hb4)
      have HROW4 := hid (HROW3.out.mono hb4)
      clear ho4 hb4
      go_wp2_with fail
      refine (pread_any _ _ _ HO4.out (by rw [setSum_length _ (by rw [List.length_set, ← HNB.out]; exact HN12.out), List.length_set, ← HNB.out]; have := HNM.out; omega)).mono ?_
      obtain ⟨tg2, hrd, htq⟩ := HF.out
      rw [hrd]
      clear hrd
      by_cases hq : V = ws
      · have hb : ((V.toNat : Int) == (ws.toNat : Int)) = true := by rw [hq]; simp
        have HTQ := hid htq
        clear htq
        rw [if_neg (by rintro ⟨-, hh⟩; exact hh hq)]
        rintro e w5 ⟨v5, rfl, ⟨s5, rfl, hc5, -⟩, hb5⟩
        obtain ⟨up5, uc5, rfl⟩ : ∃ x y, s5 = .slice x p.cs.length y := by
          obtain ⟨ss, q1, q2, q3⟩ := hc5
          exact q2.form
        simp only
        have hg5 : Below w5.heap.size w5 (w5.alloc (.cells #[.int .u32 (tg2 : Int), .slice up5 p.cs.length uc5] 25 (0, 0))) := (Below.refl _ _).alloc (Nat.le_refl _) _
        have HB6 := hid (HB4.out.trans ((gr_trans hb5 hg5).mono HB4.out.size))
        have HR5 := hid (HR4.out.mono hb5)
        have HR6 := hid (HR5.out.mono hg5)
        have HROW6 := hid (HROW4.out.mono (gr_trans hb5 hg5))
        have HNP := hid (RowV.new w5 25 [.int .u32 (tg2 : Int), .slice up5 p.cs.length uc5])
        have HLT := hid HR5.out.lt
        clear hc5 hb5 hg5
        have a0 := HR6.out.at 0 (by simp)
        have a1 := HR6.out.at 1 (by simp)
        have a2 := HR6.out.at 2 (by simp)
        have a3 := HR6.out.at 3 (by simp)
        simp only [List.getElem_cons_succ, List.getElem_cons_zero] at a0 a1 a2 a3
        by_cases hk4 : k < 4
        · have k4 : (k : Int) < 4 := by omega
          have k5 : ¬ (4 : Int) ≤ (k : Int) := by omega
          clear hk4
          have ck5 := HROW6.out.cell k
          obtain ⟨x5, hx5⟩ : ∃ x5 : UInt8, (bytesV (wb.set k V ++ sp))[k]? = some (.int .u8 (x5.toNat : Int)) := ⟨_, bytesV_at _ _ _ (show k < (wb.set k V).length by rw [List.length_set]; exact HKL.out)⟩
          rw [hx5] at ck5
          clear hx5
          have fk5 := HROW6.out.frozen k
          go_wp2_with fail
          clear ck5 fk5 a0 a1 a2 a3
          have HROW7 := hid (HROW6.out.store k (.int .u8 (ws.toNat : Int)))
          rw [bytesV_set _ _ _ _ (by rw [List.length_set]; exact HKL.out), List.set_set, HSET.out] at HROW7
          have HB7 := hid (HB6.out.setCell (p := ⟨g, k, none⟩) HGE.out (.int .u8 (ws.toNat : Int)))
          have HV7 := hid (show Rd _ (.slice (some ⟨g, 0, none⟩) nb (nb + sp.length)) wb by
            have := HROW7.out.to_row.rd nb (nb + sp.length) (by rw [List.length_append, ← HNB.out]; omega) (by omega) HMX.out
            rwa [List.take_left' HNB.out.symm] at this)
          have HC12 := hid (show Rd _ (.slice (some ⟨g, 0, none⟩) 12 (nb + sp.length)) (wb.take 12) by
            have := HROW7.out.to_row.rd 12 (nb + sp.length) (by rw [List.length_append, ← HNB.out]; have := HN12.out; omega) (by have := HN12.out; omega) HMX.out
            rwa [List.take_append_of_le_length (by rw [← HNB.out]; exact HN12.out)] at this)
          refine (summed_any _ (wb.take 12) _ HC12.out (by rw [List.length_take, ← HNB.out]; have := HN12.out; omega) (by rw [List.length_take]; omega)).mono ?_
          rintro e w8 ⟨v8, rfl, ho8, hb8⟩
          have HO8 := hid ho8.rd
          have HB8 := hid (HB7.out.trans (hb8.mono HB7.out.size))
          have HV8 := hid (HV7.out.mono hb8)
          clear ho8 hb8
          go_wp2_with fail
          refine (pread_any _ _ _ HO8.out (by rw [setSum_length _ (by rw [List.length_take, ← HNB.out]; have := HN12.out; omega), List.length_take]; omega)).mono ?_
          rw [HF3.out]
          rintro e w9 ⟨v9, rfl, ⟨s9, rfl, hc9, -⟩, hb9⟩
          obtain ⟨up9, uc9, rfl⟩ : ∃ x y, s9 = .slice x 0 y := by
            obtain ⟨ss, q1, q2, q3⟩ := hc9
            exact q2.form
          rw [show ((Pkt.zero.tag : Nat) : Int) = 0 from rfl]
          have hg9 : Below w9.heap.size w9 (w9.alloc (.cells #[.int .u32 0, .slice up9 0 uc9] 25 (0, 0))) := (Below.refl _ _).alloc (Nat.le_refl _) _
          have HB9 := hid (HB8.out.trans ((gr_trans hb9 hg9).mono HB8.out.size))
          have HV9 := hid (HV8.out.mono (gr_trans hb9 hg9))
          clear hc9 hb9 hg9
          go_wp2_with fail
          refine (copyBytes_any _ wb _ HV9.out (by rw [← HNB.out]; have := HNM.out; omega)).mono ?_
          rintro e w10 ⟨v10, rfl, ho10, hb10⟩
          have HO10 := hid ho10
          have HSZ10 := hid hb10.size
          have HB10 := hid (HB9.out.trans (hb10.mono HB9.out.size))
          clear ho10 hb10
          have hgA : Below w10.heap.size w10 (w10.alloc (.cells (bytesV [0, 0, 0]).toArray 5 (0, 0))) := (Below.refl _ _).alloc (Nat.le_refl _) _
          have HN3 := hid (rd_new w10 5 [0, 0, 0] 3 _ rfl rfl (by unfold maxLen; omega))
          have HOA := hid (HO10.out.mono hgA)
          have HBA := hid (HB10.out.trans (hgA.mono HB10.out.size))
          have HSA := hid (Nat.le_trans HSZ10.out hgA.size)
          clear hgA
          go_wp2_with (at_builtin; refine wpList_append_Own rfl (.tmp 102) (.tmp 103) 29 rfl _ 5 Try.underlying29 infoU8p _ _ _ _ rfl HOA.out rfl HN3.out ?hlen HSA.out ?_)
          case hlen => rw [← HNB.out]; have := HNM.out; simp; omega
          intro v11 w11 ho11 hg11
          have HO11 := hid ho11.rd
          have HB11 := hid (HBA.out.grown hg11 HBA.out.size (fun k hk => Nat.le_trans HB9.out.size (HOA.out.ge k hk)))
          clear ho11 hg11
          go_wp2_with fail
          refine (summed_any _ (wb ++ [0, 0, 0]) _ HO11.out (by rw [List.length_append, ← HNB.out]; have := HN12.out; simp; omega) (by rw [List.length_append, ← HNB.out]; have := HNM.out; simp; omega)).mono ?_
          rintro e w12 ⟨v12, rfl, ho12, hb12⟩
          have HO12 := hid ho12.rd
          have HB12 := hid (HB11.out.trans (hb12.mono HB11.out.size))
          clear ho12 hb12
          go_wp2_with fail
          refine (pread_any _ _ _ HO12.out (by rw [setSum_length _ (by rw [List.length_append, ← HNB.out]; have := HN12.out; simp; omega), List.length_append, ← HNB.out]; have := HNM.out; simp; omega)).mono ?_
          rw [HF4.out]
          rintro e w13 ⟨v13, rfl, ⟨s13, rfl, hc13, -⟩, hb13⟩
          obtain ⟨up13, uc13, rfl⟩ : ∃ x y, s13 = .slice x 0 y := by
            obtain ⟨ss, q1, q2, q3⟩ := hc13
            exact q2.form
          rw [show ((Pkt.zero.tag : Nat) : Int) = 0 from rfl]
          have hg13 : Below w13.heap.size w13 (w13.alloc (.cells #[.int .u32 0, .slice up13 0 uc13] 25 (0, 0))) := (Below.refl _ _).alloc (Nat.le_refl _) _
          have HB13 := hid (HB12.out.trans ((gr_trans hb13 hg13).mono HB12.out.size))
          clear hc13 hb13 hg13
          go_wp2_with fail
          refine (works_any _).mono ?_
          rintro e w14 ⟨rfl, hb14⟩
          have HB14 := hid (gr_trans G1.out (HB13.out.trans (hb14.mono HB13.out.size)))
          clear hb14
          go_wp2_with fail
          go_ret
          exact ⟨rfl, HB14.out⟩
        · have k4 : ¬ (k : Int) < 4 := by omega
          have k5 : (4 : Int) ≤ (k : Int) := by omega
          have hte : ((tg2 : Int) == (tg : Int)) = true := by
            rw [(HTQ.out (by omega)).2 hq, HTG.out]
            simp
          clear hk4
          have ck5 := HROW6.out.cell k
          obtain ⟨x5, hx5⟩ : ∃ x5 : UInt8, (bytesV (wb.set k V ++ sp))[k]? = some (.int .u8 (x5.toNat : Int)) := ⟨_, bytesV_at _ _ _ (show k < (wb.set k V).length by rw [List.length_set]; exact HKL.out)⟩
          rw [hx5] at ck5
          clear hx5
          have fk5 := HROW6.out.frozen k
          go_wp2_with fail
          clear ck5 fk5 a0 a1 a2 a3
          have HROW7 := hid (HROW6.out.store k (.int .u8 (ws.toNat : Int)))
          rw [bytesV_set _ _ _ _ (by rw [List.length_set]; exact HKL.out), List.set_set, HSET.out] at HROW7
          have HB7 := hid (HB6.out.setCell (p := ⟨g, k, none⟩) HGE.out (.int .u8 (ws.toNat : Int)))
          have HV7 := hid (show Rd _ (.slice (some ⟨g, 0, none⟩) nb (nb + sp.length)) wb by
            have := HROW7.out.to_row.rd nb (nb + sp.length) (by rw [List.length_append, ← HNB.out]; omega) (by omega) HMX.out
            rwa [List.take_left' HNB.out.symm] at this)
          have HC12 := hid (show Rd _ (.slice (some ⟨g, 0, none⟩) 12 (nb + sp.length)) (wb.take 12) by
            have := HROW7.out.to_row.rd 12 (nb + sp.length) (by rw [List.length_append, ← HNB.out]; have := HN12.out; omega) (by have := HN12.out; omega) HMX.out
            rwa [List.take_append_of_le_length (by rw [← HNB.out]; exact HN12.out)] at this)
          refine (summed_any _ (wb.take 12) _ HC12.out (by rw [List.length_take, ← HNB.out]; have := HN12.out; omega) (by rw [List.length_take]; omega)).mono ?_
          rintro e w8 ⟨v8, rfl, ho8, hb8⟩
          have HO8 := hid ho8.rd
          have HB8 := hid (HB7.out.trans (hb8.mono HB7.out.size))
          have HV8 := hid (HV7.out.mono hb8)
          clear ho8 hb8
          go_wp2_with fail
          refine (pread_any _ _ _ HO8.out (by rw [setSum_length _ (by rw [List.length_take, ← HNB.out]; have := HN12.out; omega), List.length_take]; omega)).mono ?_
          rw [HF3.out]
          rintro e w9 ⟨v9, rfl, ⟨s9, rfl, hc9, -⟩, hb9⟩
          obtain ⟨up9, uc9, rfl⟩ : ∃ x y, s9 = .slice x 0 y := by
            obtain ⟨ss, q1, q2, q3⟩ := hc9
            exact q2.form
          rw [show ((Pkt.zero.tag : Nat) : Int) = 0 from rfl]
          have hg9 : Below w9.heap.size w9 (w9.alloc (.cells #[.int .u32 0, .slice up9 0 uc9] 25 (0, 0))) := (Below.refl _ _).alloc (Nat.le_refl _) _
          have HB9 := hid (HB8.out.trans ((gr_trans hb9 hg9).mono HB8.out.size))
          have HV9 := hid (HV8.out.mono (gr_trans hb9 hg9))
          clear hc9 hb9 hg9
          go_wp2_with fail
          refine (copyBytes_any _ wb _ HV9.out (by rw [← HNB.out]; have := HNM.out; omega)).mono ?_
          rintro e w10 ⟨v10, rfl, ho10, hb10⟩
          have HO10 := hid ho10
          have HSZ10 := hid hb10.size
          have HB10 := hid (HB9.out.trans (hb10.mono HB9.out.size))
          clear ho10 hb10
          have hgA : Below w10.heap.size w10 (w10.alloc (.cells (bytesV [0, 0, 0]).toArray 5 (0, 0))) := (Below.refl _ _).alloc (Nat.le_refl _) _
          have HN3 := hid (rd_new w10 5 [0, 0, 0] 3 _ rfl rfl (by unfold maxLen; omega))
          have HOA := hid (HO10.out.mono hgA)
          have HBA := hid (HB10.out.trans (hgA.mono HB10.out.size))
          have HSA := hid (Nat.le_trans HSZ10.out hgA.size)
          clear hgA
          go_wp2_with (at_builtin; refine wpList_append_Own rfl (.tmp 102) (.tmp 103) 29 rfl _ 5 Try.underlying29 infoU8p _ _ _ _ rfl HOA.out rfl HN3.out ?hlen HSA.out ?_)
          case hlen => rw [← HNB.out]; have := HNM.out; simp; omega
          intro v11 w11 ho11 hg11
          have HO11 := hid ho11.rd
          have HB11 := hid (HBA.out.grown hg11 HBA.out.size (fun k hk => Nat.le_trans HB9.out.size (HOA.out.ge k hk)))
          clear ho11 hg11
          go_wp2_with fail
          refine (summed_any _ (wb ++ [0, 0, 0]) _ HO11.out (by rw [List.length_append, ← HNB.out]; have := HN12.out; simp; omega) (by rw [List.length_append, ← HNB.out]; have := HNM.out; simp; omega)).mono ?_
          rintro e w12 ⟨v12, rfl, ho12, hb12⟩
          have HO12 := hid ho12.rd
          have HB12 := hid (HB11.out.trans (hb12.mono HB11.out.size))
          clear ho12 hb12
          go_wp2_with fail
          refine (pread_any _ _ _ HO12.out (by rw [setSum_length _ (by rw [List.length_append, ← HNB.out]; have := HN12.out; simp; omega), List.length_append, ← HNB.out]; have := HNM.out; simp; omega)).mono ?_
          rw [HF4.out]
          rintro e w13 ⟨v13, rfl, ⟨s13, rfl, hc13, -⟩, hb13⟩
          obtain ⟨up13, uc13, rfl⟩ : ∃ x y, s13 = .slice x 0 y := by
            obtain ⟨ss, q1, q2, q3⟩ := hc13
            exact q2.form
          rw [show ((Pkt.zero.tag : Nat) : Int) = 0 from rfl]
          have hg13 : Below w13.heap.size w13 (w13.alloc (.cells #[.int .u32 0, .slice up13 0 uc13] 25 (0, 0))) := (Below.refl _ _).alloc (Nat.le_refl _) _
          have HB13 := hid (HB12.out.trans ((gr_trans hb13 hg13).mono HB12.out.size))
          clear hc13 hb13 hg13
          go_wp2_with fail
          refine (works_any _).mono ?_
          rintro e w14 ⟨rfl, hb14⟩
          have HB14 := hid (gr_trans G1.out (HB13.out.trans (hb14.mono HB13.out.size)))
          clear hb14
          go_wp2_with fail
          go_ret
          exact ⟨rfl, HB14.out⟩
      · have hb : ((V.toNat : Int) == (ws.toNat : Int)) = false := by
          rw [beq_eq_false_iff_ne]
          intro hh
          exact hq (UInt8.toNat_inj.1 (by omega))
        have HTQ := hid htq
        clear htq
        by_cases hk4 : k < 4
        · rw [if_pos ⟨hk4, hq⟩]
          rintro e w5 ⟨v5, rfl, ⟨s5, rfl, hc5, -⟩, hb5⟩
          obtain ⟨up5, uc5, rfl⟩ : ∃ x y, s5 = .slice x 0 y := by
            obtain ⟨ss, q1, q2, q3⟩ := hc5
            exact q2.form
          rw [show ((Pkt.zero.tag : Nat) : Int) = 0 from rfl]
          have hg5 : Below w5.heap.size w5 (w5.alloc (.cells #[.int .u32 0, .slice up5 0 uc5] 25 (0, 0))) := (Below.refl _ _).alloc (Nat.le_refl _) _
          have HB6 := hid (HB4.out.trans ((gr_trans hb5 hg5).mono HB4.out.size))
          have HR5 := hid (HR4.out.mono hb5)
          have HR6 := hid (HR5.out.mono hg5)
          have HROW6 := hid (HROW4.out.mono (gr_trans hb5 hg5))
          have HNP := hid (RowV.new w5 25 [.int .u32 0, .slice up5 0 uc5])
          have HLT := hid HR5.out.lt
          clear hc5 hb5 hg5
          have a0 := HR6.out.at 0 (by simp)
          have a1 := HR6.out.at 1 (by simp)
          have a2 := HR6.out.at 2 (by simp)
          have a3 := HR6.out.at 3 (by simp)
          simp only [List.getElem_cons_succ, List.getElem_cons_zero] at a0 a1 a2 a3
          have k4 : (k : Int) < 4 := by omega
          have k5 : ¬ (4 : Int) ≤ (k : Int) := by omega
          clear hk4
          have ck5 := HROW6.out.cell k
          obtain ⟨x5, hx5⟩ : ∃ x5 : UInt8, (bytesV (wb.set k V ++ sp))[k]? = some (.int .u8 (x5.toNat : Int)) := ⟨_, bytesV_at _ _ _ (show k < (wb.set k V).length by rw [List.length_set]; exact HKL.out)⟩
          rw [hx5] at ck5
          clear hx5
          have fk5 := HROW6.out.frozen k
          go_wp2_with fail
          clear ck5 fk5 a0 a1 a2 a3
          have HROW7 := hid (HROW6.out.store k (.int .u8 (ws.toNat : Int)))
          rw [bytesV_set _ _ _ _ (by rw [List.length_set]; exact HKL.out), List.set_set, HSET.out] at HROW7
          have HB7 := hid (HB6.out.setCell (p := ⟨g, k, none⟩) HGE.out (.int .u8 (ws.toNat : Int)))
          have HV7 := hid (show Rd _ (.slice (some ⟨g, 0, none⟩) nb (nb + sp.length)) wb by
            have := HROW7.out.to_row.rd nb (nb + sp.length) (by rw [List.length_append, ← HNB.out]; omega) (by omega) HMX.out
            rwa [List.take_left' HNB.out.symm] at this)
          have HC12 := hid (show Rd _ (.slice (some ⟨g, 0, none⟩) 12 (nb + sp.length)) (wb.take 12) by
            have := HROW7.out.to_row.rd 12 (nb + sp.length) (by rw [List.length_append, ← HNB.out]; have := HN12.out; omega) (by have := HN12.out; omega) HMX.out
            rwa [List.take_append_of_le_length (by rw [← HNB.out]; exact HN12.out)] at this)
          refine (summed_any _ (wb.take 12) _ HC12.out (by rw [List.length_take, ← HNB.out]; have := HN12.out; omega) (by rw [List.length_take]; omega)).mono ?_
          rintro e w8 ⟨v8, rfl, ho8, hb8⟩
          have HO8 := hid ho8.rd
          have HB8 := hid (HB7.out.trans (hb8.mono HB7.out.size))
          have HV8 := hid (HV7.out.mono hb8)
          clear ho8 hb8
          go_wp2_with fail
          refine (pread_any _ _ _ HO8.out (by rw [setSum_length _ (by rw [List.length_take, ← HNB.out]; have := HN12.out; omega), List.length_take]; omega)).mono ?_
          rw [HF3.out]
          rintro e w9 ⟨v9, rfl, ⟨s9, rfl, hc9, -⟩, hb9⟩
          obtain ⟨up9, uc9, rfl⟩ : ∃ x y, s9 = .slice x 0 y := by
            obtain ⟨ss, q1, q2, q3⟩ := hc9
            exact q2.form
          rw [show ((Pkt.zero.tag : Nat) : Int) = 0 from rfl]
          have hg9 : Below w9.heap.size w9 (w9.alloc (.cells #[.int .u32 0, .slice up9 0 uc9] 25 (0, 0))) := (Below.refl _ _).alloc (Nat.le_refl _) _
          have HB9 := hid (HB8.out.trans ((gr_trans hb9 hg9).mono HB8.out.size))
          have HV9 := hid (HV8.out.mono (gr_trans hb9 hg9))
          clear hc9 hb9 hg9
          go_wp2_with fail
          refine (copyBytes_any _ wb _ HV9.out (by rw [← HNB.out]; have := HNM.out; omega)).mono ?_
          rintro e w10 ⟨v10, rfl, ho10, hb10⟩
          have HO10 := hid ho10
          have HSZ10 := hid hb10.size
          have HB10 := hid (HB9.out.trans (hb10.mono HB9.out.size))
          clear ho10 hb10
          have hgA : Below w10.heap.size w10 (w10.alloc (.cells (bytesV [0, 0, 0]).toArray 5 (0, 0))) := (Below.refl _ _).alloc (Nat.le_refl _) _
          have HN3 := hid (rd_new w10 5 [0, 0, 0] 3 _ rfl rfl (by unfold maxLen; omega))
          have HOA := hid (HO10.out.mono hgA)
          have HBA := hid (HB10.out.trans (hgA.mono HB10.out.size))
          have HSA := hid (Nat.le_trans HSZ10.out hgA.size)
          clear hgA
          go_wp2_with (at_builtin; refine wpList_append_Own rfl (.tmp 102) (.tmp 103) 29 rfl _ 5 Try.underlying29 infoU8p _ _ _ _ rfl HOA.out rfl HN3.out ?hlen HSA.out ?_)
          case hlen => rw [← HNB.out]; have := HNM.out; simp; omega
          intro v11 w11 ho11 hg11
          have HO11 := hid ho11.rd
          have HB11 := hid (HBA.out.grown hg11 HBA.out.size (fun k hk => Nat.le_trans HB9.out.size (HOA.out.ge k hk)))
          clear ho11 hg11
          go_wp2_with fail
          refine (summed_any _ (wb ++ [0, 0, 0]) _ HO11.out (by rw [List.length_append, ← HNB.out]; have := HN12.out; simp; omega) (by rw [List.length_append, ← HNB.out]; have := HNM.out; simp; omega)).mono ?_
          rintro e w12 ⟨v12, rfl, ho12, hb12⟩
          have HO12 := hid ho12.rd
          have HB12 := hid (HB11.out.trans (hb12.mono HB11.out.size))
          clear ho12 hb12
          go_wp2_with fail
          refine (pread_any _ _ _ HO12.out (by rw [setSum_length _ (by rw [List.length_append, ← HNB.out]; have := HN12.out; simp; omega), List.length_append, ← HNB.out]; have := HNM.out; simp; omega)).mono ?_
          rw [HF4.out]
          rintro e w13 ⟨v13, rfl, ⟨s13, rfl, hc13, -⟩, hb13⟩
          obtain ⟨up13, uc13, rfl⟩ : ∃ x y, s13 = .slice x 0 y := by
            obtain ⟨ss, q1, q2, q3⟩ := hc13
            exact q2.form
          rw [show ((Pkt.zero.tag : Nat) : Int) = 0 from rfl]
          have hg13 : Below w13.heap.size w13 (w13.alloc (.cells #[.int .u32 0, .slice up13 0 uc13] 25 (0, 0))) := (Below.refl _ _).alloc (Nat.le_refl _) _
          have HB13 := hid (HB12.out.trans ((gr_trans hb13 hg13).mono HB12.out.size))
          clear hc13 hb13 hg13
          go_wp2_with fail
          refine (works_any _).mono ?_
          rintro e w14 ⟨rfl, hb14⟩
          have HB14 := hid (gr_trans G1.out (HB13.out.trans (hb14.mono HB13.out.size)))
          clear hb14
          go_wp2_with fail
          go_ret
          exact ⟨rfl, HB14.out⟩
        · rw [if_neg (by rintro ⟨hh, -⟩; exact hk4 hh)]
          rintro e w5 ⟨v5, rfl, ⟨s5, rfl, hc5, -⟩, hb5⟩
          obtain ⟨up5, uc5, rfl⟩ : ∃ x y, s5 = .slice x p.cs.length y := by
            obtain ⟨ss, q1, q2, q3⟩ := hc5
            exact q2.form
          simp only
          have hg5 : Below w5.heap.size w5 (w5.alloc (.cells #[.int .u32 (tg2 : Int), .slice up5 p.cs.length uc5] 25 (0, 0))) := (Below.refl _ _).alloc (Nat.le_refl _) _
          have HB6 := hid (HB4.out.trans ((gr_trans hb5 hg5).mono HB4.out.size))
          have HR5 := hid (HR4.out.mono hb5)
          have HR6 := hid (HR5.out.mono hg5)
          have HROW6 := hid (HROW4.out.mono (gr_trans hb5 hg5))
          have HNP := hid (RowV.new w5 25 [.int .u32 (tg2 : Int), .slice up5 p.cs.length uc5])
          have HLT := hid HR5.out.lt
          clear hc5 hb5 hg5
          have a0 := HR6.out.at 0 (by simp)
          have a1 := HR6.out.at 1 (by simp)
          have a2 := HR6.out.at 2 (by simp)
          have a3 := HR6.out.at 3 (by simp)
          simp only [List.getElem_cons_succ, List.getElem_cons_zero] at a0 a1 a2 a3
          have k4 : ¬ (k : Int) < 4 := by omega
          have k5 : (4 : Int) ≤ (k : Int) := by omega
          have hte : ((tg2 : Int) == (tg : Int)) = false := by
            rw [beq_eq_false_iff_ne]
            intro hh
            exact hq ((HTQ.out (by omega)).1 (by rw [← HTG.out]; omega))
          clear hk4
          have ck5 := HROW6.out.cell k
          obtain ⟨x5, hx5⟩ : ∃ x5 : UInt8, (bytesV (wb.set k V ++ sp))[k]? = some (.int .u8 (x5.toNat : Int)) := ⟨_, bytesV_at _ _ _ (show k < (wb.set k V).length by rw [List.length_set]; exact HKL.out)⟩
          rw [hx5] at ck5
          clear hx5
          have fk5 := HROW6.out.frozen k
          go_wp2_with fail
          clear ck5 fk5 a0 a1 a2 a3
          have HROW7 := hid (HROW6.out.store k (.int .u8 (ws.toNat : Int)))
          rw [bytesV_set _ _ _ _ (by rw [List.length_set]; exact HKL.out), List.set_set, HSET.out] at HROW7
          have HB7 := hid (HB6.out.setCell (p := ⟨g, k, none⟩) HGE.out (.int .u8 (ws.toNat : Int)))
          have HV7 := hid (show Rd _ (.slice (some ⟨g, 0, none⟩) nb (nb + sp.length)) wb by
            have := HROW7.out.to_row.rd nb (nb + sp.length) (by rw [List.length_append, ← HNB.out]; omega) (by omega) HMX.out
            rwa [List.take_left' HNB.out.symm] at this)
          have HC12 := hid (show Rd _ (.slice (some ⟨g, 0, none⟩) 12 (nb + sp.length)) (wb.take 12) by
            have := HROW7.out.to_row.rd 12 (nb + sp.length) (by rw [List.length_append, ← HNB.out]; have := HN12.out; omega) (by have := HN12.out; omega) HMX.out
            rwa [List.take_append_of_le_length (by rw [← HNB.out]; exact HN12.out)] at this)
          refine (summed_any _ (wb.take 12) _ HC12.out (by rw [List.length_take, ← HNB.out]; have := HN12.out; omega) (by rw [List.length_take]; omega)).mono ?_
          rintro e w8 ⟨v8, rfl, ho8, hb8⟩
          have HO8 := hid ho8.rd
          have HB8 := hid (HB7.out.trans (hb8.mono HB7.out.size))
          have HV8 := hid (HV7.out.mono hb8)
          clear ho8 hb8
          go_wp2_with fail
          refine (pread_any _ _ _ HO8.out (by rw [setSum_length _ (by rw [List.length_take, ← HNB.out]; have := HN12.out; omega), List.length_take]; omega)).mono ?_
          rw [HF3.out]
          rintro e w9 ⟨v9, rfl, ⟨s9, rfl, hc9, -⟩, hb9⟩
          obtain ⟨up9, uc9, rfl⟩ : ∃ x y, s9 = .slice x 0 y := by
            obtain ⟨ss, q1, q2, q3⟩ := hc9
            exact q2.form
          rw [show ((Pkt.zero.tag : Nat) : Int) = 0 from rfl]
          have hg9 : Below w9.heap.size w9 (w9.alloc (.cells #[.int .u32 0, .slice up9 0 uc9] 25 (0, 0))) := (Below.refl _ _).alloc (Nat.le_refl _) _
          have HB9 := hid (HB8.out.trans ((gr_trans hb9 hg9).mono HB8.out.size))
          have HV9 := hid (HV8.out.mono (gr_trans hb9 hg9))
          clear hc9 hb9 hg9
          go_wp2_with fail
          refine (copyBytes_any _ wb _ HV9.out (by rw [← HNB.out]; have := HNM.out; omega)).mono ?_
          rintro e w10 ⟨v10, rfl, ho10, hb10⟩
          have HO10 := hid ho10
          have HSZ10 := hid hb10.size
          have HB10 := hid (HB9.out.trans (hb10.mono HB9.out.size))
          clear ho10 hb10
          have hgA : Below w10.heap.size w10 (w10.alloc (.cells (bytesV [0, 0, 0]).toArray 5 (0, 0))) := (Below.refl _ _).alloc (Nat.le_refl _) _
          have HN3 := hid (rd_new w10 5 [0, 0, 0] 3 _ rfl rfl (by unfold maxLen; omega))
          have HOA := hid (HO10.out.mono hgA)
          have HBA := hid (HB10.out.trans (hgA.mono HB10.out.size))
          have HSA := hid (Nat.le_trans HSZ10.out hgA.size)
          clear hgA
          go_wp2_with (at_builtin; refine wpList_append_Own rfl (.tmp 102) (.tmp 103) 29 rfl _ 5 Try.underlying29 infoU8p _ _ _ _ rfl HOA.out rfl HN3.out ?hlen HSA.out ?_)
          case hlen => rw [← HNB.out]; have := HNM.out; simp; omega
          intro v11 w11 ho11 hg11
          have HO11 := hid ho11.rd
          have HB11 := hid (HBA.out.grown hg11 HBA.out.size (fun k hk => Nat.le_trans HB9.out.size (HOA.out.ge k hk)))
          clear ho11 hg11
          go_wp2_with fail
          refine (summed_any _ (wb ++ [0, 0, 0]) _ HO11.out (by rw [List.length_append, ← HNB.out]; have := HN12.out; simp; omega) (by rw [List.length_append, ← HNB.out]; have := HNM.out; simp; omega)).mono ?_
          rintro e w12 ⟨v12, rfl, ho12, hb12⟩
          have HO12 := hid ho12.rd
          have HB12 := hid (HB11.out.trans (hb12.mono HB11.out.size))
          clear ho12 hb12
          go_wp2_with fail
          refine (pread_any _ _ _ HO12.out (by rw [setSum_length _ (by rw [List.length_append, ← HNB.out]; have := HN12.out; simp; omega), List.length_append, ← HNB.out]; have := HNM.out; simp; omega)).mono ?_
          rw [HF4.out]
          rintro e w13 ⟨v13, rfl, ⟨s13, rfl, hc13, -⟩, hb13⟩
          obtain ⟨up13, uc13, rfl⟩ : ∃ x y, s13 = .slice x 0 y := by
            obtain ⟨ss, q1, q2, q3⟩ := hc13
            exact q2.form
          rw [show ((Pkt.zero.tag : Nat) : Int) = 0 from rfl]
          have hg13 : Below w13.heap.size w13 (w13.alloc (.cells #[.int .u32 0, .slice up13 0 uc13] 25 (0, 0))) := (Below.refl _ _).alloc (Nat.le_refl _) _
          have HB13 := hid (HB12.out.trans ((gr_trans hb13 hg13).mono HB12.out.size))
          clear hc13 hb13 hg13
          go_wp2_with fail
          refine (works_any _).mono ?_
          rintro e w14 ⟨rfl, hb14⟩
          have HB14 := hid (gr_trans G1.out (HB13.out.trans (hb14.mono HB13.out.size)))
          clear hb14
          go_wp2_with fail
          go_ret
          exact ⟨rfl, HB14.out⟩
    · obtain rfl : nb = 0 := h0
      have HB2 := hid (gr_trans G1.out hb2)
      obtain ⟨p2, c2, rfl⟩ := RdF.form ho2.rd
      rw [← HNB.out]
      clear ho2 hb2
      go_wp2_with fail
      refine (works_any _).mono ?_
      rintro e w3 ⟨rfl, hb3⟩
      have G3 := hid (gr_trans HB2.out hb3)
      clear hb3
      go_wp2_with fail
      go_ret
      exact ⟨rfl, G3.out⟩
  · go_wp2_with fail
    refine (works_any _).mono ?_
    rintro e w2 ⟨rfl, hb2⟩
    have G2 := hid (gr_trans G1.out hb2)
    clear hb2
    go_wp2_with fail
    go_ret
    exact ⟨rfl, G2.out⟩
end Go.Proofs.Ytahpklciafpdaaa

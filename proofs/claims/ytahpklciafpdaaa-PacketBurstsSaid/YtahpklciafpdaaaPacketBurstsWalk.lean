/- PacketBursts: the walk of the law. Conditions: none but what the row reads. -/
import Derived.Test.YtahpklciafpdaaaPacketShortWalk
import Derived.Test.YtahpklciafpdaaaPktLarge
import Derived.Test.YtahpklciafpdaaaPktBurstM
import Derived.Test.YtahpklciafpdaaaPktBurstOpen
import Derived.Test.YtahpklciafpdaaaPktRefRead
import Derived.Deep.CutRange
set_option linter.unusedSimpArgs false
set_option linter.unusedVariables false
namespace Go.Proofs.Ytahpklciafpdaaa
open Go.RowKit Go.FL Go.ChangeShapes

set_option maxRecDepth 100000 in
set_option maxHeartbeats 8000000 in
theorem packetBursts_walk {w : World} {v : Value} (x : BurstD) (hx : BurstAt w v x) :
    Calls Try.prog 6 #[v] w fun e w' => e = .returned (.bool true) ∧ Below w.heap.size w w' := by
  obtain ⟨s, rfl, hcs, ht, hbit, hmk⟩ := hx
  obtain ⟨p, bit, mk⟩ := x
  simp only at *
  obtain ⟨q, cp, hsl, hlc, hcm, -⟩ := id hcs
  subst hsl
  unfold maxLen at hcm
  obtain ⟨n, hn⟩ : ∃ n, n = p.cs.length := ⟨_, rfl⟩
  rw [← hn] at hcs hlc ⊢
  obtain ⟨tg, htg⟩ : ∃ n, n = p.tag := ⟨_, rfl⟩
  have HTG := hid htg
  have HT := hid ht
  have HBT := hid hbit
  have HMK := hid hmk
  rw [← htg] at ht ⊢
  obtain ⟨W, hW⟩ : ∃ W, W = w.alloc (.cells #[.int .u32 (tg : Int), .slice q n cp, .int .i64 bit, .int .u32 (mk : Int)] 45 (0, 0)) := ⟨_, rfl⟩
  have HR := hid (show RowV W w.heap.size 45 [.int .u32 (tg : Int), .slice q n cp, .int .i64 bit, .int .u32 (mk : Int)] by rw [hW]; exact RowV.new w _ _)
  have G := hid (show Below w.heap.size w W by rw [hW]; exact (Below.refl _ _).alloc (Nat.le_refl _) _)
  have HP := hid (show PktAt W (.agg #[.int .u32 (tg : Int), .slice q n cp]) p from ⟨_, by rw [HTG.out], hcs.mono G.out, HT.out⟩)
  have a0 := HR.out.at 0 (by simp)
  have a1 := HR.out.at 1 (by simp)
  have a2 := HR.out.at 2 (by simp)
  have a3 := HR.out.at 3 (by simp)
  simp only [List.getElem_cons_succ, List.getElem_cons_zero] at a0 a1 a2 a3
  rw [hW] at a0 a1 a2 a3
  have HE := hid hW
  clear hW hcs hn htg hbit hmk
  go_enter Try.func6, Try.ntmps6
  go_wp2_with fail
  rw [← HE.out]
  clear a0 a1 a2 a3
  refine (large_any p _ _ HP.out).mono ?_
  rintro e w1 ⟨lg, rfl, hsm, hb1⟩
  have G1 := hid (gr_trans G.out hb1)
  have HR1 := hid (HR.out.mono hb1)
  have HP1 := hid (HP.out.mono hb1)
  have HSM := hid hsm
  clear hb1 hsm
  cases lg
  · have HS := hid (HSM.out rfl)
    have HBL := hid (show sizesN p.cs ≤ 140000 from HS.out.2.2)
    obtain ⟨wb, hwb⟩ : ∃ x, x = p.bytes := ⟨_, rfl⟩
    have HWB := hid hwb
    obtain ⟨nb, hnb⟩ : ∃ x, x = wb.length := ⟨_, rfl⟩
    have HNB := hid hnb
    have hcase : (mayB p.cs = true ∧ 12 ≤ nb ∧ nb ≤ 140012) ∨ nb = 0 := by
      cases hm : mayB p.cs
      · exact .inr (by rw [hnb, hwb, Pkt.bytes, if_neg (by rw [hm]; simp)]; rfl)
      · refine .inl ⟨rfl, ?_, ?_⟩
        · rw [hnb, hwb, Pkt.bytes_length p hm]
          unfold Pkt.size
          omega
        · rw [hnb, hwb, Pkt.bytes_length p hm]
          have := HBL.out
          unfold Pkt.size
          omega
    clear hwb hnb
    have a0 := HR1.out.at 0 (by simp)
    have a1 := HR1.out.at 1 (by simp)
    have a2 := HR1.out.at 2 (by simp)
    have a3 := HR1.out.at 3 (by simp)
    simp only [List.getElem_cons_succ, List.getElem_cons_zero] at a0 a1 a2 a3
    go_wp2_with fail
    clear a0 a1 a2 a3
    refine (pwrite_any p _ _ HP1.out (by have := HBL.out; omega)).mono ?_
    rw [← HWB.out]
    rintro e w2 ⟨v2, rfl, ho2, hb2⟩
    rcases hcase with ⟨hm, h12, hmax⟩ | h0
    · rcases id ho2 with ⟨-, he⟩ | ⟨g, sp, hg, rfl, hrow, hmx⟩
      · have h1 := HNB.out
        rw [he] at h1
        simp at h1
        omega
      rw [← HNB.out] at hmx ⊢
      have HROW0 := hid (RowV.of_row hrow)
      have HB0 := hid hb2
      have HGE := hid (show w1.heap.size ≤ g from hg)
      have HMX := hid hmx
      have HR2 := hid (HR1.out.mono hb2)
      have HM := hid hm
      have HN12 := hid h12
      have HNM := hid hmax
      clear ho2 hrow hb2 hg hm
      obtain ⟨n8, hn8⟩ : ∃ k, k = 8 * nb := ⟨_, rfl⟩
      have HN8 := hid hn8
      have hn8b : n8 ≤ 1200000 := by omega
      have w8 : IntKind.i64.wrap ((8 : Int) * (nb : Int)) = (n8 : Int) := by rw [IntKind.wrap_i64]; omega
      have i0 : ((nb : Int) == 0) = false := by simp; omega
      have i8 : ¬ (n8 : Int) = 0 := by omega
      have i8' : ((n8 : Int) == 0) = false := by simp; omega
      obtain ⟨r0, hr0⟩ : ∃ r : Int, r = bit.tmod (n8 : Int) := ⟨_, rfl⟩
      have hr1 : r0 < (n8 : Int) ∧ -(n8 : Int) < r0 := by
        rw [hr0]
        refine ⟨Int.tmod_lt_of_pos _ (by omega), ?_⟩
        have := Int.lt_tmod_of_pos bit (show (0 : Int) < (n8 : Int) by omega)
        omega
      obtain ⟨fr, hfr⟩ : ∃ f : Nat, (f : Int) = if r0 < 0 then r0 + (n8 : Int) else r0 := by
        by_cases c : r0 < 0
        · exact ⟨(r0 + (n8 : Int)).toNat, by rw [if_pos c]; omega⟩
        · exact ⟨r0.toNat, by rw [if_neg c]; omega⟩
      have wr0 : IntKind.i64.wrap r0 = r0 := by rw [IntKind.wrap_i64]; omega
      have hr0' := hr0.symm
      have hfl : fr < n8 := by
        by_cases c : r0 < 0
        · rw [if_pos c] at hfr; omega
        · rw [if_neg c] at hfr; omega
      have HFL := hid hfl
      have a0 := HR2.out.at 0 (by simp)
      have a1 := HR2.out.at 1 (by simp)
      have a2 := HR2.out.at 2 (by simp)
      have a3 := HR2.out.at 3 (by simp)
      simp only [List.getElem_cons_succ, List.getElem_cons_zero] at a0 a1 a2 a3
      clear hr0 hn8
      go_upto_if 32 with fail
      go_cut [5] from 33 to 35 (fun s5 wx => s5 = .int .i64 (fr : Int) ∧ w2 = wx)
      case first =>
        by_cases c : r0 < 0
        · rw [if_pos c] at hfr
          have wr1 : IntKind.i64.wrap (r0 + (n8 : Int)) = (fr : Int) := by rw [IntKind.wrap_i64]; omega
          go_wp2_with fail
          go_meet
          exact ⟨by rw [hfr], rfl⟩
        · rw [if_neg c] at hfr
          go_wp2_with fail
          go_meet
          exact ⟨by rw [hfr], rfl⟩
      case rest =>
        obtain ⟨rfl, rfl⟩ := hcut
        clear hr1 hfr wr0 hr0' hfl w8 i8 i8'
        clear a0 a1 a2 a3
        go_wp2_with fail
        go_loopw [6, 7, 8, 9, 10] (fun y6 y7 y8 _ _ wr => ∃ (i q : Nat) (m : List UInt8), i ≤ 32 ∧ y8 = .int .i64 (i : Int) ∧ y6 = .int .i64 (q : Int) ∧ y7 = .bool (q != 0) ∧ Hid (BurstI wb fr i q m) ∧ Hid (RowV wr g 5 (bytesV (m ++ sp))) ∧ Hid (Below w1.heap.size w1 wr)) (fun _ _ y8 _ _ _ => 32 - (intOf y8).toNat)
        case atStart => exact ⟨0, 0, wb, by omega, rfl, rfl, rfl, hid (BurstI.start wb fr), HROW0, HB0⟩
        case round =>
          obtain ⟨i, q', m, hi, rfl, rfl, rfl, HBI, HROW, HB⟩ := hrel
          by_cases hlt : i < 32
          · have HR3 := hid (HR1.out.mono HB.out)
            have a0 := HR3.out.at 0 (by simp)
            have a1 := HR3.out.at 1 (by simp)
            have a2 := HR3.out.at 2 (by simp)
            have a3 := HR3.out.at 3 (by simp)
            simp only [List.getElem_cons_succ, List.getElem_cons_zero] at a0 a1 a2 a3
            obtain ⟨k, hk⟩ : ∃ k, k = fr + i := ⟨_, rfl⟩
            have HK := hid hk
            have b0 := HFL.out
            have b1 := HN8.out
            have b2 := HNM.out
            have wk : IntKind.i64.wrap ((fr : Int) + (i : Int)) = (k : Int) := by rw [IntKind.wrap_i64]; omega
            have wi : IntKind.u64.wrap (i : Int) = (i : Int) := by rw [IntKind.wrap_u64]; omega
            have t0 : ((i : Int)).toNat = i := by omega
            have z0 : (0 : Int) ≤ (i : Int) := by omega
            clear hk b0 b1
            have HQ3 := HBI.out.q3
            obtain ⟨z, hz⟩ : ∃ z : Int, bits .and .u32 ((mk : Int) / 2 ^ i) 1 = z := ⟨_, rfl⟩
            by_cases c0 : z = 0
            · subst c0
              go_wp2_with fail
              go_roundw
              case rel => exact ⟨i + 1, q', m, by omega, by go_num, rfl, rfl, hid HBI.out.keep, HROW, HB⟩
              case measure => simp [intOf]; omega
            · have z1 : (z == 0) = false := by simp; omega
              by_cases c1 : n8 ≤ k
              · have z2 : (n8 : Int) ≤ (k : Int) := by omega
                go_wp2_with fail
                go_roundw
                case rel => exact ⟨i + 1, q', m, by omega, by go_num, rfl, rfl, hid HBI.out.keep, HROW, HB⟩
                case measure => simp [intOf]; omega
              · have z2 : ¬ (n8 : Int) ≤ (k : Int) := by omega
                have HKN := hid (show fr + i < 8 * wb.length by rw [← HNB.out, ← HN8.out, ← HK.out]; omega)
                have HKL := hid (show (fr + i) / 8 < m.length by rw [HBI.out.len]; have := HKN.out; omega)
                obtain ⟨k8, hk8⟩ : ∃ n, n = (fr + i) / 8 := ⟨_, rfl⟩
                obtain ⟨r, hr⟩ : ∃ n, n = (fr + i) % 8 := ⟨_, rfl⟩
                have hr8 : r < 8 := by omega
                obtain ⟨y, hy1, hy2⟩ := one_bit r hr8
                have HY := hid (show y.toNat = 2 ^ ((fr + i) % 8) by rw [← hr]; exact hy2)
                obtain ⟨xa, hxa⟩ : ∃ x, x = m[(fr + i) / 8]'HKL.out := ⟨_, rfl⟩
                obtain ⟨xb, hxb⟩ : ∃ x, x = xa ^^^ y := ⟨_, rfl⟩
                have HXB := hid (show m.set k8 xb = m.set ((fr + i) / 8) (m[(fr + i) / 8]'HKL.out ^^^ y) by rw [hxb, hxa, hk8])
                have hx1 := bits_xor8 xa y
                rw [← hxb] at hx1
                have hkm : k8 < m.length := by rw [hk8]; exact HKL.out
                have hck := HROW.out.cell k8
                rw [bytesV_at _ _ _ hkm, show m[k8]'hkm = xa by rw [hxa]; simp only [hk8]] at hck
                have hfk := HROW.out.frozen k8
                have HROW2 := hid (HROW.out.store k8 (.int .u8 (xb.toNat : Int)))
                rw [bytesV_set _ _ _ _ hkm] at HROW2
                have HB2 := hid (HB.out.setCell (p := ⟨g, k8, none⟩) HGE.out (.int .u8 (xb.toNat : Int)))
                have hlen := HBI.out.len
                have hq8 : (k : Int) / 8 = (k8 : Int) := by rw [hk8, ← HK.out]; omega
                have hm8 : (k : Int) % 8 = (r : Int) := by rw [hr, ← HK.out]; omega
                have htd : (k : Int).tdiv 8 = (k8 : Int) := by rw [Int.tdiv_eq_ediv_of_nonneg (by omega)]; exact hq8
                have htm : (k : Int).tmod 8 = (r : Int) := by rw [Int.tmod_eq_emod_of_nonneg (by omega)]; exact hm8
                have hwk : IntKind.i64.wrap (k8 : Int) = (k8 : Int) := by rw [IntKind.wrap_i64]; omega
                have hwr : IntKind.i64.wrap (r : Int) = (r : Int) := by rw [IntKind.wrap_i64]; omega
                have hwu : IntKind.u64.wrap (r : Int) = (r : Int) := by rw [IntKind.wrap_u64]; omega
                have h0k : (0 : Int) ≤ (k8 : Int) := by omega
                have h0k2 : ((k8 : Int)).toNat = k8 := by omega
                have h1k : (k8 : Int) < (nb : Int) := by rw [HNB.out, ← hlen]; omega
                have h0k' : (0 : Int) ≤ (k : Int) := by omega
                have hxab := byte_lt xa
                have hxbb := byte_lt xb
                have hyb := byte_lt y
                clear hk8 hr hy2 hxa hxb hkm hlen
                by_cases c3 : 96 ≤ k
                · have c2 := c3
                  have z3 : (96 : Int) ≤ (k : Int) := by omega
                  have z4 : (64 : Int) ≤ (k : Int) := by omega
                  have HPN := hid (show partN (fr + i) = 3 by unfold partN; rw [← HK.out]; rw [if_pos c3])
                  clear c2 c3
                  rcases HQ3 with e | e | e | e
                  · subst e
                    have HBI2 := hid (show BurstI wb fr (i + 1) 3 (m.set k8 xb) by
                      have h9 := HBI.out.turn HKN.out (by rw [HPN.out]; exact .inl rfl) y HY.out HKL.out
                      rw [HPN.out] at h9
                      rw [HXB.out]
                      exact h9)
                    go_wp2_with fail
                    go_roundw
                    case rel => exact ⟨i + 1, 3, m.set k8 xb, by omega, by go_num, rfl, rfl, HBI2, HROW2, HB2⟩
                    case measure => simp [intOf]; omega
                  · subst e
                    go_wp2_with fail
                    go_roundw
                    case rel => exact ⟨i + 1, 1, m, by omega, by go_num, rfl, rfl, hid HBI.out.keep, HROW, HB⟩
                    case measure => simp [intOf]; omega
                  · subst e
                    go_wp2_with fail
                    go_roundw
                    case rel => exact ⟨i + 1, 2, m, by omega, by go_num, rfl, rfl, hid HBI.out.keep, HROW, HB⟩
                    case measure => simp [intOf]; omega
                  · subst e
                    have HBI2 := hid (show BurstI wb fr (i + 1) 3 (m.set k8 xb) by
                      have h9 := HBI.out.turn HKN.out (by rw [HPN.out]; exact .inr rfl) y HY.out HKL.out
                      rw [HPN.out] at h9
                      rw [HXB.out]
                      exact h9)
                    go_wp2_with fail
                    go_roundw
                    case rel => exact ⟨i + 1, 3, m.set k8 xb, by omega, by go_num, rfl, rfl, HBI2, HROW2, HB2⟩
                    case measure => simp [intOf]; omega
                · by_cases c2 : 64 ≤ k
                  · have z3 : ¬ (96 : Int) ≤ (k : Int) := by omega
                    have z4 : (64 : Int) ≤ (k : Int) := by omega
                    have HPN := hid (show partN (fr + i) = 2 by unfold partN; rw [← HK.out]; rw [if_neg c3, if_pos c2])
                    clear c2 c3
                    rcases HQ3 with e | e | e | e
                    · subst e
                      have HBI2 := hid (show BurstI wb fr (i + 1) 2 (m.set k8 xb) by
                        have h9 := HBI.out.turn HKN.out (by rw [HPN.out]; exact .inl rfl) y HY.out HKL.out
                        rw [HPN.out] at h9
                        rw [HXB.out]
                        exact h9)
                      go_wp2_with fail
                      go_roundw
                      case rel => exact ⟨i + 1, 2, m.set k8 xb, by omega, by go_num, rfl, rfl, HBI2, HROW2, HB2⟩
                      case measure => simp [intOf]; omega
                    · subst e
                      go_wp2_with fail
                      go_roundw
                      case rel => exact ⟨i + 1, 1, m, by omega, by go_num, rfl, rfl, hid HBI.out.keep, HROW, HB⟩
                      case measure => simp [intOf]; omega
                    · subst e
                      have HBI2 := hid (show BurstI wb fr (i + 1) 2 (m.set k8 xb) by
                        have h9 := HBI.out.turn HKN.out (by rw [HPN.out]; exact .inr rfl) y HY.out HKL.out
                        rw [HPN.out] at h9
                        rw [HXB.out]
                        exact h9)
                      go_wp2_with fail
                      go_roundw
                      case rel => exact ⟨i + 1, 2, m.set k8 xb, by omega, by go_num, rfl, rfl, HBI2, HROW2, HB2⟩
                      case measure => simp [intOf]; omega
                    · subst e
                      go_wp2_with fail
                      go_roundw
                      case rel => exact ⟨i + 1, 3, m, by omega, by go_num, rfl, rfl, hid HBI.out.keep, HROW, HB⟩
                      case measure => simp [intOf]; omega
                  · have z3 : ¬ (96 : Int) ≤ (k : Int) := by omega
                    have z4 : ¬ (64 : Int) ≤ (k : Int) := by omega
                    have HPN := hid (show partN (fr + i) = 1 by unfold partN; rw [← HK.out]; rw [if_neg c3, if_neg c2])
                    clear c2 c3
                    rcases HQ3 with e | e | e | e
                    · subst e
                      have HBI2 := hid (show BurstI wb fr (i + 1) 1 (m.set k8 xb) by
                        have h9 := HBI.out.turn HKN.out (by rw [HPN.out]; exact .inl rfl) y HY.out HKL.out
                        rw [HPN.out] at h9
                        rw [HXB.out]
                        exact h9)
                      go_wp2_with fail
                      go_roundw
                      case rel => exact ⟨i + 1, 1, m.set k8 xb, by omega, by go_num, rfl, rfl, HBI2, HROW2, HB2⟩
                      case measure => simp [intOf]; omega
                    · subst e
                      have HBI2 := hid (show BurstI wb fr (i + 1) 1 (m.set k8 xb) by
                        have h9 := HBI.out.turn HKN.out (by rw [HPN.out]; exact .inr rfl) y HY.out HKL.out
                        rw [HPN.out] at h9
                        rw [HXB.out]
                        exact h9)
                      go_wp2_with fail
                      go_roundw
                      case rel => exact ⟨i + 1, 1, m.set k8 xb, by omega, by go_num, rfl, rfl, HBI2, HROW2, HB2⟩
                      case measure => simp [intOf]; omega
                    · subst e
                      go_wp2_with fail
                      go_roundw
                      case rel => exact ⟨i + 1, 2, m, by omega, by go_num, rfl, rfl, hid HBI.out.keep, HROW, HB⟩
                      case measure => simp [intOf]; omega
                    · subst e
                      go_wp2_with fail
                      go_roundw
                      case rel => exact ⟨i + 1, 3, m, by omega, by go_num, rfl, rfl, hid HBI.out.keep, HROW, HB⟩
                      case measure => simp [intOf]; omega
          · obtain rfl : i = 32 := by omega
            have e32 : ¬ ((32 : Nat) : Int) < 32 := by omega
            have hmb : m.length = nb := by rw [HBI.out.len, ← HNB.out]
            have HV3 := hid (show Rd wr (.slice (some ⟨g, 0, none⟩) nb (nb + sp.length)) m by
              have := HROW.out.to_row.rd nb (nb + sp.length) (by rw [List.length_append, hmb]; omega) (by omega) HMX.out
              rwa [List.take_left' hmb] at this)
            have hrd : (q' ≠ 0 → readP m = (.zero, 8)) ∧ (q' = 0 → readP m = (p, 0)) := by
              refine ⟨fun h => burst_read HBI.out (by rw [← HNB.out]; exact HN12.out) (by rw [HWB.out]; exact sum_bytes p HT.out HM.out) h, fun h => ?_⟩
              rcases HBI.out.ex with ⟨-, e⟩ | ⟨e, -⟩
              · rw [e, HWB.out]
                exact readP_bytes p HT.out HM.out
              · exact absurd h e
            have HRD := hid hrd
            have HML := hid (show m.length ≤ 1000000000000 by rw [hmb]; have := HNM.out; omega)
            clear hrd hmb
            by_cases c : q' = 0
            · have hb : (q' != 0) = false := by simp [c]
              have HF := hid (HRD.out.2 c)
              rw [hb]
              clear c hb
              go_wp2_with fail
              refine (pread_any _ _ _ HV3.out HML.out).mono ?_
              rw [HF.out]
              rintro e w5 ⟨v5, rfl, ⟨s5, rfl, hc5, -⟩, hb5⟩
              obtain ⟨up5, uc5, rfl⟩ : ∃ x y, s5 = .slice x p.cs.length y := by
                obtain ⟨ss, q1, q2, q3⟩ := hc5
                exact q2.form
              simp only
              have hg5 : Below w5.heap.size w5 (w5.alloc (.cells #[.int .u32 (p.tag : Int), .slice up5 p.cs.length uc5] 25 (0, 0))) := (Below.refl _ _).alloc (Nat.le_refl _) _
              have HB6 := hid (HB.out.trans ((gr_trans hb5 hg5).mono HB.out.size))
              clear hc5 hb5 hg5
              go_wp2_with fail
              refine (works_any _).mono ?_
              rintro e w8 ⟨rfl, hb8⟩
              have HB8 := hid (gr_trans G1.out (HB6.out.trans (hb8.mono HB6.out.size)))
              clear hb8
              go_wp2_with fail
              go_ret
              exact ⟨rfl, HB8.out⟩
            · have hb : (q' != 0) = true := by simp [c]
              have HF := hid (HRD.out.1 c)
              rw [hb]
              clear c hb
              go_wp2_with fail
              refine (pread_any _ _ _ HV3.out HML.out).mono ?_
              rw [HF.out]
              rintro e w5 ⟨v5, rfl, ⟨s5, rfl, hc5, -⟩, hb5⟩
              obtain ⟨up5, uc5, rfl⟩ : ∃ x y, s5 = .slice x 0 y := by
                obtain ⟨ss, q1, q2, q3⟩ := hc5
                exact q2.form
              rw [show ((Pkt.zero.tag : Nat) : Int) = 0 from rfl]
              have hg5 : Below w5.heap.size w5 (w5.alloc (.cells #[.int .u32 0, .slice up5 0 uc5] 25 (0, 0))) := (Below.refl _ _).alloc (Nat.le_refl _) _
              have HB6 := hid (HB.out.trans ((gr_trans hb5 hg5).mono HB.out.size))
              clear hc5 hb5 hg5
              go_wp2_with fail
              refine (works_any _).mono ?_
              rintro e w8 ⟨rfl, hb8⟩
              have HB8 := hid (gr_trans G1.out (HB6.out.trans (hb8.mono HB6.out.size)))
              clear hb8
              go_wp2_with fail
              go_ret
              exact ⟨rfl, HB8.out⟩
    · obtain rfl : nb = 0 := h0
      have HB2 := hid (gr_trans G1.out hb2)
      obtain ⟨p2, c2, rfl⟩ := RdF.form ho2.rd
      rw [← HNB.out]
      clear ho2 hb2
      go_wp2_with fail
      refine (works_any _).mono ?_
      rintro e w3 ⟨rfl, hb3⟩
      have G3 := hid (gr_trans HB2.out hb3)
      clear hb3
      go_wp2_with fail
      go_ret
      exact ⟨rfl, G3.out⟩
  · go_wp2_with fail
    refine (works_any _).mono ?_
    rintro e w2 ⟨rfl, hb2⟩
    have G2 := hid (gr_trans G1.out hb2)
    clear hb2
    go_wp2_with fail
    go_ret
    exact ⟨rfl, G2.out⟩
end Go.Proofs.Ytahpklciafpdaaa

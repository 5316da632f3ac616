/- MacWhole: the walk of the law. Conditions: the tables of sha hold what its text says. -/
import Derived.Test.YtcjkhhhinjknhaaDoorMacWorks
import Derived.Test.YtcjkhhhinjknhaaDoorMacRef
import Derived.Test.YtcjkhhhinjknhaaDoorMem2
namespace Go.FL
open Go.RowKit
theorem Own.lt {w : World} {base e : Nat} {v : Value} {l : List UInt8} (h : Own w base e v l) : ∀ k, v.ownBlock = some k → k < w.heap.size := by
  intro k hk
  rcases h with ⟨rfl, rfl⟩ | ⟨g, sp, _, rfl, hr, _⟩
  · simp [Value.ownBlock] at hk
  · simp [Value.ownBlock] at hk
    subst hk
    exact hr.lt
theorem blk_at (key : List UInt8) (i : Nat) (hi : i < 64) : (macBlock key)[i]'(by rw [macBlock_length]; exact hi) = if h : i < (macKey key).length then (macKey key)[i] else 0 := by
  simp only [macBlock]
  rw [List.getElem_append]
  split
  · rfl
  · simp
theorem turn_next (key : List UInt8) (b : UInt8) (i : Nat) (hi : i < 64) : ((macTurn key b).take (i + 1)) = (macTurn key b).take i ++ [(macBlock key)[i]'(by rw [macBlock_length]; exact hi) ^^^ b] := by
  rw [List.take_succ_eq_append_getElem (by rw [macTurn_length]; exact hi)]
  simp [macTurn]
end Go.FL
namespace Go.Proofs.YtcjkhhhinjknhaaDoor
open Go.RowKit Go.FL

set_option maxRecDepth 20000 in
set_option maxHeartbeats 4000000 in
theorem macWhole_walk {w : World} (hlaid : ShaLaid w) {v : Value} (key : List UInt8) (hv : Rd w v key) {u : Value} (text : List UInt8) (hu : Rd w u text) :
    Calls Tryd.prog 4 #[v, u] w fun e w' => e = .returned (.bool true) ∧ Below w.heap.size w w' := by
  have HL := hid hlaid
  have HV := hid hv
  have HU := hid hu
  obtain ⟨p, c, rfl, _, hcm, _, hcell⟩ := hv
  obtain ⟨q, cq, rfl, _, hcq, _, hcelq⟩ := hu
  unfold maxLen at hcm hcq
  clear hcell hcelq hlaid
  by_cases hbig : 4096 < key.length ∨ 4096 < text.length
  · have hcase : 4096 < key.length ∨ (key.length ≤ 4096 ∧ 4096 < text.length) := by omega
    clear hbig
    rcases hcase with h1 | ⟨h1, h2⟩
    all_goals
      go_enter Tryd.func4, Tryd.ntmps4
      go_wp2_with fail
      refine (works_any _ HL.out).mono ?_
      rintro e w' ⟨rfl, hb⟩
      go_wp2_with fail
      go_ret
      exact ⟨rfl, hb⟩
  · have hk4 : key.length ≤ 4096 := by omega
    have ht4 : text.length ≤ 4096 := by omega
    clear hbig
    obtain ⟨d, hd⟩ : ∃ d, d = macSum key text := ⟨_, rfl⟩
    obtain ⟨d1, hd1⟩ : ∃ d1, d1 = shaSum (macTurn key 54 ++ text) := ⟨_, rfl⟩
    have HD := hid hd
    have HD1 := hid hd1
    have HDD := hid (show shaSum (macTurn key 92 ++ d1) = d by rw [hd, hd1]; rfl)
    have HD1L := hid (show (bytesV d1).length = 32 by rw [bytesV_length, hd1, shaSum_length])
    have HD1M := hid (show d1.length = 32 by rw [hd1, shaSum_length])
    have heq := eqSelf d (by rw [hd, macSum_length])
    have HEQ := hid heq
    have HT1 := hid (macTurn_length key 54)
    have HT2 := hid (macTurn_length key 92)
    clear hd hd1 heq
    obtain ⟨km, hkm⟩ : ∃ km, km = macKey key := ⟨_, rfl⟩
    have hkl : km.length ≤ 64 := by rw [hkm]; exact macKey_le key
    have HBA := hid (show ∀ i (hi : i < 64), ∃ x, (macTurn key 54).take (i + 1) = (macTurn key 54).take i ++ [x ^^^ 54] ∧ (macTurn key 92).take (i + 1) = (macTurn key 92).take i ++ [x ^^^ 92] ∧ x = if h : i < km.length then km[i] else 0 from
      fun i hi => ⟨_, turn_next key 54 i hi, turn_next key 92 i hi, by subst hkm; exact blk_at key i hi⟩)
    have HKM := hid hkm
    have hzo := zeroOut
    have HZO := hid hzo
    clear hkm
    by_cases hlong : 64 < key.length
    case' pos =>
      have HKS := hid (show km = shaSum key by rw [HKM.out, macKey, if_pos hlong])
      have HKL := hid (show (bytesV km).length = 32 by rw [HKS.out, bytesV_length, shaSum_length])
      have HK32 := hid (show km.length = 32 by rw [HKS.out, shaSum_length])
      go_enter Tryd.func4, Tryd.ntmps4
      go_wp2_with fail
      refine (copyBytes_any _ key _ HV.out (by omega)).mono ?_
      rintro e w1 ⟨v1, rfl, ho1, hb1⟩
      obtain ⟨z1, c1, rfl⟩ := ho1.form
      have G1 := hid hb1
      clear ho1 hb1
      go_wp2_with fail
      refine (shaOf_any _ key _ (HV.out.mono G1.out) (HL.out.mono G1.out) (by omega)).mono ?_
      rw [← HKS.out]
      rintro e w2 ⟨rfl, hb2⟩
      have G2 := hid (gr_trans G1.out hb2)
      clear hb2
      go_wp2_with (refine wpList_store_rowV rfl 25 (.tmp 6) (.tmp 27) rfl w2.heap.size (bytesV km) zeros32 25 rfl rfl (RowV.new w2 25 zeros32) ?hi ?ho (bytesV_oneCell km) ?_)
      case hi => rw [HKL.out]; kernel_rfl
      case ho => rw [HKL.out, zeros32_length]
      intro ws hr3 hg3
      obtain ⟨z, hz⟩ : ∃ z : Option Addr, z = some ⟨w2.heap.size, 0, none⟩ := ⟨_, rfl⟩
      have HRK := hid (show Rd ws (.slice z km.length 32) km by
        have := hr3.out.to_row.rd 32 32 (by rw [HK32.out]; exact Nat.le_refl _) (Nat.le_refl _) (by unfold maxLen; omega)
        rw [hz, HK32.out]
        rwa [List.take_of_length_le (by rw [HK32.out]; exact Nat.le_refl _)] at this)
      have GS := hid (gr_trans G2.out (gr_boxed hg3.out rfl))
      obtain ⟨cc, hcc⟩ : ∃ cc : Nat, cc = 32 := ⟨_, rfl⟩
      clear hr3 hg3
      go_wp2_with fail
      rw [← hz]
      rw [show (Value.slice z 32 32) = Value.slice z km.length cc by rw [HK32.out, hcc]]
      rw [← hcc] at HRK
      clear hz hcc HKL HK32 HKS
    case' neg =>
      have HKS := hid (show key = km by rw [HKM.out, macKey, if_neg hlong])
      go_enter Tryd.func4, Tryd.ntmps4
      go_wp2_with fail
      refine (copyBytes_any _ key _ HV.out (by omega)).mono ?_
      rintro e ws ⟨v5, rfl, ho5, hb5⟩
      have GS := hid hb5
      rw [HKS.out] at ho5
      have HRK := hid ho5.rd
      obtain ⟨z, cc, rfl⟩ := ho5.form
      have hnb : ¬ 64 < km.length := by omega
      clear ho5 hb5 HKS
      go_wp2_with fail
    all_goals
      clear hzo
      go_loopw [7, 8, 9, 10] (fun a b y _ wr => ∃ i : Nat, i ≤ 64 ∧ y = .int .i64 (i : Int) ∧ Hid (Own wr ws.heap.size 5 a ((macTurn key 54).take i)) ∧ Hid (Own wr ws.heap.size 5 b ((macTurn key 92).take i)) ∧ Hid (∀ k, a.ownBlock = some k → b.ownBlock ≠ some k) ∧ Hid (Below ws.heap.size ws wr)) (fun _ _ y _ _ => 64 - (intOf y).toNat)
      case atStart => exact ⟨0, Nat.zero_le _, rfl, Own.nil _ _ _, Own.nil _ _ _, fun k hk => by simp [Value.ownBlock] at hk, Below.refl _ _⟩
      case round =>
        rename_i a b _ _
        obtain ⟨i, hi, rfl, hoa, hob, hap, hb⟩ := hrel
        have HOA := hid hoa.out
        have HOB := hid hob.out
        have HAP := hid hap.out
        have HB := hid hb.out
        clear hoa hob hap hb
        by_cases hlt : i < 64
        · obtain ⟨x, hx1, hx2, hx3⟩ := HBA.out i hlt
          have HX1 := hid hx1
          have HX2 := hid hx2
          have hxb := byte_lt x
          have hc54 := bits_xor8 x 54
          have hc92 := bits_xor8 x 92
          rw [show (((54 : UInt8).toNat : Nat) : Int) = 54 from rfl] at hc54
          rw [show (((92 : UInt8).toNat : Nat) : Int) = 92 from rfl] at hc92
          generalize x ^^^ 54 = y1 at *
          generalize x ^^^ 92 = y2 at *
          clear hx1 hx2
          have hw64 : IntKind.i64.wrap ((i : Int) + 1) = (i : Int) + 1 := by rw [IntKind.wrap_i64]; omega
          have HWS := hid hw64
          clear hw64
          by_cases hin : i < km.length
          case' pos =>
            rw [dif_pos hin] at hx3
            obtain ⟨_, _, e9, _, _, _, hcell⟩ := HRK.out.mono HB.out
            simp only [Value.slice.injEq, true_and] at e9
            obtain ⟨rfl, rfl⟩ := e9
            obtain ⟨bk, ok, rfl, hcx⟩ := hcell i hin
            rw [← hx3] at hcx
            clear hcell hx3
          case' neg =>
            rw [dif_neg hin] at hx3
            subst hx3
            rw [show (((0 : UInt8).toNat : Nat) : Int) = 0 from rfl] at hc54 hc92
          all_goals
            go_wp2_with (at_builtin; refine wpList_append_Own2 rfl (.tmp 41) (.tmp 44) 22 rfl ws.heap.size 5 Tryd.underlying22 infoU8 _ _ ((macTurn key 54).take i) [y1] rfl (HOA.out.alloc _) rfl ?hrd ?hlen ?hbase ?_)
            case hrd => exact rd_new wr 5 [y1] 1 _ rfl rfl (by unfold maxLen; omega)
            case hlen => simp; omega
            case hbase => have := HB.out.size; simp; omega
            intro v3 w3 ho3 hg3 hv3
            rw [← HX1.out] at ho3
            have HB3 := hid ((HB.out.alloc HB.out.size (.cells #[.int .u8 (y1.toNat : Int)] 5 (0, 0))).grown hg3 (by have := HB.out.size; simp; omega) HOA.out.ge)
            have HOB3 := hid ((HOB.out.alloc (.cells #[.int .u8 (y1.toNat : Int)] 5 (0, 0))).keep hg3 (fun k hk e => HAP.out k e hk))
            have HAP3 := hid (show ∀ k, v3.ownBlock = some k → Value.ownBlock _ ≠ some k from fun k hk e => by
              rcases hv3 with h | h
              · exact HAP.out k (h.symm.trans hk) e
              · have := HOB.out.lt k e
                rw [h] at hk
                simp at hk
                omega)
            have HO3 := hid ho3
            have hs3 := HB3.out.size
            clear ho3 hg3 hv3 HOA HOB HAP HB HX1
            go_wp2_with (at_builtin; refine wpList_append_Own2 rfl (.tmp 46) (.tmp 49) 22 rfl ws.heap.size 5 Tryd.underlying22 infoU8 _ _ ((macTurn key 92).take i) [y2] rfl (HOB3.out.alloc _) rfl ?hrd2 ?hlen2 ?hbase2 ?_)
            case hrd2 => exact rd_new w3 5 [y2] 1 _ rfl rfl (by unfold maxLen; omega)
            case hlen2 => simp; omega
            case hbase2 => simp; omega
            intro v4 w4 ho4 hg4 hv4
            rw [← HX2.out] at ho4
            have HB4 := hid ((HB3.out.alloc HB3.out.size (.cells #[.int .u8 (y2.toNat : Int)] 5 (0, 0))).grown hg4 (by simp; omega) HOB3.out.ge)
            have HO34 := hid ((HO3.out.alloc (.cells #[.int .u8 (y2.toNat : Int)] 5 (0, 0))).keep hg4 (fun k hk e => HAP3.out k hk e))
            have HAP4 := hid (show ∀ k, v3.ownBlock = some k → v4.ownBlock ≠ some k from fun k hk e => by
              rcases hv4 with h | h
              · exact HAP3.out k hk (h.symm.trans e)
              · have := HO3.out.lt k hk
                rw [h] at e
                simp at e
                omega)
            have HO4 := hid ho4
            clear ho4 hg4 hv4 HO3 HOB3 HAP3 HB3 HX2 hs3
            go_wp2_with fail
            go_roundw
            case rel => exact ⟨i + 1, by omega, by go_num, HO34.out, HO4.out, HAP4.out, HB4.out⟩
            case measure => simp [intOf]; omega
        · obtain rfl : i = 64 := by omega
          rw [List.take_of_length_le (by rw [HT1.out]; exact Nat.le_refl _)] at HOA
          rw [List.take_of_length_le (by rw [HT2.out]; exact Nat.le_refl _)] at HOB
          clear HBA HRK hlt
          have GB := hid (gr_trans GS.out HB.out)
          go_wp2_with (at_builtin; refine wpList_append_Own2 rfl (.tmp 51) (.tmp 52) 22 rfl ws.heap.size 5 Tryd.underlying22 infoU8 _ _ (macTurn key 54) text rfl HOA.out rfl (HU.out.mono GB.out) ?hlen5 HB.out.size ?_)
          case hlen5 => rw [HT1.out]; omega
          intro v3 w3 ho3 hg3 hv3
          have HO3 := hid ho3
          have HB3 := hid (HB.out.grown hg3 HB.out.size HOA.out.ge)
          have HOB3 := hid (HOB.out.keep hg3 (fun k hk e => HAP.out k e hk))
          have G3 := hid (gr_trans GS.out HB3.out)
          have HL3 := hid (show (macTurn key 54 ++ text).length < 576460752303423488 by rw [List.length_append, HT1.out]; omega)
          have hzo := HZO.out
          clear ho3 hg3 hv3 HOA HOB HAP HB
          go_wp2_with fail
          refine (shaOf_any _ (macTurn key 54 ++ text) _ HO3.out.rd (HL.out.mono G3.out) HL3.out).mono ?_
          rw [← HD1.out]
          rintro e w4 ⟨rfl, hb4⟩
          have HOB4 := hid (HOB3.out.mono hb4)
          have HB4 := hid (HB3.out.trans (hb4.mono HB3.out.size))
          clear hb4
          go_wp2_with (refine wpList_store_rowV rfl 25 (.tmp 11) (.tmp 55) rfl w4.heap.size (bytesV d1) zeros32 25 rfl rfl (RowV.new w4 25 zeros32) ?hi4 ?ho4 (bytesV_oneCell d1) ?_)
          case hi4 => rw [HD1L.out]; kernel_rfl
          case ho4 => rw [HD1L.out, zeros32_length]
          intro w5 hr5 hg5
          have HRD5 := hid (show Rd w5 (.slice (some ⟨w4.heap.size, 0, none⟩) 32 32) d1 by
            have := hr5.out.to_row.rd 32 32 (by rw [HD1M.out]; exact Nat.le_refl _) (Nat.le_refl _) (by unfold maxLen; omega)
            rwa [List.take_of_length_le (by rw [HD1M.out]; exact Nat.le_refl _)] at this)
          have hgr := gr_boxed hg5.out rfl
          have HOB5 := hid (HOB4.out.mono hgr)
          have HB5 := hid (HB4.out.trans (hgr.mono HB4.out.size))
          clear hr5 hg5 hgr hzo
          go_wp2_with (at_builtin; refine wpList_append_Own2 rfl (.tmp 56) (.tmp 57) 22 rfl ws.heap.size 5 Tryd.underlying22 infoU8 _ _ (macTurn key 92) d1 rfl HOB5.out rfl HRD5.out ?hlen6 HB5.out.size ?_)
          case hlen6 => rw [HT2.out, HD1M.out]; omega
          intro v6 w6 ho6 hg6 hv6
          have HO6 := hid ho6
          have HB6 := hid (HB5.out.grown hg6 HB5.out.size HOB5.out.ge)
          have G6 := hid (gr_trans GS.out HB6.out)
          have HL6 := hid (show (macTurn key 92 ++ d1).length < 576460752303423488 by rw [List.length_append, HT2.out, HD1M.out]; omega)
          have heq := HEQ.out
          clear ho6 hg6 hv6
          go_wp2_with fail
          refine (macOf_any _ _ key text _ (HV.out.mono G6.out) (HU.out.mono G6.out) (HL.out.mono G6.out) (by omega) (by omega)).mono ?_
          rw [← HD.out]
          rintro e w7 ⟨rfl, hb7⟩
          have HO7 := hid (HO6.out.mono hb7)
          have G7 := hid (gr_trans G6.out hb7)
          clear hb7
          go_wp2_with fail
          refine (shaOf_any _ (macTurn key 92 ++ d1) _ HO7.out.rd (HL.out.mono G7.out) HL6.out).mono ?_
          rw [HDD.out]
          rintro e w8 ⟨rfl, hb8⟩
          have G8 := hid (gr_trans G7.out hb8)
          clear hb8
          go_wp2_with fail
          refine (works_any _ (HL.out.mono G8.out)).mono ?_
          rintro e w9 ⟨rfl, hb9⟩
          go_wp2_with fail
          go_ret
          exact ⟨rfl, gr_trans G8.out hb9⟩
end Go.Proofs.YtcjkhhhinjknhaaDoor

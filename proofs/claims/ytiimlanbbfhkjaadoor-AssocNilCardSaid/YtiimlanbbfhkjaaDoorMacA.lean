/- Joined: MacProg, MacOf, MacRef, Alike, MacSameK. -/
import Derived.Test.YtiimlanbbfhkjaaDoorShaA
import Derived.Test.YtiimlanbbfhkjaaDoorBaseB
import Derived.Test.YtiimlanbbfhkjaaDoorBaseF
import Derived.Test.YtiimlanbbfhkjaaDoorBaseD
import Derived.Test.YtiimlanbbfhkjaaDoorBaseA
import Derived.BigQuiet
import Derived.Deep.QuietTactic
import Derived.Test.YtiimlanbbfhkjaaDoorRows
set_option linter.unusedSimpArgs false
set_option linter.unusedVariables false




namespace Go.Proofs.YtiimlanbbfhkjaaDoor

open Go.RowKit Go.FL

set_option maxRecDepth 20000 in
set_option maxHeartbeats 2000000 in
theorem macTurn_any (g : Nat) (blk : List UInt8) (hbl : blk.length = 64) (by' : UInt8) (v : Value) (t : List UInt8) (w : World) (hrow : RowV w g 136 (bytesV blk)) (hv : Rd w v t) (hlaid : ShaLaid w) (ht : t.length ≤ 1048000) :
    Calls Tryd.prog 87 #[.int .u8 (by'.toNat : Int), v, .pointer (some ⟨g, 0, none⟩)] w fun e w' => e = .returned (.agg (bytesV (shaSum (blk.map (· ^^^ by') ++ t))).toArray) ∧ Below w.heap.size w w' := by
  obtain ⟨m, hm⟩ : ∃ m, m = blk.map (· ^^^ by') := ⟨_, rfl⟩
  rw [← hm]
  have HM := hid hm
  have HMT := hid (show (m ++ t).length < 576460752303423488 by rw [hm, List.length_append, List.length_map]; omega)
  have HML := hid (show m.length + t.length < 1152921504606846976 by rw [hm, List.length_map]; omega)
  obtain ⟨d, hd⟩ : ∃ d, d = shaSum (m ++ t) := ⟨_, rfl⟩
  rw [← hd]
  have HD := hid hd
  have HDL := hid (show (bytesV d).length = 32 by rw [bytesV_length, hd, shaSum_length])
  clear hm hd
  have HL := hid hlaid
  have HV := hid hv
  have HBL := hid hbl
  have HR := hid hrow
  have HDB := hid (show (bytesV blk).length = 64 by rw [bytesV_length, hbl])
  have hzo := zeroOut
  have HOUT0 := hid (RowV.new w 124 zeros32)
  have HB0 := hid (show Below w.heap.size w (w.alloc (.cells zeros32.toArray 124 (0, 0))) from (Below.refl _ _).alloc (Nat.le_refl _) _)
  have hsz0 : (w.alloc (.cells zeros32.toArray 124 (0, 0))).heap.size = w.heap.size + 1 := by simp
  have HIX := hid (show ∀ (i : Nat), i < 64 → ∃ h : i < blk.length, ∀ wx, (Instr.index 136 (.agg (bytesV blk).toArray) (.int .i64 (i : Int))).run Tryd.prog wx = .ok (.int .u8 ((blk[i]'h).toNat : Int)) wx from
    fun i hi => ⟨by omega, run_index_row (P := Tryd.prog) 136 5 64 Tryd.underlying136 .u8 Tryd.underlying5 (by kernel_rfl) (bytesV blk) i _ hi (by simp [bytesV, hbl, hi])⟩)
  have hby := byte_lt by'
  clear hlaid hrow hbl hv
  go_enter Tryd.func87, Tryd.ntmps87
  go_wp2_with fail
  generalize w.alloc (.cells zeros32.toArray 124 (0, 0)) = w0 at *
  refine (new_any w0).mono ?_
  rintro e w1 ⟨rfl, hs1, hb1⟩
  rw [hsz0] at hs1 ⊢
  have HS1 := hid hs1
  have HB1 := hid (HB0.out.trans (hb1.mono (by omega)))
  have HOUT1 := hid (HOUT0.out.mono hb1)
  have HR1 := hid (HR.out.mono HB1.out)
  have hsz1 : w.heap.size + 1 < w1.heap.size := hs1.lt
  clear hs1 hb1 hzo hsz0 HB0 HOUT0 HR
  go_wp2_with (refine wpList_load_rowV rfl 136 (.tmp 2) rfl g (bytesV blk) 136 rfl _ HR1.out Tryd.underlying136 rfl ?hi ?_)
  case hi => rw [HDB.out]; kernel_rfl
  go_wp2_with fail
  go_loopw [11] (fun y wr => ∃ i : Nat, i ≤ 64 ∧ y = .int .i64 (i : Int) ∧ Hid (ShaSt wr (w.heap.size + 1) 148 ((blk.take i).map (· ^^^ by'))) ∧ Hid (w1.grownBy wr (some (w.heap.size + 1)))) (fun y _ => 64 - (intOf y).toNat)
  case atStart => exact ⟨0, Nat.zero_le _, rfl, HS1.out, gb_refl _ _⟩
  case round =>
    clear HS1
    obtain ⟨i, hi, rfl, hs, hg⟩ := hrel
    by_cases hlt : i < 64
    · obtain ⟨hil, hix⟩ := HIX.out i hlt
      have hnx : (blk.take (i + 1)).map (· ^^^ by') = (blk.take i).map (· ^^^ by') ++ [blk[i] ^^^ by'] := by
        rw [List.take_succ_eq_append_getElem hil, List.map_append]
        rfl
      have hml : ((blk.take i).map (· ^^^ by')).length ≤ 64 := by rw [List.length_map]; exact Nat.le_trans (List.length_take_le _ _) hi
      have hxor := bits_xor8 blk[i] by'
      generalize blk[i] = x at *
      have hbx := byte_lt (x ^^^ by')
      have HNX := hid hnx
      have HS := hid hs.out
      have HG := hid hg.out
      have hsz := hg.out.size
      have HLW := hid (HL.out.mono HB1.out)
      have HBw := hid (HB1.out.trans (gb_below hg.out (by omega) HB1.out.size))
      clear hs hg hnx
      go_wp2_with fail
      refine (write_all (w.heap.size + 1) ((blk.take i).map (· ^^^ by')) [x ^^^ by'] _ _ (HS.out.mono ((Below.refl _ _).alloc (Nat.le_refl _) _)) (rd_new wr 5 _ 1 _ rfl (by simp [bytesV]) (by unfold maxLen; omega)) (.inr (fun k hk => by simp [Value.ownBlock] at hk; omega)) ((HL.out.mono HBw.out).mono ((Below.refl _ _).alloc (Nat.le_refl _) _)) (by simp; omega)).mono ?_
      rintro e w2 ⟨rfl, hs2, hg2⟩
      rw [← HNX.out] at hs2
      have HS2 := hid hs2
      have HG2 := hid (gb_trans (gb_alloc HG.out _) hg2)
      clear hs2 hg2 HS HG
      go_wp2
      go_roundw
      case rel => exact ⟨i + 1, by omega, by go_num, HS2.out, HG2.out⟩
      case measure => simp [intOf]; omega
    · obtain rfl : i = 64 := by omega
      have HS := hid hs.out
      rw [List.take_of_length_le (by rw [HBL.out]; exact Nat.le_refl _), ← HM.out] at HS
      have HB := hid (HB1.out.trans (gb_below hg.out (by omega) HB1.out.size))
      have HO := hid (HOUT1.out.grown hg.out (by simp))
      have HOL := hid (rd_old HV.out (w.heap.size + 1) (by omega))
      clear hs hg HIX HR1 HOUT1
      go_wp2_with fail
      refine (write_all (w.heap.size + 1) m t _ _ HS.out (HV.out.mono HB.out) HOL.out (HL.out.mono HB.out) HML.out).mono ?_
      rintro e w2 ⟨rfl, hs2, hg2⟩
      have HS2 := hid hs2
      have HB2 := hid (HB.out.trans (gb_below hg2 (by omega) HB.out.size))
      have HO2 := hid (HO.out.grown hg2 (by simp))
      clear hs2 hg2 HS HO
      go_wp2_with fail
      refine (shaSum_any (w.heap.size + 1) (m ++ t) _ HS2.out (HL.out.mono HB2.out) HMT.out).mono ?_
      rw [← HD.out]
      rintro e w3 ⟨rfl, hb3⟩
      have HB3 := hid (HB2.out.trans (hb3.mono HB2.out.size))
      have HO3 := hid (HO2.out.mono hb3)
      clear hb3
      go_wp2_with (refine wpList_store_rowV rfl 124 (.tmp 5) (.tmp 25) rfl w.heap.size (bytesV d) zeros32 124 rfl rfl HO3.out ?hi2 ?ho (bytesV_oneCell d) ?_)
      case hi2 => rw [HDL.out]; kernel_rfl
      case ho => rw [HDL.out, zeros32_length]
      intro w7 hr7 hg7
      have HBF := hid (show Below w.heap.size w w7 from HB3.out.trans (gb_below hg7.out (Nat.le_refl _) HB3.out.size))
      go_wp2
      exact bodyPost_ret (v := .agg (bytesV d).toArray) (results_cell_row Tryd.results87 _ _ w.heap.size 124 (bytesV d).toArray (0, 0) _ rfl hr7.out Tryd.underlying124 rfl (by rw [List.size_toArray, HDL.out]; kernel_rfl)) rfl ⟨rfl, HBF.out⟩
end Go.Proofs.YtiimlanbbfhkjaaDoor




namespace Go.FL

open Go.RowKit

def zeros64 : List Value := bytesV (List.replicate 64 0)
theorem zeros64_length : zeros64.length = 64 := by simp [zeros64, bytesV_length]
theorem block_row (k : List UInt8) (h : k.length ≤ 64) : splice zeros64 0 (bytesV k) = bytesV (k ++ List.replicate (64 - k.length) 0) := by
  rw [zeros64, splice, List.take_zero, List.nil_append, bytesV_append, Nat.zero_add, bytesV_length, ← bytesV_drop, List.drop_replicate]
theorem macBlock_row (key : List UInt8) : splice zeros64 0 (bytesV (macKey key)) = bytesV (macBlock key) := block_row _ (macKey_le key)
end Go.FL

namespace Go.Proofs.YtiimlanbbfhkjaaDoor

open Go.RowKit Go.FL

theorem zeroBlk (w : World) : (zeroValue 136).run Tryd.prog w = .ok (.agg zeros64.toArray) w := by kernel_rfl
theorem macTurn_at (g : Nat) (key : List UInt8) (by' : UInt8) (k : Int) (hk : k = (by'.toNat : Int)) (v : Value) (t : List UInt8) (w : World) (hrow : RowV w g 136 (bytesV (macBlock key))) (hv : Rd w v t) (hlaid : ShaLaid w) (ht : t.length ≤ 1048000) :
    Calls Tryd.prog 87 #[.int .u8 k, v, .pointer (some ⟨g, 0, none⟩)] w fun e w' => e = .returned (.agg (bytesV (shaSum (macTurn key by' ++ t))).toArray) ∧ Below w.heap.size w w' := by
  subst hk
  exact macTurn_any g (macBlock key) (macBlock_length key) by' v t w hrow hv hlaid ht

set_option maxRecDepth 20000 in
set_option maxHeartbeats 2000000 in
theorem macOf_any (v u : Value) (key text : List UInt8) (w : World) (hv : Rd w v key) (hu : Rd w u text) (hlaid : ShaLaid w) (hk : key.length ≤ 1048000) (ht : text.length ≤ 1048000) :
    Calls Tryd.prog 77 #[v, u] w fun e w' => e = .returned (.agg (bytesV (macSum key text)).toArray) ∧ Below w.heap.size w w' := by
  obtain ⟨d, hd⟩ : ∃ d, d = macSum key text := ⟨_, rfl⟩
  rw [← hd]
  obtain ⟨d1, hd1⟩ : ∃ d1, d1 = shaSum (macTurn key 54 ++ text) := ⟨_, rfl⟩
  have HD1 := hid hd1
  have HD := hid (show d = shaSum (macTurn key 92 ++ d1) by rw [hd, hd1]; rfl)
  have HDL := hid (show (bytesV d).length = 32 by rw [bytesV_length, hd, macSum_length])
  have HD1L := hid (show (bytesV d1).length = 32 by rw [bytesV_length, hd1, shaSum_length])
  have HD1M := hid (show d1.length = 32 by rw [hd1, shaSum_length])
  obtain ⟨km, hkm⟩ : ∃ km, km = macKey key := ⟨_, rfl⟩
  have hkl : km.length ≤ 64 := by rw [hkm]; exact macKey_le key
  have HROW := hid (show splice zeros64 0 (bytesV km) = bytesV (macBlock key) by rw [hkm]; exact macBlock_row key)
  have HKM := hid hkm
  clear hd hd1 hkm
  have HV := hid hv
  have HU := hid hu
  have HL := hid hlaid
  clear hlaid
  obtain ⟨p, c, rfl, hlc, hcm, hpn, hcell⟩ := hv
  obtain ⟨q, cq, rfl, hlq, hcq, hqn, hcelq⟩ := hu
  unfold maxLen at hcm hcq
  clear hcell hcelq
  have hzo := zeroOut
  have hzb := zeroBlk
  have HOUT0 := hid ((RowV.new w 124 zeros32).alloc (.cells zeros64.toArray 136 (0, 0)))
  have HBLK0 := hid (show RowV ((w.alloc (.cells zeros32.toArray 124 (0, 0))).alloc (.cells zeros64.toArray 136 (0, 0))) (w.heap.size + 1) 136 zeros64 by simpa using RowV.new (w.alloc (.cells zeros32.toArray 124 (0, 0))) 136 zeros64)
  have HB0 := hid (show Below w.heap.size w ((w.alloc (.cells zeros32.toArray 124 (0, 0))).alloc (.cells zeros64.toArray 136 (0, 0))) from ((Below.refl _ _).alloc (Nat.le_refl _) _).alloc (by simp) _)
  have hsz0 : ((w.alloc (.cells zeros32.toArray 124 (0, 0))).alloc (.cells zeros64.toArray 136 (0, 0))).heap.size = w.heap.size + 2 := by simp
  by_cases hbig : 64 < key.length
  · have hks : key.length < 576460752303423488 := by omega
    have HKS := hid (show km = shaSum key by rw [HKM.out, macKey, if_pos hbig])
    have HKL := hid (show (bytesV km).length = 32 by rw [HKS.out, bytesV_length, shaSum_length])
    have HKM32 := hid (show km.length = 32 by rw [HKS.out, shaSum_length])
    go_enter Tryd.func77, Tryd.ntmps77
    go_wp2_with fail
    generalize (w.alloc (.cells zeros32.toArray 124 (0, 0))).alloc (.cells zeros64.toArray 136 (0, 0)) = w0 at *
    refine (shaOf_any _ key _ (HV.out.mono HB0.out) (HL.out.mono HB0.out) hks).mono ?_
    rw [← HKS.out]
    rintro e w1 ⟨rfl, hb1⟩
    have HB1 := hid (HB0.out.trans (hb1.mono (by omega)))
    have HOUT1 := hid (HOUT0.out.mono hb1)
    have HBLK1 := hid (HBLK0.out.mono hb1)
    have hsz1 : w.heap.size + 1 < w1.heap.size := by have := hb1.size; omega
    clear hb1 hsz0
    go_wp2_with (refine wpList_store_rowV rfl 124 (.tmp 6) (.tmp 13) rfl w1.heap.size (bytesV km) zeros32 124 rfl rfl (RowV.new w1 124 zeros32) ?hi ?ho (bytesV_oneCell km) ?_)
    case hi => rw [HKL.out]; kernel_rfl
    case ho => rw [HKL.out, zeros32_length]
    intro w2 hr2 hg2
    have HR2 := hid hr2.out
    have HRD2 := hid (show Rd w2 (.slice (some ⟨w1.heap.size, 0, none⟩) 32 32) km by
      have := hr2.out.to_row.rd 32 32 (by rw [HKM32.out]; exact Nat.le_refl _) (Nat.le_refl _) (by unfold maxLen; omega)
      rwa [List.take_of_length_le (by rw [HKM32.out]; exact Nat.le_refl _)] at this)
    have hg2' := gb_below (B := w1.heap.size) hg2.out (Nat.le_refl _) (by simp)
    have hgr : Below w1.heap.size w1 w2 := ((Below.refl _ _).alloc (Nat.le_refl _) _).trans hg2'
    have HB2 := hid (HB1.out.trans (hgr.mono (by omega)))
    have HOUT2 := hid (HOUT1.out.mono hgr)
    have HBLK2 := hid (HBLK1.out.mono hgr)
    have hsz2 : w.heap.size + 1 < w2.heap.size := by have := hgr.size; omega
    clear hr2 hg2 hg2' hgr
    obtain ⟨w3, hcp, hr3, hg3⟩ := run_copy_rd (P := Tryd.prog) w2 25 25 3 5 Tryd.underlying25 (by kernel_rfl) (w.heap.size + 1) 0 64 64 _ km HRD2.out 32 (by rw [HKM32.out]; rfl) zeros64 136 HBLK2.out (by rw [zeros64_length]; omega)
    rw [List.take_of_length_le (by rw [HKM32.out]; exact Nat.le_refl _), HROW.out] at hr3
    have HR3 := hid hr3
    have HB3 := hid (HB2.out.trans (gb_below hg3 (by omega) HB2.out.size))
    have HOUT3 := hid (HOUT2.out.grown hg3 (by simp))
    have hsz3 : w.heap.size + 1 < w3.heap.size := by have := hg3.size; omega
    clear hr3 hg3
    go_wp2_with fail
    refine (macTurn_at (w.heap.size + 1) key 54 54 rfl _ text _ HR3.out (HU.out.mono HB3.out) (HL.out.mono HB3.out) ht).mono ?_
    rw [← HD1.out]
    rintro e w4 ⟨rfl, hb4⟩
    have HB4 := hid (HB3.out.trans (hb4.mono HB3.out.size))
    have HOUT4 := hid (HOUT3.out.mono hb4)
    have HR4 := hid (HR3.out.mono hb4)
    have hsz4 : w.heap.size + 1 < w4.heap.size := by have := hb4.size; omega
    clear hb4
    go_wp2_with (refine wpList_store_rowV rfl 124 (.tmp 8) (.tmp 21) rfl w4.heap.size (bytesV d1) zeros32 124 rfl rfl (RowV.new w4 124 zeros32) ?hi4 ?ho4 (bytesV_oneCell d1) ?_)
    case hi4 => rw [HD1L.out]; kernel_rfl
    case ho4 => rw [HD1L.out, zeros32_length]
    intro w5 hr5 hg5
    have HRD5 := hid (show Rd w5 (.slice (some ⟨w4.heap.size, 0, none⟩) 32 32) d1 by
      have := hr5.out.to_row.rd 32 32 (by rw [HD1M.out]; exact Nat.le_refl _) (Nat.le_refl _) (by unfold maxLen; omega)
      rwa [List.take_of_length_le (by rw [HD1M.out]; exact Nat.le_refl _)] at this)
    have hgr : Below w4.heap.size w4 w5 := ((Below.refl _ _).alloc (Nat.le_refl _) _).trans (gb_below (B := w4.heap.size) hg5.out (Nat.le_refl _) (by simp))
    have HB5 := hid (HB4.out.trans (hgr.mono (by omega)))
    have HOUT5 := hid (HOUT4.out.mono hgr)
    have HR5 := hid (HR4.out.mono hgr)
    clear hr5 hg5 hgr
    go_wp2_with fail
    refine (macTurn_at (w.heap.size + 1) key 92 92 rfl _ d1 _ HR5.out HRD5.out (HL.out.mono HB5.out) (by rw [HD1M.out]; omega)).mono ?_
    rw [← HD.out]
    rintro e w6 ⟨rfl, hb6⟩
    have HB6 := hid (HB5.out.trans (hb6.mono HB5.out.size))
    have HOUT6 := hid (HOUT5.out.mono hb6)
    clear hb6
    go_wp2_with (refine wpList_store_rowV rfl 124 (.tmp 4) (.tmp 24) rfl w.heap.size (bytesV d) zeros32 124 rfl rfl HOUT6.out ?hi7 ?ho7 (bytesV_oneCell d) ?_)
    case hi7 => rw [HDL.out]; kernel_rfl
    case ho7 => rw [HDL.out, zeros32_length]
    intro w7 hr7 hg7
    have HBF := hid (show Below w.heap.size w w7 from HB6.out.trans (gb_below hg7.out (Nat.le_refl _) HB6.out.size))
    go_wp2
    exact bodyPost_ret (v := .agg (bytesV d).toArray) (results_cell_row Tryd.results77 _ _ w.heap.size 124 (bytesV d).toArray (0, 0) _ rfl hr7.out Tryd.underlying124 rfl (by rw [List.size_toArray, HDL.out]; kernel_rfl)) rfl ⟨rfl, HBF.out⟩
  · have HKS := hid (show km = key by rw [HKM.out, macKey, if_neg hbig])
    obtain ⟨w2, hW2⟩ : ∃ w2, w2 = (w.alloc (.cells zeros32.toArray 124 (0, 0))).alloc (.cells zeros64.toArray 136 (0, 0)) := ⟨_, rfl⟩
    rw [← hW2] at HOUT0 HBLK0 HB0 hsz0
    have HRD2 := hid (show Rd w2 (.slice p key.length c) km by rw [HKS.out]; exact HV.out.mono HB0.out)
    have HB2 := hid HB0.out
    have HOUT2 := hid HOUT0.out
    have HBLK2 := hid HBLK0.out
    have hsz2 : w.heap.size + 1 < w2.heap.size := by omega
    have hnb : key.length ≤ 64 := by omega
    obtain ⟨w3, hcp, hr3, hg3⟩ := run_copy_rd (P := Tryd.prog) w2 25 25 3 5 Tryd.underlying25 (by kernel_rfl) (w.heap.size + 1) 0 64 64 _ km HRD2.out key.length (by rw [HKS.out]; exact (Nat.min_eq_left hnb).symm) zeros64 136 HBLK2.out (by rw [zeros64_length]; omega)
    rw [List.take_of_length_le (by rw [HKS.out]; exact Nat.le_refl _), HROW.out] at hr3
    have HR3 := hid hr3
    have HB3 := hid (HB2.out.trans (gb_below hg3 (by omega) HB2.out.size))
    have HOUT3 := hid (HOUT2.out.grown hg3 (by simp))
    have hsz3 : w.heap.size + 1 < w3.heap.size := by have := hg3.size; omega
    rw [hW2] at hcp
    clear hr3 hg3 hsz0 hW2
    go_enter Tryd.func77, Tryd.ntmps77
    go_wp2_with fail
    refine (macTurn_at (w.heap.size + 1) key 54 54 rfl _ text _ HR3.out (HU.out.mono HB3.out) (HL.out.mono HB3.out) ht).mono ?_
    rw [← HD1.out]
    rintro e w4 ⟨rfl, hb4⟩
    have HB4 := hid (HB3.out.trans (hb4.mono HB3.out.size))
    have HOUT4 := hid (HOUT3.out.mono hb4)
    have HR4 := hid (HR3.out.mono hb4)
    have hsz4 : w.heap.size + 1 < w4.heap.size := by have := hb4.size; omega
    clear hb4
    go_wp2_with (refine wpList_store_rowV rfl 124 (.tmp 8) (.tmp 21) rfl w4.heap.size (bytesV d1) zeros32 124 rfl rfl (RowV.new w4 124 zeros32) ?hi4 ?ho4 (bytesV_oneCell d1) ?_)
    case hi4 => rw [HD1L.out]; kernel_rfl
    case ho4 => rw [HD1L.out, zeros32_length]
    intro w5 hr5 hg5
    have HRD5 := hid (show Rd w5 (.slice (some ⟨w4.heap.size, 0, none⟩) 32 32) d1 by
      have := hr5.out.to_row.rd 32 32 (by rw [HD1M.out]; exact Nat.le_refl _) (Nat.le_refl _) (by unfold maxLen; omega)
      rwa [List.take_of_length_le (by rw [HD1M.out]; exact Nat.le_refl _)] at this)
    have hgr : Below w4.heap.size w4 w5 := ((Below.refl _ _).alloc (Nat.le_refl _) _).trans (gb_below (B := w4.heap.size) hg5.out (Nat.le_refl _) (by simp))
    have HB5 := hid (HB4.out.trans (hgr.mono (by omega)))
    have HOUT5 := hid (HOUT4.out.mono hgr)
    have HR5 := hid (HR4.out.mono hgr)
    clear hr5 hg5 hgr
    go_wp2_with fail
    refine (macTurn_at (w.heap.size + 1) key 92 92 rfl _ d1 _ HR5.out HRD5.out (HL.out.mono HB5.out) (by rw [HD1M.out]; omega)).mono ?_
    rw [← HD.out]
    rintro e w6 ⟨rfl, hb6⟩
    have HB6 := hid (HB5.out.trans (hb6.mono HB5.out.size))
    have HOUT6 := hid (HOUT5.out.mono hb6)
    clear hb6
    go_wp2_with (refine wpList_store_rowV rfl 124 (.tmp 4) (.tmp 24) rfl w.heap.size (bytesV d) zeros32 124 rfl rfl HOUT6.out ?hi7 ?ho7 (bytesV_oneCell d) ?_)
    case hi7 => rw [HDL.out]; kernel_rfl
    case ho7 => rw [HDL.out, zeros32_length]
    intro w7 hr7 hg7
    have HBF := hid (show Below w.heap.size w w7 from HB6.out.trans (gb_below hg7.out (Nat.le_refl _) HB6.out.size))
    go_wp2
    exact bodyPost_ret (v := .agg (bytesV d).toArray) (results_cell_row Tryd.results77 _ _ w.heap.size 124 (bytesV d).toArray (0, 0) _ rfl hr7.out Tryd.underlying124 rfl (by rw [List.size_toArray, HDL.out]; kernel_rfl)) rfl ⟨rfl, HBF.out⟩
end Go.Proofs.YtiimlanbbfhkjaaDoor







namespace Go.FL

open Go.RowKit

theorem Own.form {w : World} {base e : Nat} {v : Value} {l : List UInt8} (h : Own w base e v l) : ∃ z cc, v = .slice z l.length cc := by
  rcases h with ⟨rfl, rfl⟩ | ⟨g, sp, _, rfl, _, _⟩
  · exact ⟨none, 0, rfl⟩
  · exact ⟨_, _, rfl⟩
/-- The first i bytes turned. -/
def turnTo (l : List UInt8) (b : UInt8) (i : Nat) : List UInt8 := (l.take i).map (· ^^^ b) ++ l.drop i
theorem turnTo_length (l : List UInt8) (b : UInt8) (i : Nat) : (turnTo l b i).length = l.length := by simp [turnTo]; omega
theorem turnTo_get (l : List UInt8) (b : UInt8) (i : Nat) (h : i < l.length) : (turnTo l b i)[i]'(by rw [turnTo_length]; exact h) = l[i] := by
  simp only [turnTo]
  rw [List.getElem_append_right (by simp; omega)]
  simp [Nat.min_eq_left (Nat.le_of_lt h)]
theorem turnTo_set (l : List UInt8) (b : UInt8) (i : Nat) (h : i < l.length) : (turnTo l b i).set i (l[i] ^^^ b) = turnTo l b (i + 1) := by
  have h1 : ((l.take i).map (· ^^^ b)).length = i := by simp; omega
  rw [turnTo, turnTo, List.set_append, h1, if_neg (Nat.lt_irrefl i), Nat.sub_self, List.take_succ_eq_append_getElem h, List.map_append, List.drop_eq_getElem_cons h, List.set_cons_zero, List.append_assoc]
  rfl
end Go.FL

namespace Go.Proofs.YtiimlanbbfhkjaaDoor

open Go.RowKit Go.FL

end Go.Proofs.YtiimlanbbfhkjaaDoor






namespace Go.Proofs.YtiimlanbbfhkjaaDoor

open Go.RowKit Go.FL

theorem alike_step (l m : List UInt8) (k : Nat) (hl : k < l.length) (hm : k < m.length) (u : UInt8) (h : u = 0 ↔ l.take k = m.take k) : (u ||| (l[k] ^^^ m[k])) = 0 ↔ l.take (k + 1) = m.take (k + 1) := by
  rw [or_zero, xor_zero8, h, List.take_succ_eq_append_getElem hl, List.take_succ_eq_append_getElem hm]
  constructor
  · rintro ⟨h1, h2⟩; rw [h1, h2]
  · intro h1
    have := List.append_inj h1 (by simp; omega)
    exact ⟨this.1, by simpa using this.2⟩
end Go.Proofs.YtiimlanbbfhkjaaDoor




namespace Go.Proofs.YtiimlanbbfhkjaaDoor

open Go.RowKit Go.FL

set_option maxRecDepth 20000 in
set_option maxHeartbeats 400000 in
theorem same_dr (v u : Value) (l m : List UInt8) (w : World) (hv : Rd w v l) (hu : Rd w u m) :
    Calls Tryd.prog 80 #[v, u] w fun e w' => e = .returned (.bool (decide (l = m))) ∧ ∃ n, w' = w.drewN n := by
  obtain ⟨p, c, rfl, hlc, hcm, hpn, hcell⟩ := hv
  obtain ⟨p', c', rfl, hlc', hcm', hpn', hcell'⟩ := hu
  unfold maxLen at hcm hcm'
  by_cases hlen : l.length = m.length
  · have HL := hid hlen
    have hne : ((l.length : Int) != (m.length : Int)) = false := by simp [hlen]
    have hle : l.length ≤ m.length := by omega
    clear hlen
    go_enter Tryd.func80, Tryd.ntmps80
    go_wp2
    go_loopw [5, 15] (fun x i wr => ∃ (k : Nat) (u : UInt8), k ≤ l.length ∧ i = .int .i64 k ∧ x = .int .u8 (u.toNat : Int) ∧ Hid (u = 0 ↔ l.take k = m.take k) ∧ ∃ n, wr = w.drewN n) (fun _ i _ => l.length - (intOf i).toNat)
    case atStart => exact ⟨0, 0, Nat.zero_le _, rfl, rfl, by simp [Hid], 0, rfl⟩
    case round =>
      obtain ⟨k, u, hk, rfl, rfl, hu, n, rfl⟩ := hrel
      by_cases hlt : k < l.length
      · have hltm : k < m.length := by omega
        obtain ⟨b, off, rfl, hc⟩ := hcell k hlt
        obtain ⟨b', off', rfl, hc'⟩ := hcell' k hltm
        have i1 : (0 : Int) ≤ (k : Int) := by omega
        have i2 : (k : Int) < (l.length : Int) := by omega
        have i3 : (k : Int) < (m.length : Int) := by omega
        have HA := hid (alike_step l m k hlt hltm u hu.out)
        go_wp2
        first | (go_quiet (fail); go_wp2) | skip
        go_roundw
        case rel => exact ⟨k + 1, _, by omega, by go_num, by rw [bits_xor8, bits_or8], HA.out, _, rfl⟩
        case measure => simp [intOf]; omega
      · obtain rfl : k = l.length := by omega
        have he : l = m ↔ u = 0 := by
          rw [hu.out, List.take_length, HL.out, List.take_length]
        by_cases h0 : u = 0
        · subst h0
          have hd : decide (l = m) = true := by simpa using he.2 rfl
          clear he hu
          go_wp2
          go_ret
          exact ⟨by rw [hd]; rfl, n, rfl⟩
        · have hd : decide (l = m) = false := by simp [he, h0]
          have hz : ((u.toNat : Int) == 0) = false := by
            have : u.toNat ≠ 0 := fun h => h0 (UInt8.toNat_inj.1 h)
            simp
            omega
          clear he hu h0
          go_wp2
          go_ret
          exact ⟨by rw [hd]; rfl, n, rfl⟩
  · have hne : ((l.length : Int) != (m.length : Int)) = true := by simp; omega
    have hd : decide (l = m) = false := by
      simp only [decide_eq_false_iff_not]
      intro h; exact hlen (by rw [h])
    clear hlen
    go_enter Tryd.func80, Tryd.ntmps80
    go_wp2
    go_ret
    exact ⟨by rw [hd]; rfl, 0, rfl⟩
theorem same_any (v u : Value) (l m : List UInt8) (w : World) (hv : Rd w v l) (hu : Rd w u m) :
    Calls Tryd.prog 80 #[v, u] w fun e w' => e = .returned (.bool (decide (l = m))) ∧ Below w.heap.size w w' := by
  refine (same_dr v u l m w hv hu).mono ?_
  rintro e w' ⟨rfl, n, rfl⟩
  exact ⟨rfl, gr_drewN w n⟩
theorem same_yes (v u : Value) (l m : List UInt8) (w : World) (hv : Rd w v l) (hu : Rd w u m) (h : l = m) :
    Calls Tryd.prog 80 #[v, u] w fun e w' => e = .returned (.bool true) ∧ Below w.heap.size w w' := by
  refine (same_any v u l m w hv hu).mono ?_
  rintro e w' ⟨rfl, h2⟩
  exact ⟨by rw [decide_eq_true h], h2⟩
theorem same_no (v u : Value) (l m : List UInt8) (w : World) (hv : Rd w v l) (hu : Rd w u m) (h : l ≠ m) :
    Calls Tryd.prog 80 #[v, u] w fun e w' => e = .returned (.bool false) ∧ Below w.heap.size w w' := by
  refine (same_any v u l m w hv hu).mono ?_
  rintro e w' ⟨rfl, h2⟩
  exact ⟨by rw [decide_eq_false h], h2⟩
end Go.Proofs.YtiimlanbbfhkjaaDoor

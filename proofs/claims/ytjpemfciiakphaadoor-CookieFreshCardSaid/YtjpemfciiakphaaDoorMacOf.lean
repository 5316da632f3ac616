/- What mac.Sum answers. Conditions: the tables of sha hold what its text says. -/
import Derived.Test.YtjpemfciiakphaaDoorMacProg
import Derived.Test.YtjpemfciiakphaaDoorCopyRow
namespace Go.FL
open Go.RowKit
def zeros64 : List Value := bytesV (List.replicate 64 0)
theorem zeros64_length : zeros64.length = 64 := by simp [zeros64, bytesV_length]
theorem block_row (k : List UInt8) (h : k.length ≤ 64) : splice zeros64 0 (bytesV k) = bytesV (k ++ List.replicate (64 - k.length) 0) := by
  rw [zeros64, splice, List.take_zero, List.nil_append, bytesV_append, Nat.zero_add, bytesV_length, ← bytesV_drop, List.drop_replicate]
theorem macBlock_row (key : List UInt8) : splice zeros64 0 (bytesV (macKey key)) = bytesV (macBlock key) := block_row _ (macKey_le key)
end Go.FL
namespace Go.Proofs.YtjpemfciiakphaaDoor
open Go.RowKit Go.FL
theorem zeroBlk (w : World) : (zeroValue 58).run Tryd.prog w = .ok (.agg zeros64.toArray) w := by kernel_rfl
theorem macTurn_at (g : Nat) (key : List UInt8) (by' : UInt8) (k : Int) (hk : k = (by'.toNat : Int)) (v : Value) (t : List UInt8) (w : World) (hrow : RowV w g 58 (bytesV (macBlock key))) (hv : Rd w v t) (hlaid : ShaLaid w) (ht : t.length ≤ 1048000) :
    Calls Tryd.prog 34 #[.int .u8 k, v, .pointer (some ⟨g, 0, none⟩)] w fun e w' => e = .returned (.agg (bytesV (shaSum (macTurn key by' ++ t))).toArray) ∧ Below w.heap.size w w' := by
  subst hk
  exact macTurn_any g (macBlock key) (macBlock_length key) by' v t w hrow hv hlaid ht

set_option maxRecDepth 20000 in
set_option maxHeartbeats 2000000 in
theorem macOf_any (v u : Value) (key text : List UInt8) (w : World) (hv : Rd w v key) (hu : Rd w u text) (hlaid : ShaLaid w) (hk : key.length ≤ 1048000) (ht : text.length ≤ 1048000) :
    Calls Tryd.prog 22 #[v, u] w fun e w' => e = .returned (.agg (bytesV (macSum key text)).toArray) ∧ Below w.heap.size w w' := by
  obtain ⟨d, hd⟩ : ∃ d, d = macSum key text := ⟨_, rfl⟩
  rw [← hd]
  obtain ⟨d1, hd1⟩ : ∃ d1, d1 = shaSum (macTurn key 54 ++ text) := ⟨_, rfl⟩
  have HD1 := hid hd1
  have HD := hid (show d = shaSum (macTurn key 92 ++ d1) by rw [hd, hd1]; rfl)
  have HDL := hid (show (bytesV d).length = 32 by rw [bytesV_length, hd, macSum_length])
  have HD1L := hid (show (bytesV d1).length = 32 by rw [bytesV_length, hd1, shaSum_length])
  have HD1M := hid (show d1.length = 32 by rw [hd1, shaSum_length])
  obtain ⟨km, hkm⟩ : ∃ km, km = macKey key := ⟨_, rfl⟩
  have hkl : km.length ≤ 64 := by rw [hkm]; exact macKey_le key
  have HROW := hid (show splice zeros64 0 (bytesV km) = bytesV (macBlock key) by rw [hkm]; exact macBlock_row key)
  have HKM := hid hkm
  clear hd hd1 hkm
  have HV := hid hv
  have HU := hid hu
  have HL := hid hlaid
  clear hlaid
  obtain ⟨p, c, rfl, hlc, hcm, hpn, hcell⟩ := hv
  obtain ⟨q, cq, rfl, hlq, hcq, hqn, hcelq⟩ := hu
  unfold maxLen at hcm hcq
  clear hcell hcelq
  have hzo := zeroOut
  have hzb := zeroBlk
  have HOUT0 := hid ((RowV.new w 46 zeros32).alloc (.cells zeros64.toArray 58 (0, 0)))
  have HBLK0 := hid (show RowV ((w.alloc (.cells zeros32.toArray 46 (0, 0))).alloc (.cells zeros64.toArray 58 (0, 0))) (w.heap.size + 1) 58 zeros64 by simpa using RowV.new (w.alloc (.cells zeros32.toArray 46 (0, 0))) 58 zeros64)
  have HB0 := hid (show Below w.heap.size w ((w.alloc (.cells zeros32.toArray 46 (0, 0))).alloc (.cells zeros64.toArray 58 (0, 0))) from ((Below.refl _ _).alloc (Nat.le_refl _) _).alloc (by simp) _)
  have hsz0 : ((w.alloc (.cells zeros32.toArray 46 (0, 0))).alloc (.cells zeros64.toArray 58 (0, 0))).heap.size = w.heap.size + 2 := by simp
  by_cases hbig : 64 < key.length
  · have hks : key.length < 576460752303423488 := by omega
    have HKS := hid (show km = shaSum key by rw [HKM.out, macKey, if_pos hbig])
    have HKL := hid (show (bytesV km).length = 32 by rw [HKS.out, bytesV_length, shaSum_length])
    have HKM32 := hid (show km.length = 32 by rw [HKS.out, shaSum_length])
    go_enter Tryd.func22, Tryd.ntmps22
    go_wp2_with fail
    generalize (w.alloc (.cells zeros32.toArray 46 (0, 0))).alloc (.cells zeros64.toArray 58 (0, 0)) = w0 at *
    refine (shaOf_any _ key _ (HV.out.mono HB0.out) (HL.out.mono HB0.out) hks).mono ?_
    rw [← HKS.out]
    rintro e w1 ⟨rfl, hb1⟩
    have HB1 := hid (HB0.out.trans (hb1.mono (by omega)))
    have HOUT1 := hid (HOUT0.out.mono hb1)
    have HBLK1 := hid (HBLK0.out.mono hb1)
    have hsz1 : w.heap.size + 1 < w1.heap.size := by have := hb1.size; omega
    clear hb1 hsz0
    go_wp2_with (refine wpList_store_rowV rfl 46 (.tmp 6) (.tmp 13) rfl w1.heap.size (bytesV km) zeros32 46 rfl rfl (RowV.new w1 46 zeros32) ?hi ?ho (bytesV_oneCell km) ?_)
    case hi => rw [HKL.out]; kernel_rfl
    case ho => rw [HKL.out, zeros32_length]
    intro w2 hr2 hg2
    have HR2 := hid hr2.out
    have HRD2 := hid (show Rd w2 (.slice (some ⟨w1.heap.size, 0, none⟩) 32 32) km by
      have := hr2.out.to_row.rd 32 32 (by rw [HKM32.out]; exact Nat.le_refl _) (Nat.le_refl _) (by unfold maxLen; omega)
      rwa [List.take_of_length_le (by rw [HKM32.out]; exact Nat.le_refl _)] at this)
    have hg2' := gb_below (B := w1.heap.size) hg2.out (Nat.le_refl _) (by simp)
    have hgr : Below w1.heap.size w1 w2 := ((Below.refl _ _).alloc (Nat.le_refl _) _).trans hg2'
    have HB2 := hid (HB1.out.trans (hgr.mono (by omega)))
    have HOUT2 := hid (HOUT1.out.mono hgr)
    have HBLK2 := hid (HBLK1.out.mono hgr)
    have hsz2 : w.heap.size + 1 < w2.heap.size := by have := hgr.size; omega
    clear hr2 hg2 hg2' hgr
    obtain ⟨w3, hcp, hr3, hg3⟩ := run_copy_rd (P := Tryd.prog) w2 22 22 3 5 Tryd.underlying22 (by kernel_rfl) (w.heap.size + 1) 0 64 64 _ km HRD2.out 32 (by rw [HKM32.out]; rfl) zeros64 58 HBLK2.out (by rw [zeros64_length]; omega)
    rw [List.take_of_length_le (by rw [HKM32.out]; exact Nat.le_refl _), HROW.out] at hr3
    have HR3 := hid hr3
    have HB3 := hid (HB2.out.trans (gb_below hg3 (by omega) HB2.out.size))
    have HOUT3 := hid (HOUT2.out.grown hg3 (by simp))
    have hsz3 : w.heap.size + 1 < w3.heap.size := by have := hg3.size; omega
    clear hr3 hg3
    go_wp2_with fail
    refine (macTurn_at (w.heap.size + 1) key 54 54 rfl _ text _ HR3.out (HU.out.mono HB3.out) (HL.out.mono HB3.out) ht).mono ?_
    rw [← HD1.out]
    rintro e w4 ⟨rfl, hb4⟩
    have HB4 := hid (HB3.out.trans (hb4.mono HB3.out.size))
    have HOUT4 := hid (HOUT3.out.mono hb4)
    have HR4 := hid (HR3.out.mono hb4)
    have hsz4 : w.heap.size + 1 < w4.heap.size := by have := hb4.size; omega
    clear hb4
    go_wp2_with (refine wpList_store_rowV rfl 46 (.tmp 8) (.tmp 21) rfl w4.heap.size (bytesV d1) zeros32 46 rfl rfl (RowV.new w4 46 zeros32) ?hi4 ?ho4 (bytesV_oneCell d1) ?_)
    case hi4 => rw [HD1L.out]; kernel_rfl
    case ho4 => rw [HD1L.out, zeros32_length]
    intro w5 hr5 hg5
    have HRD5 := hid (show Rd w5 (.slice (some ⟨w4.heap.size, 0, none⟩) 32 32) d1 by
      have := hr5.out.to_row.rd 32 32 (by rw [HD1M.out]; exact Nat.le_refl _) (Nat.le_refl _) (by unfold maxLen; omega)
      rwa [List.take_of_length_le (by rw [HD1M.out]; exact Nat.le_refl _)] at this)
    have hgr : Below w4.heap.size w4 w5 := ((Below.refl _ _).alloc (Nat.le_refl _) _).trans (gb_below (B := w4.heap.size) hg5.out (Nat.le_refl _) (by simp))
    have HB5 := hid (HB4.out.trans (hgr.mono (by omega)))
    have HOUT5 := hid (HOUT4.out.mono hgr)
    have HR5 := hid (HR4.out.mono hgr)
    clear hr5 hg5 hgr
    go_wp2_with fail
    refine (macTurn_at (w.heap.size + 1) key 92 92 rfl _ d1 _ HR5.out HRD5.out (HL.out.mono HB5.out) (by rw [HD1M.out]; omega)).mono ?_
    rw [← HD.out]
    rintro e w6 ⟨rfl, hb6⟩
    have HB6 := hid (HB5.out.trans (hb6.mono HB5.out.size))
    have HOUT6 := hid (HOUT5.out.mono hb6)
    clear hb6
    go_wp2_with (refine wpList_store_rowV rfl 46 (.tmp 4) (.tmp 24) rfl w.heap.size (bytesV d) zeros32 46 rfl rfl HOUT6.out ?hi7 ?ho7 (bytesV_oneCell d) ?_)
    case hi7 => rw [HDL.out]; kernel_rfl
    case ho7 => rw [HDL.out, zeros32_length]
    intro w7 hr7 hg7
    have HBF := hid (show Below w.heap.size w w7 from HB6.out.trans (gb_below hg7.out (Nat.le_refl _) HB6.out.size))
    go_wp2
    exact bodyPost_ret (v := .agg (bytesV d).toArray) (results_cell_row Tryd.results22 _ _ w.heap.size 46 (bytesV d).toArray (0, 0) _ rfl hr7.out Tryd.underlying46 rfl (by rw [List.size_toArray, HDL.out]; kernel_rfl)) rfl ⟨rfl, HBF.out⟩
  · have HKS := hid (show km = key by rw [HKM.out, macKey, if_neg hbig])
    obtain ⟨w2, hW2⟩ : ∃ w2, w2 = (w.alloc (.cells zeros32.toArray 46 (0, 0))).alloc (.cells zeros64.toArray 58 (0, 0)) := ⟨_, rfl⟩
    rw [← hW2] at HOUT0 HBLK0 HB0 hsz0
    have HRD2 := hid (show Rd w2 (.slice p key.length c) km by rw [HKS.out]; exact HV.out.mono HB0.out)
    have HB2 := hid HB0.out
    have HOUT2 := hid HOUT0.out
    have HBLK2 := hid HBLK0.out
    have hsz2 : w.heap.size + 1 < w2.heap.size := by omega
    have hnb : key.length ≤ 64 := by omega
    obtain ⟨w3, hcp, hr3, hg3⟩ := run_copy_rd (P := Tryd.prog) w2 22 22 3 5 Tryd.underlying22 (by kernel_rfl) (w.heap.size + 1) 0 64 64 _ km HRD2.out key.length (by rw [HKS.out]; exact (Nat.min_eq_left hnb).symm) zeros64 58 HBLK2.out (by rw [zeros64_length]; omega)
    rw [List.take_of_length_le (by rw [HKS.out]; exact Nat.le_refl _), HROW.out] at hr3
    have HR3 := hid hr3
    have HB3 := hid (HB2.out.trans (gb_below hg3 (by omega) HB2.out.size))
    have HOUT3 := hid (HOUT2.out.grown hg3 (by simp))
    have hsz3 : w.heap.size + 1 < w3.heap.size := by have := hg3.size; omega
    rw [hW2] at hcp
    clear hr3 hg3 hsz0 hW2
    go_enter Tryd.func22, Tryd.ntmps22
    go_wp2_with fail
    refine (macTurn_at (w.heap.size + 1) key 54 54 rfl _ text _ HR3.out (HU.out.mono HB3.out) (HL.out.mono HB3.out) ht).mono ?_
    rw [← HD1.out]
    rintro e w4 ⟨rfl, hb4⟩
    have HB4 := hid (HB3.out.trans (hb4.mono HB3.out.size))
    have HOUT4 := hid (HOUT3.out.mono hb4)
    have HR4 := hid (HR3.out.mono hb4)
    have hsz4 : w.heap.size + 1 < w4.heap.size := by have := hb4.size; omega
    clear hb4
    go_wp2_with (refine wpList_store_rowV rfl 46 (.tmp 8) (.tmp 21) rfl w4.heap.size (bytesV d1) zeros32 46 rfl rfl (RowV.new w4 46 zeros32) ?hi4 ?ho4 (bytesV_oneCell d1) ?_)
    case hi4 => rw [HD1L.out]; kernel_rfl
    case ho4 => rw [HD1L.out, zeros32_length]
    intro w5 hr5 hg5
    have HRD5 := hid (show Rd w5 (.slice (some ⟨w4.heap.size, 0, none⟩) 32 32) d1 by
      have := hr5.out.to_row.rd 32 32 (by rw [HD1M.out]; exact Nat.le_refl _) (Nat.le_refl _) (by unfold maxLen; omega)
      rwa [List.take_of_length_le (by rw [HD1M.out]; exact Nat.le_refl _)] at this)
    have hgr : Below w4.heap.size w4 w5 := ((Below.refl _ _).alloc (Nat.le_refl _) _).trans (gb_below (B := w4.heap.size) hg5.out (Nat.le_refl _) (by simp))
    have HB5 := hid (HB4.out.trans (hgr.mono (by omega)))
    have HOUT5 := hid (HOUT4.out.mono hgr)
    have HR5 := hid (HR4.out.mono hgr)
    clear hr5 hg5 hgr
    go_wp2_with fail
    refine (macTurn_at (w.heap.size + 1) key 92 92 rfl _ d1 _ HR5.out HRD5.out (HL.out.mono HB5.out) (by rw [HD1M.out]; omega)).mono ?_
    rw [← HD.out]
    rintro e w6 ⟨rfl, hb6⟩
    have HB6 := hid (HB5.out.trans (hb6.mono HB5.out.size))
    have HOUT6 := hid (HOUT5.out.mono hb6)
    clear hb6
    go_wp2_with (refine wpList_store_rowV rfl 46 (.tmp 4) (.tmp 24) rfl w.heap.size (bytesV d) zeros32 46 rfl rfl HOUT6.out ?hi7 ?ho7 (bytesV_oneCell d) ?_)
    case hi7 => rw [HDL.out]; kernel_rfl
    case ho7 => rw [HDL.out, zeros32_length]
    intro w7 hr7 hg7
    have HBF := hid (show Below w.heap.size w w7 from HB6.out.trans (gb_below hg7.out (Nat.le_refl _) HB6.out.size))
    go_wp2
    exact bodyPost_ret (v := .agg (bytesV d).toArray) (results_cell_row Tryd.results22 _ _ w.heap.size 46 (bytesV d).toArray (0, 0) _ rfl hr7.out Tryd.underlying46 rfl (by rw [List.size_toArray, HDL.out]; kernel_rfl)) rfl ⟨rfl, HBF.out⟩
end Go.Proofs.YtjpemfciiakphaaDoor

/- What mac's own functions answer. Conditions: the tables of sha hold what its text says. DRAFT, NOT BUILT. -/
import Derived.Test.YtjpemfciiakphaaDoorShaRef3
import Derived.Test.YtjpemfciiakphaaDoorShaCut
import Derived.Test.YtjpemfciiakphaaDoorMacMath
namespace Go.Proofs.YtjpemfciiakphaaDoor
open Go.RowKit Go.FL

set_option maxRecDepth 20000 in
set_option maxHeartbeats 2000000 in
theorem macTurn_any (g : Nat) (blk : List UInt8) (hbl : blk.length = 64) (by' : UInt8) (v : Value) (t : List UInt8) (w : World) (hrow : RowV w g 58 (bytesV blk)) (hv : Rd w v t) (hlaid : ShaLaid w) (ht : t.length ≤ 1048000) :
    Calls Tryd.prog 34 #[.int .u8 (by'.toNat : Int), v, .pointer (some ⟨g, 0, none⟩)] w fun e w' => e = .returned (.agg (bytesV (shaSum (blk.map (· ^^^ by') ++ t))).toArray) ∧ Below w.heap.size w w' := by
  obtain ⟨m, hm⟩ : ∃ m, m = blk.map (· ^^^ by') := ⟨_, rfl⟩
  rw [← hm]
  have HM := hid hm
  have HMT := hid (show (m ++ t).length < 576460752303423488 by rw [hm, List.length_append, List.length_map]; omega)
  have HML := hid (show m.length + t.length < 1152921504606846976 by rw [hm, List.length_map]; omega)
  obtain ⟨d, hd⟩ : ∃ d, d = shaSum (m ++ t) := ⟨_, rfl⟩
  rw [← hd]
  have HD := hid hd
  have HDL := hid (show (bytesV d).length = 32 by rw [bytesV_length, hd, shaSum_length])
  clear hm hd
  have HL := hid hlaid
  have HV := hid hv
  have HBL := hid hbl
  have HR := hid hrow
  have HDB := hid (show (bytesV blk).length = 64 by rw [bytesV_length, hbl])
  have hzo := zeroOut
  have HOUT0 := hid (RowV.new w 46 zeros32)
  have HB0 := hid (show Below w.heap.size w (w.alloc (.cells zeros32.toArray 46 (0, 0))) from (Below.refl _ _).alloc (Nat.le_refl _) _)
  have hsz0 : (w.alloc (.cells zeros32.toArray 46 (0, 0))).heap.size = w.heap.size + 1 := by simp
  have HIX := hid (show ∀ (i : Nat), i < 64 → ∃ h : i < blk.length, ∀ wx, (Instr.index 58 (.agg (bytesV blk).toArray) (.int .i64 (i : Int))).run Tryd.prog wx = .ok (.int .u8 ((blk[i]'h).toNat : Int)) wx from
    fun i hi => ⟨by omega, run_index_row (P := Tryd.prog) 58 5 64 Tryd.underlying58 .u8 Tryd.underlying5 (by kernel_rfl) (bytesV blk) i _ hi (by simp [bytesV, hbl, hi])⟩)
  have hby := byte_lt by'
  clear hlaid hrow hbl hv
  go_enter Tryd.func34, Tryd.ntmps34
  go_wp2_with fail
  generalize w.alloc (.cells zeros32.toArray 46 (0, 0)) = w0 at *
  refine (new_any w0).mono ?_
  rintro e w1 ⟨rfl, hs1, hb1⟩
  rw [hsz0] at hs1 ⊢
  have HS1 := hid hs1
  have HB1 := hid (HB0.out.trans (hb1.mono (by omega)))
  have HOUT1 := hid (HOUT0.out.mono hb1)
  have HR1 := hid (HR.out.mono HB1.out)
  have hsz1 : w.heap.size + 1 < w1.heap.size := hs1.lt
  clear hs1 hb1 hzo hsz0 HB0 HOUT0 HR
  go_wp2_with (refine wpList_load_rowV rfl 58 (.tmp 2) rfl g (bytesV blk) 58 rfl _ HR1.out Tryd.underlying58 rfl ?hi ?_)
  case hi => rw [HDB.out]; kernel_rfl
  go_wp2_with fail
  go_loopw [11] (fun y wr => ∃ i : Nat, i ≤ 64 ∧ y = .int .i64 (i : Int) ∧ Hid (ShaSt wr (w.heap.size + 1) 70 ((blk.take i).map (· ^^^ by'))) ∧ Hid (w1.grownBy wr (some (w.heap.size + 1)))) (fun y _ => 64 - (intOf y).toNat)
  case atStart => exact ⟨0, Nat.zero_le _, rfl, HS1.out, gb_refl _ _⟩
  case round =>
    clear HS1
    obtain ⟨i, hi, rfl, hs, hg⟩ := hrel
    by_cases hlt : i < 64
    · obtain ⟨hil, hix⟩ := HIX.out i hlt
      have hnx : (blk.take (i + 1)).map (· ^^^ by') = (blk.take i).map (· ^^^ by') ++ [blk[i] ^^^ by'] := by
        rw [List.take_succ_eq_append_getElem hil, List.map_append]
        rfl
      have hml : ((blk.take i).map (· ^^^ by')).length ≤ 64 := by rw [List.length_map]; exact Nat.le_trans (List.length_take_le _ _) hi
      have hxor := bits_xor8 blk[i] by'
      generalize blk[i] = x at *
      have hbx := byte_lt (x ^^^ by')
      have HNX := hid hnx
      have HS := hid hs.out
      have HG := hid hg.out
      have hsz := hg.out.size
      have HLW := hid (HL.out.mono HB1.out)
      have HBw := hid (HB1.out.trans (gb_below hg.out (by omega) HB1.out.size))
      clear hs hg hnx
      go_wp2_with fail
      refine (write_all (w.heap.size + 1) ((blk.take i).map (· ^^^ by')) [x ^^^ by'] _ _ (HS.out.mono ((Below.refl _ _).alloc (Nat.le_refl _) _)) (rd_new wr 5 _ 1 _ rfl (by simp [bytesV]) (by unfold maxLen; omega)) (.inr (fun k hk => by simp [Value.ownBlock] at hk; omega)) ((HL.out.mono HBw.out).mono ((Below.refl _ _).alloc (Nat.le_refl _) _)) (by simp; omega)).mono ?_
      rintro e w2 ⟨rfl, hs2, hg2⟩
      rw [← HNX.out] at hs2
      have HS2 := hid hs2
      have HG2 := hid (gb_trans (gb_alloc HG.out _) hg2)
      clear hs2 hg2 HS HG
      go_wp2
      go_roundw
      case rel => exact ⟨i + 1, by omega, by go_num, HS2.out, HG2.out⟩
      case measure => simp [intOf]; omega
    · obtain rfl : i = 64 := by omega
      have HS := hid hs.out
      rw [List.take_of_length_le (by rw [HBL.out]; exact Nat.le_refl _), ← HM.out] at HS
      have HB := hid (HB1.out.trans (gb_below hg.out (by omega) HB1.out.size))
      have HO := hid (HOUT1.out.grown hg.out (by simp))
      have HOL := hid (rd_old HV.out (w.heap.size + 1) (by omega))
      clear hs hg HIX HR1 HOUT1
      go_wp2_with fail
      refine (write_all (w.heap.size + 1) m t _ _ HS.out (HV.out.mono HB.out) HOL.out (HL.out.mono HB.out) HML.out).mono ?_
      rintro e w2 ⟨rfl, hs2, hg2⟩
      have HS2 := hid hs2
      have HB2 := hid (HB.out.trans (gb_below hg2 (by omega) HB.out.size))
      have HO2 := hid (HO.out.grown hg2 (by simp))
      clear hs2 hg2 HS HO
      go_wp2_with fail
      refine (shaSum_any (w.heap.size + 1) (m ++ t) _ HS2.out (HL.out.mono HB2.out) HMT.out).mono ?_
      rw [← HD.out]
      rintro e w3 ⟨rfl, hb3⟩
      have HB3 := hid (HB2.out.trans (hb3.mono HB2.out.size))
      have HO3 := hid (HO2.out.mono hb3)
      clear hb3
      go_wp2_with (refine wpList_store_rowV rfl 46 (.tmp 5) (.tmp 25) rfl w.heap.size (bytesV d) zeros32 46 rfl rfl HO3.out ?hi2 ?ho (bytesV_oneCell d) ?_)
      case hi2 => rw [HDL.out]; kernel_rfl
      case ho => rw [HDL.out, zeros32_length]
      intro w7 hr7 hg7
      have HBF := hid (show Below w.heap.size w w7 from HB3.out.trans (gb_below hg7.out (Nat.le_refl _) HB3.out.size))
      go_wp2
      exact bodyPost_ret (v := .agg (bytesV d).toArray) (results_cell_row Tryd.results34 _ _ w.heap.size 46 (bytesV d).toArray (0, 0) _ rfl hr7.out Tryd.underlying46 rfl (by rw [List.size_toArray, HDL.out]; kernel_rfl)) rfl ⟨rfl, HBF.out⟩
end Go.Proofs.YtjpemfciiakphaaDoor

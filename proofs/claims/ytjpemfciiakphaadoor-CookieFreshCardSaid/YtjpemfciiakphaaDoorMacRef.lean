/- The document's sum under a key. Conditions: what comes in reads as bytes, of lengths that the chapter asks. -/
import Derived.Test.YtjpemfciiakphaaDoorShaRef3
import Derived.Test.YtjpemfciiakphaaDoorShaCut
import Derived.Test.YtjpemfciiakphaaDoorMacMath
import Derived.Test.YtjpemfciiakphaaDoorCopyRow
import Derived.Test.YtjpemfciiakphaaDoorCopy
namespace Go.FL
open Go.RowKit
theorem Own.form {w : World} {base e : Nat} {v : Value} {l : List UInt8} (h : Own w base e v l) : ∃ z cc, v = .slice z l.length cc := by
  rcases h with ⟨rfl, rfl⟩ | ⟨g, sp, _, rfl, _, _⟩
  · exact ⟨none, 0, rfl⟩
  · exact ⟨_, _, rfl⟩
/-- The first i bytes turned. -/
def turnTo (l : List UInt8) (b : UInt8) (i : Nat) : List UInt8 := (l.take i).map (· ^^^ b) ++ l.drop i
theorem turnTo_length (l : List UInt8) (b : UInt8) (i : Nat) : (turnTo l b i).length = l.length := by simp [turnTo]; omega
theorem turnTo_get (l : List UInt8) (b : UInt8) (i : Nat) (h : i < l.length) : (turnTo l b i)[i]'(by rw [turnTo_length]; exact h) = l[i] := by
  simp only [turnTo]
  rw [List.getElem_append_right (by simp; omega)]
  simp [Nat.min_eq_left (Nat.le_of_lt h)]
theorem turnTo_set (l : List UInt8) (b : UInt8) (i : Nat) (h : i < l.length) : (turnTo l b i).set i (l[i] ^^^ b) = turnTo l b (i + 1) := by
  have h1 : ((l.take i).map (· ^^^ b)).length = i := by simp; omega
  rw [turnTo, turnTo, List.set_append, h1, if_neg (Nat.lt_irrefl i), Nat.sub_self, List.take_succ_eq_append_getElem h, List.map_append, List.drop_eq_getElem_cons h, List.set_cons_zero, List.append_assoc]
  rfl
end Go.FL
namespace Go.Proofs.YtjpemfciiakphaaDoor
open Go.RowKit Go.FL

set_option maxRecDepth 20000 in
set_option maxHeartbeats 2000000 in
theorem under_any (v : Value) (key : List UInt8) (by' : UInt8) (w : World) (hv : Rd w v key) (hk : key.length ≤ 1048000) :
    Calls Tryd.prog 39 #[v, .int .u8 (by'.toNat : Int)] w (RetOwn w 5 (macTurn key by')) := by
  have hby := byte_lt by'
  obtain ⟨km, hkm⟩ : ∃ km, km = macKey key := ⟨_, rfl⟩
  have hkl : km.length ≤ 64 := by rw [hkm]; exact macKey_le key
  have HKM := hid hkm
  have HV := hid hv
  obtain ⟨p, c, rfl, hlc, hcm, hpn, hcell⟩ := hv
  unfold maxLen at hcm
  clear hcell hkm
  have hzo := zeroOut
  by_cases hbig : 64 < key.length
  case' pos =>
    have HKS := hid (show km = shaSum key by rw [HKM.out, macKey, if_pos hbig])
    have HKL := hid (show (bytesV km).length = 32 by rw [HKS.out, bytesV_length, shaSum_length])
    have HK32 := hid (show km.length = 32 by rw [HKS.out, shaSum_length])
    go_enter Tryd.func39, Tryd.ntmps39
    go_wp2_with fail
    refine (copyBytes_any _ key _ HV.out (by omega)).mono ?_
    rintro e w1 ⟨v1, rfl, ho1, hb1⟩
    obtain ⟨z1, c1, rfl⟩ := ho1.form
    have G1 := hid hb1
    clear ho1 hb1
    go_wp2_with fail
    refine (refSum_any _ key _ (HV.out.mono G1.out) (by omega)).mono ?_
    rw [← HKS.out]
    rintro e w2 ⟨rfl, hb2⟩
    have G2 := hid (gr_trans G1.out hb2)
    clear hb2
    go_wp2_with (refine wpList_store_rowV rfl 46 (.tmp 6) (.tmp 14) rfl w2.heap.size (bytesV km) zeros32 46 rfl rfl (RowV.new w2 46 zeros32) ?hi ?ho (bytesV_oneCell km) ?_)
    case hi => rw [HKL.out]; kernel_rfl
    case ho => rw [HKL.out, zeros32_length]
    intro w3 hr3 hg3
    have HRD3 := hid (show Rd w3 (.slice (some ⟨w2.heap.size, 0, none⟩) 32 32) km by
      have := hr3.out.to_row.rd 32 32 (by rw [HK32.out]; exact Nat.le_refl _) (Nat.le_refl _) (by unfold maxLen; omega)
      rwa [List.take_of_length_le (by rw [HK32.out]; exact Nat.le_refl _)] at this)
    have G3 := hid (gr_trans G2.out (gr_boxed hg3.out rfl))
    clear hr3 hg3 hzo
    go_wp2_with fail
    refine (copyBytes_any _ km _ HRD3.out (by omega)).mono ?_
    rintro e ws ⟨v5, rfl, ho5, hb5⟩
    have GS := hid (gr_trans G3.out hb5)
    have HO5 := hid (ho5.base G3.out.size)
    obtain ⟨z, cc, rfl⟩ := ho5.form
    clear ho5 hb5 HRD3 HKL HK32 HKS
  case' neg =>
    have HKS := hid (show key = km by rw [HKM.out, macKey, if_neg hbig])
    go_enter Tryd.func39, Tryd.ntmps39
    go_wp2_with fail
    refine (copyBytes_any _ key _ HV.out (by omega)).mono ?_
    rintro e ws ⟨v5, rfl, ho5, hb5⟩
    have GS := hid hb5
    rw [HKS.out] at ho5
    have HO5 := hid ho5
    obtain ⟨z, cc, rfl⟩ := ho5.form
    have hnb : ¬ 64 < km.length := by omega
    clear ho5 hb5 HKS hzo
  all_goals
    go_wp2_with fail
    go_loopw [5] (fun o wr => ∃ (j : Nat) (q : Option Addr) (c4 : Nat), km.length + j ≤ 64 ∧ o = .slice q (km.length + j) c4 ∧ Hid (Own wr w.heap.size 5 (.slice q (km.length + j) c4) (km ++ List.replicate j 0)) ∧ Hid (Below w.heap.size w wr)) (fun o _ => match o with | .slice _ n _ => 64 - n | _ => 0)
    case atStart => exact ⟨0, z, cc, by omega, by simp, by have := HO5.out; simpa [Hid] using this, GS.out⟩
    case round =>
      clear HO5 GS
      obtain ⟨j, q, c4, hj, rfl, ho, hb⟩ := hrel
      have HB := hid hb.out
      have HO := hid ho.out
      clear hb ho
      by_cases hlt : km.length + j < 64
      · have hlt' : ((km.length : Int) + (j : Int)) < 64 := by omega
        go_wp2_with (at_builtin; refine wpList_append_Own rfl (.tmp 20) (.tmp 21) 22 rfl w.heap.size 5 Tryd.underlying22 infoU8 _ _ (km ++ List.replicate j 0) [0] rfl (HO.out.alloc _) rfl ?hrd ?hlen ?hbase ?_)
        case hrd => exact rd_new wr 5 [0] 1 _ rfl rfl (by unfold maxLen; omega)
        case hlen => simp; omega
        case hbase => have := HB.out.size; simp; omega
        intro v3 w3 ho3 hg3
        have HB3 := hid ((HB.out.alloc HB.out.size (.cells #[.int .u8 0] 5 (0, 0))).grown hg3 (by have := HB.out.size; simp; omega) HO.out.ge)
        have hsh : ∃ q cc, v3 = .slice q (km.length + (j + 1)) cc := by
          rcases ho3 with ⟨_, e⟩ | ⟨g, sp, _, e, _, _⟩
          · simp at e
          · exact ⟨some ⟨g, 0, none⟩, km.length + (j + 1) + sp.length, by rw [e]; simp⟩
        obtain ⟨q3, c3, rfl⟩ := hsh
        rw [← List.replicate_succ'] at ho3
        have HO3 := hid ho3
        clear ho3 hg3 HO HB
        go_wp2
        go_roundw
        case rel => exact ⟨j + 1, q3, c3, by omega, rfl, HO3.out, HB3.out⟩
        case measure => show 64 - (km.length + (j + 1)) < 64 - (km.length + j); omega
      · have ej : j = 64 - km.length := by omega
        have hge : ¬ ((km.length : Int) + (j : Int)) < 64 := by omega
        have HBK := hid (show km ++ List.replicate j 0 = macBlock key by rw [macBlock, ← HKM.out, ← ej])
        have hl64 : km.length + j = 64 := by omega
        rw [HBK.out] at HO
        obtain ⟨blk, hblk⟩ : ∃ blk, blk = macBlock key := ⟨_, rfl⟩
        rw [← hblk] at HO
        have hbl : blk.length = 64 := by rw [hblk]; exact macBlock_length key
        have HMT := hid (show turnTo blk by' 64 = macTurn key by' by rw [turnTo, macTurn, ← hblk, List.take_of_length_le (by omega), List.drop_eq_nil_of_le (by omega), List.append_nil])
        have HBL := hid hbl
        clear ej hlt hblk HBK
        go_wp2_with fail
        go_loopw [7] (fun y wx => ∃ i : Nat, i ≤ 64 ∧ y = .int .i64 (i : Int) ∧ Hid (Own wx w.heap.size 5 (.slice q (km.length + j) c4) (turnTo blk by' i)) ∧ Hid (Below w.heap.size w wx)) (fun y _ => 64 - (intOf y).toNat)
        case atStart => exact ⟨0, Nat.zero_le _, rfl, by have := HO.out; simpa [Hid, turnTo] using this, HB.out⟩
        case round =>
          obtain ⟨i, hi, rfl, hoi, hbi⟩ := hrel
          by_cases hlt : i < 64
          · have hib : i < blk.length := by rw [HBL.out]; exact hlt
            obtain ⟨g, cp, hv8, hgc, hcc, hcf, hput⟩ := hoi.out.put i (by rw [turnTo_length]; exact hib)
            rw [turnTo_get blk by' i hib] at hcc
            have hp := hput (blk[i] ^^^ by')
            rw [turnTo_set blk by' i hib] at hp
            simp only [Value.slice.injEq] at hv8
            obtain ⟨rfl, hv9, rfl⟩ := hv8
            have HP1 := hid hp.1
            have HP2 := hid (hbi.out.setCell (p := ⟨g, i, none⟩) hgc (.int .u8 ((blk[i] ^^^ by').toNat : Int)))
            have hx := bits_xor8 blk[i] by'
            generalize blk[i] = x at *
            generalize x ^^^ by' = y at *
            have hbx := byte_lt x
            have i1 : (i : Int) < (km.length : Int) + (j : Int) := by omega
            clear hp hput hoi hbi hgc hv9
            go_wp2_with fail
            go_roundw
            case rel => exact ⟨i + 1, by omega, by go_num, HP1.out, HP2.out⟩
            case measure => simp [intOf]; omega
          · obtain rfl : i = 64 := by omega
            have HOF := hid hoi.out
            have HBF := hid hbi.out
            rw [HMT.out, hl64] at HOF
            clear hoi hbi
            go_wp2_with fail
            go_ret
            exact ⟨_, rfl, HOF.out, HBF.out⟩
theorem under_at (v : Value) (key : List UInt8) (by' : UInt8) (k : Int) (hkk : k = (by'.toNat : Int)) (w : World) (hv : Rd w v key) (hk : key.length ≤ 1048000) :
    Calls Tryd.prog 39 #[v, .int .u8 k] w (RetOwn w 5 (macTurn key by')) := by
  subst hkk
  exact under_any v key by' w hv hk

set_option maxRecDepth 20000 in
set_option maxHeartbeats 2000000 in
theorem macRef_any (v u : Value) (key text : List UInt8) (w : World) (hv : Rd w v key) (hu : Rd w u text) (hk : key.length ≤ 1047000) (ht : text.length ≤ 1047000) :
    Calls Tryd.prog 24 #[v, u] w fun e w' => e = .returned (.agg (bytesV (macSum key text)).toArray) ∧ Below w.heap.size w w' := by
  obtain ⟨d, hd⟩ : ∃ d, d = macSum key text := ⟨_, rfl⟩
  rw [← hd]
  obtain ⟨d1, hd1⟩ : ∃ d1, d1 = shaSum (macTurn key 54 ++ text) := ⟨_, rfl⟩
  have HD1 := hid hd1
  have HD := hid (show d = shaSum (macTurn key 92 ++ d1) by rw [hd, hd1]; rfl)
  have HDL := hid (show (bytesV d).length = 32 by rw [bytesV_length, hd, macSum_length])
  have HD1L := hid (show (bytesV d1).length = 32 by rw [bytesV_length, hd1, shaSum_length])
  have HD1M := hid (show d1.length = 32 by rw [hd1, shaSum_length])
  have HT1 := hid (macTurn_length key 54)
  have HT2 := hid (macTurn_length key 92)
  clear hd hd1
  have HV := hid hv
  have HU := hid hu
  obtain ⟨p, c, rfl, hlc, hcm, hpn, hcell⟩ := hv
  obtain ⟨q, cq, rfl, hlq, hcq, hqn, hcelq⟩ := hu
  unfold maxLen at hcm hcq
  clear hcell hcelq
  have hzo := zeroOut
  have HOUT0 := hid (RowV.new w 46 zeros32)
  have HB0 := hid (show Below w.heap.size w (w.alloc (.cells zeros32.toArray 46 (0, 0))) from (Below.refl _ _).alloc (Nat.le_refl _) _)
  have hsz0 : (w.alloc (.cells zeros32.toArray 46 (0, 0))).heap.size = w.heap.size + 1 := by simp
  go_enter Tryd.func24, Tryd.ntmps24
  go_wp2_with fail
  generalize w.alloc (.cells zeros32.toArray 46 (0, 0)) = w0 at *
  refine (under_at _ key 54 54 rfl _ (HV.out.mono HB0.out) (by omega)).mono ?_
  rintro e w1 ⟨v1, rfl, ho1, hb1⟩
  have HO1 := hid ho1
  have GB1 := hid hb1
  have HB1 := hid (HB0.out.trans (hb1.mono (by omega)))
  have HOUT1 := hid (HOUT0.out.mono hb1)
  have hsz1 : w.heap.size + 1 ≤ w1.heap.size := by have := hb1.size; omega
  clear ho1 hb1
  go_wp2_with (at_builtin; refine wpList_append_Own rfl (.tmp 10) (.tmp 11) 22 rfl w0.heap.size 5 Tryd.underlying22 infoU8 _ _ (macTurn key 54) text rfl HO1.out rfl (HU.out.mono HB1.out) ?hlen GB1.out.size ?_)
  case hlen => rw [HT1.out]; omega
  intro v2 w2 ho2 hg2
  have HO2 := hid ho2
  have HB2 := hid (show Below (w.heap.size + 1) w1 w2 from gb_below' hg2 (fun g hg => by have := HO1.out.ge g hg; omega) hsz1)
  have HBB2 := hid (HB1.out.trans (HB2.out.mono (by omega)))
  have HOUT2 := hid (show RowV w2 w.heap.size 46 zeros32 from HOUT1.out.grown hg2 (fun e => by have := HO1.out.ge _ e; omega))
  have hsz2 : w.heap.size + 1 ≤ w2.heap.size := by have := HB2.out.size; omega
  have HLL2 := hid (show (macTurn key 54 ++ text).length ≤ 1048000 by rw [List.length_append, HT1.out]; omega)
  clear ho2 hg2
  go_wp2_with fail
  refine (refSum_any _ (macTurn key 54 ++ text) _ HO2.out.rd HLL2.out).mono ?_
  rw [← HD1.out]
  rintro e w3 ⟨rfl, hb3⟩
  have HBB3 := hid (HBB2.out.trans (hb3.mono HBB2.out.size))
  have HOUT3 := hid (HOUT2.out.mono hb3)
  have hsz3 : w.heap.size + 1 ≤ w3.heap.size := by have := hb3.size; omega
  clear hb3
  go_wp2_with (refine wpList_store_rowV rfl 46 (.tmp 6) (.tmp 14) rfl w3.heap.size (bytesV d1) zeros32 46 rfl rfl (RowV.new w3 46 zeros32) ?hi4 ?ho4 (bytesV_oneCell d1) ?_)
  case hi4 => rw [HD1L.out]; kernel_rfl
  case ho4 => rw [HD1L.out, zeros32_length]
  intro w4 hr4 hg4
  have HRD4 := hid (show Rd w4 (.slice (some ⟨w3.heap.size, 0, none⟩) 32 32) d1 by
    have := hr4.out.to_row.rd 32 32 (by rw [HD1M.out]; exact Nat.le_refl _) (Nat.le_refl _) (by unfold maxLen; omega)
    rwa [List.take_of_length_le (by rw [HD1M.out]; exact Nat.le_refl _)] at this)
  have hgr := gr_boxed hg4.out rfl
  have HBB4 := hid (HBB3.out.trans (hgr.mono HBB3.out.size))
  have HOUT4 := hid (HOUT3.out.mono hgr)
  have hsz4 : w.heap.size + 1 ≤ w4.heap.size := by have := hgr.size; omega
  clear hr4 hg4 hgr
  go_wp2_with fail
  refine (under_at _ key 92 92 rfl _ (HV.out.mono HBB4.out) (by omega)).mono ?_
  rintro e w5 ⟨v5, rfl, ho5, hb5⟩
  have HO5 := hid ho5
  have GB5 := hid hb5
  have HBB5 := hid (HBB4.out.trans (hb5.mono HBB4.out.size))
  have HOUT5 := hid (HOUT4.out.mono hb5)
  have HRD5 := hid (HRD4.out.mono hb5)
  have hsz5 : w.heap.size + 1 ≤ w5.heap.size := by have := hb5.size; omega
  clear ho5 hb5
  go_wp2_with (at_builtin; refine wpList_append_Own rfl (.tmp 17) (.tmp 18) 22 rfl w4.heap.size 5 Tryd.underlying22 infoU8 _ _ (macTurn key 92) d1 rfl HO5.out rfl HRD5.out ?hlen5 GB5.out.size ?_)
  case hlen5 => rw [HT2.out, HD1M.out]; omega
  intro v6 w6 ho6 hg6
  have HO6 := hid ho6
  have HB6 := hid (show Below (w.heap.size + 1) w5 w6 from gb_below' hg6 (fun g hg => by have := HO5.out.ge g hg; omega) hsz5)
  have HBB6 := hid (HBB5.out.trans (HB6.out.mono (by omega)))
  have HOUT6 := hid (show RowV w6 w.heap.size 46 zeros32 from HOUT5.out.grown hg6 (fun e => by have := HO5.out.ge _ e; omega))
  have HLL6 := hid (show (macTurn key 92 ++ d1).length ≤ 1048000 by rw [List.length_append, HT2.out, HD1M.out]; omega)
  clear ho6 hg6
  go_wp2_with fail
  refine (refSum_any _ (macTurn key 92 ++ d1) _ HO6.out.rd HLL6.out).mono ?_
  rw [← HD.out]
  rintro e w7 ⟨rfl, hb7⟩
  have HBB7 := hid (HBB6.out.trans (hb7.mono HBB6.out.size))
  have HOUT7 := hid (HOUT6.out.mono hb7)
  clear hb7
  go_wp2_with (refine wpList_store_rowV rfl 46 (.tmp 4) (.tmp 21) rfl w.heap.size (bytesV d) zeros32 46 rfl rfl HOUT7.out ?hi7 ?ho7 (bytesV_oneCell d) ?_)
  case hi7 => rw [HDL.out]; kernel_rfl
  case ho7 => rw [HDL.out, zeros32_length]
  intro w8 hr8 hg8
  have HBF := hid (show Below w.heap.size w w8 from HBB7.out.trans (gb_below hg8.out (Nat.le_refl _) HBB7.out.size))
  go_wp2
  exact bodyPost_ret (v := .agg (bytesV d).toArray) (results_cell_row Tryd.results24 _ _ w.heap.size 46 (bytesV d).toArray (0, 0) _ rfl hr8.out Tryd.underlying46 rfl (by rw [List.size_toArray, HDL.out]; kernel_rfl)) rfl ⟨rfl, HBF.out⟩
end Go.Proofs.YtjpemfciiakphaaDoor

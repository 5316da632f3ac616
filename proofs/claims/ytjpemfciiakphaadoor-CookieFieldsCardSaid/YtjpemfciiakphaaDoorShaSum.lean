/- What sha's Sum, New and Sum of bytes answer. Conditions: the state lies in a block of its own; the package's tables hold what its text says. -/
import Derived.Test.YtjpemfciiakphaaDoorShaWrite
import Derived.Deep.MidRow
namespace Go.Proofs.YtjpemfciiakphaaDoor
open Go.RowKit Go.FL

theorem infoU8s : (Tryd.prog.info? 5).map (fun i => (i.zero, i.size, i.bytes)) = some (some (.int .u8 0), 1, 1) := by kernel_rfl

def zeros32 : List Value := bytesV (List.replicate 32 0)
theorem zeroOut (w : World) : (zeroValue 46).run Tryd.prog w = .ok (.agg zeros32.toArray) w := by kernel_rfl
def zeroStL : List Value := stV false (List.replicate 8 0#32) (List.replicate 64 0) 0
theorem zeroState (w : World) : (zeroValue 70).run Tryd.prog w = .ok (.agg zeroStL.toArray) w := by kernel_rfl
theorem zeroStL_length : zeroStL.length = 74 := by decide +kernel
theorem zeros32_length : zeros32.length = 32 := by decide +kernel


set_option maxRecDepth 100000 in
set_option maxHeartbeats 4000000 in
theorem shaSum_any (g : Nat) (m : List UInt8) (w : World) (hst : ShaSt w g 70 m) (hlaid : ShaLaid w) (hlen : m.length < 576460752303423488) :
    Calls Tryd.prog 37 #[.pointer (some ⟨g, 0, none⟩)] w fun e w' => e = .returned (.agg (bytesV (shaSum m)).toArray) ∧ Below w.heap.size w w' := by
  obtain ⟨d, hd⟩ : ∃ d, d = shaSum m := ⟨_, rfl⟩
  rw [← hd]
  have HML := hid (show d.length = 32 from by rw [hd]; exact shaSum_length m)
  have HGET := hid (show ∀ i (_ : i < 32) (h2 : i < d.length), d[i] = shaByte (shaChain (shaPad m) ((m.length + 72) / 64)).list i from by subst hd; exact fun i h _ => shaSum_get m i h)
  clear hd
  obtain ⟨bg, s0, blk, hrow, hok⟩ := hst
  have HOK := hid hok
  have HRO := hid hrow
  have HL := hid hlaid
  have hsz : (stV bg s0 blk m.length).length = 74 := by rw [stV_length, hok.1, hok.2.1]
  have c73 : w.cell? ⟨g, 73, none⟩ = some (.int .u64 (m.length : Int)) := by rw [hrow.cell, stV_n bg s0 _ _ hok.2.1 hok.1]
  have HR1 := hid (fun o => hrow.alloc o)
  have HSZ := hid hsz
  have hglt := hrow.lt
  clear hok hrow hlaid hsz
  have hzs := zeroState
  have hzo := zeroOut
  go_enter Tryd.func37, Tryd.ntmps37
  go_wp2_with (first | (refine wpList_load_rowV rfl 70 (.tmp 11) rfl g (stV bg s0 blk m.length) 70 rfl _ (HR1.out _) Tryd.underlying70 rfl ?hi ?_) | (refine wpList_store_rowV rfl 70 (.tmp 3) (.tmp 12) rfl (w.heap.size + 1) (stV bg s0 blk m.length) zeroStL 70 rfl rfl ?hg ?hi2 ?ho (stV_oneCell _ _ _ _) ?_))
  case hi => rw [HSZ.out]; kernel_rfl
  case hg => simpa using RowV.new (w.alloc (.cells zeros32.toArray 46)) 70 zeroStL
  case hi2 => rw [HSZ.out]; kernel_rfl
  case ho => rw [HSZ.out, zeroStL_length]
  intro w1 hr1 hg1
  have HOUT := hid (show RowV w1 w.heap.size 46 zeros32 from (((RowV.new w 46 zeros32).alloc _).grown hg1.out (by simp)))
  have HB1 := hid (show Below w.heap.size w w1 from gb_below (gb_trans (gb_alloc (gb_alloc (gb_refl w (some (w.heap.size + 1))) _) _) hg1.out) (by omega) (Nat.le_refl _))
  have c73 : w1.cell? ⟨g, 73, none⟩ = some (.int .u64 (m.length : Int)) := cell?_of_below HB1.out c73
  have hsz1 : w.heap.size + 2 ≤ w1.heap.size := by have := hg1.out.size; simpa using this
  clear hg1 hzs hzo
  have hlt64 : m.length % 64 < 64 := Nat.mod_lt _ (by decide)
  have hmk := fun wx => run_make_u8c (P := Tryd.prog) 22 5 Tryd.underlying22 infoU8s .u64 .i64 (1 + (119 - m.length % 64) % 64) (by omega) (1 + (119 - (m.length : Int)) % 64) (by omega) wx
  obtain ⟨z, hz⟩ : ∃ z, z = (119 - m.length % 64) % 64 := ⟨_, rfl⟩
  rw [← hz] at hmk
  have hz64 : z < 64 := by omega
  have HZ := hid hz
  clear hz hlt64
  have hrz := Row.new w1 5 zeros72
  have cz : (w1.alloc (.cells (bytesV zeros72).toArray 5 (0, 0))).cell? ⟨w1.heap.size, 0, none⟩ = some (.int .u8 0) := hrz.cell 0 (by decide)
  have fz := hrz.frozen 0
  have HOZ := hid (shaTail_own w1 5 z m HZ.out)
  have HBZ := hid (show Below w1.heap.size w1 (w1.alloc (.cells ((bytesV zeros72).set 0 (.int .u8 128)).toArray 5 (0, 0))) from (Below.refl _ _).alloc (Nat.le_refl _) _)
  clear hrz
  go_wp2
  clear cz fz hmk
  rw [show (119 - (m.length : Int) % 64) % 64 = (119 - (m.length : Int)) % 64 from by omega]
  go_loopw [4, 5] (fun o y wr => ∃ j : Nat, j ≤ 8 ∧ y = .int .i64 (56 - 8 * (j : Int)) ∧ Hid (Own wr w1.heap.size 5 o (shaTail m j)) ∧ Hid (Below w1.heap.size w1 wr)) (fun _ y _ => (intOf y + 8).toNat)
  case atStart => exact ⟨0, Nat.zero_le _, by go_num, HOZ.out, HBZ.out⟩
  case round =>
    clear HOZ HBZ
    obtain ⟨j, hj, rfl, ho, hb⟩ := hrel
    by_cases hlt : j < 8
    · obtain ⟨q, hq⟩ : ∃ q : Nat, q = 8 - 1 - j := ⟨_, rfl⟩
      have eq : (56 : Int) - 8 * (j : Int) = ((8 * q : Nat) : Int) := by omega
      have HS := hid (shaTail_succ m j)
      rw [← hq] at HS
      have hsb := hid (shr_byte (8 * m.length) (8 * q))
      have HQ := hid eq
      rw [eq]
      have hs56 : 8 * q ≤ 56 := by omega
      have hlen2 := shaTail_length m j
      have hlen3 : (shaTail m j).length ≤ 80 := by omega
      have HB := hid hb.out
      have HO := hid ho.out
      have c73 := cell?_of_below HB.out c73
      have e8 : ((8 * m.length : Nat) : Int) = 8 * (m.length : Int) := by omega
      rw [e8] at hsb
      clear hb ho eq hq hlen2 e8
      generalize 8 * q = sh at *
      go_wp2_with (at_builtin; refine wpList_append_Own rfl (.tmp 28) (.tmp 37) 22 rfl w1.heap.size 5 Tryd.underlying22 infoU8s _ _ (shaTail m j) [UInt8.ofNat (8 * m.length / 2 ^ sh)] rfl (HO.out.alloc _) rfl ?hrd ?hlen ?hbase ?_)
      case hrd => exact rd_new wr 5 _ 1 _ rfl (by simp [bytesV]) (by unfold maxLen; omega)
      case hlen => simp; omega
      case hbase => have := HB.out.size; simp; omega
      intro v3 w3 ho3 hg3
      have HO3 := hid ho3
      have HB3 := hid ((HB.out.alloc HB.out.size (.cells #[.int .u8 (8 * (m.length : Int) / 2 ^ sh % 256)] 5 (0, 0))).grown hg3 (by have := HB.out.size; simp; omega) HO.out.ge)
      clear ho3 hg3 HO HB
      go_wp2
      go_roundw
      case rel => exact ⟨j + 1, by omega, by have := HQ.out; go_num, by rw [HS.out]; exact HO3.out, HB3.out⟩
      case measure => simp [intOf]; omega
    · obtain rfl : j = 8 := by omega
      have HB := hid hb.out
      have HO := hid ho.out
      have hst8 : ShaSt wr (w.heap.size + 1) 70 m := ⟨bg, s0, blk, hr1.out.mono HB.out, HOK.out⟩
      have hlw : ShaLaid wr := HL.out.mono (gr_trans HB1.out HB.out)
      have hln := shaTail_length m 8
      clear hb ho c73
      go_wp2_with fail
      refine (write_any (w.heap.size + 1) m (shaTail m 8) _ _ hst8 HO.out.rd (fun i hi => by have := HO.out.ge i hi; omega) hlw (by omega)).mono ?_
      rintro e w5 ⟨rfl, hs5, hg5⟩
      rw [shaTail_pad] at hs5
      obtain ⟨bg5, s5, blk5, hr5, hok5⟩ := hs5
      have hs5 := stOk_pad hok5
      have HR5 := hid hr5
      have HOK5 := hid hok5
      have hsl : s5.length = 8 := hok5.2.1
      have HS5 := hid hs5
      have hbw : Below w.heap.size w wr := HB1.out.trans (HB.out.mono HB1.out.size)
      have HB5 := hid (show Below w.heap.size w w5 from hbw.trans (gb_below hg5 (by omega) hbw.size))
      have HO5 := hid (show Row w5 w.heap.size 46 (d.take 0 ++ List.replicate (d.length - 0) 0) from by
        rw [HML.out]
        exact ((HOUT.out.mono HB.out).grown hg5 (by simp)).to_row)
      rw [← HS5.out] at HGET
      clear hr5 hok5 hs5 hg5 hst8 hlw hln hbw HB HO HOUT hr1 HOK HRO HR1 HSZ HS5
      go_wp2_with fail
      go_loopw [41] (fun y wr => ∃ i : Nat, i ≤ 32 ∧ y = .int .i64 (i : Int) ∧ Hid (Row wr w.heap.size 46 (d.take i ++ List.replicate (d.length - i) 0)) ∧ Hid (w5.grownBy wr (some w.heap.size))) (fun y _ => 32 - (intOf y).toNat)
      case atStart => exact ⟨0, Nat.zero_le _, rfl, HO5.out, gb_refl _ _⟩
      case round =>
        clear HO5
        obtain ⟨i, hi, rfl, hr, hg⟩ := hrel
        by_cases hlt : i < 32
        · have hil : i < d.length := by rw [HML.out]; exact hlt
          have hcd := hr.out.cell i (by rw [out_here d i hil]; exact hil)
          have hcf := hr.out.frozen i
          have hst := hr.out.store i d[i]
          rw [out_step d i hil] at hst
          have hx : s5.getD (i / 4) 0#32 = s5[i / 4] := by simp [List.getD, show i / 4 < s5.length by omega]
          have hcw : wr.cell? ⟨w.heap.size + 1, 1 + i / 4, none⟩ = some (.int .u32 ((s5.getD (i / 4) 0#32).toNat : Int)) := by
            have h1 := (HR5.out.grown hg.out (by simp)).cell (1 + i / 4)
            rw [h1, stV_wordD bg5 s5 blk5 _ (i / 4) (s5.getD (i / 4) 0#32) (by rw [hx, List.getElem?_eq_getElem])]
          have hgd : d[i] = shaByte s5 i := HGET.out i hlt hil
          have hby := shr_byte (s5.getD (i / 4) 0#32).toNat (24 - 8 * (i % 4))
          rw [show UInt8.ofNat ((s5.getD (i / 4) 0#32).toNat / 2 ^ (24 - 8 * (i % 4))) = d[i] from hgd.symm] at hby
          have hsh : (24 : Int) - 8 * ((i : Int) % 4) = ((24 - 8 * (i % 4) : Nat) : Int) := by omega
          have hsh24 : ((24 - 8 * (i % 4) : Nat) : Int) ≤ 24 := by omega
          have hix : ((i : Int) / 4).toNat = i / 4 := by omega
          have i0 : (0 : Int) ≤ (i : Int) / 4 := by omega
          have i8 : (i : Int) / 4 < 8 := by omega
          have HST := hid hst
          have HG := hid hg.out
          have HBY := hid hby
          generalize s5.getD (i / 4) 0#32 = x at *
          generalize d[i] = di at *
          generalize 24 - 8 * (i % 4) = sh at *
          clear hst hr hg hx hgd hby
          go_wp2
          go_roundw
          case rel => exact ⟨i + 1, by omega, by go_num, by rw [HBY.out]; exact HST.out, by rw [HBY.out]; exact gb_set HG.out _ _⟩
          case measure => simp [intOf]; omega
        · obtain rfl : i = 32 := by omega
          have hr2 := hr.out
          rw [List.take_of_length_le (by rw [HML.out]; exact Nat.le_refl _), show List.replicate (d.length - 32) (0 : UInt8) = [] by rw [HML.out]; rfl, List.append_nil] at hr2
          have HR := hid (RowV.of_row hr2)
          have HBE := hid (show Below w.heap.size w wr from HB5.out.trans (gb_below hg.out (Nat.le_refl _) HB5.out.size))
          have hdl : (bytesV d).length = 32 := by rw [bytesV_length, HML.out]
          have HDL := hid hdl
          clear hr hg hr2 hdl
          go_wp2_with (first | (refine wpList_load_rowV rfl 46 (.tmp 2) rfl w.heap.size (bytesV d) 46 rfl _ HR.out Tryd.underlying46 rfl ?hi ?_) | (refine wpList_store_rowV rfl 46 (.tmp 2) (.tmp 58) rfl w.heap.size (bytesV d) (bytesV d) 46 rfl rfl HR.out ?hi2 rfl (bytesV_oneCell d) ?_))
          case hi => rw [HDL.out]; kernel_rfl
          case hi2 => rw [HDL.out]; kernel_rfl
          intro w7 hr7 hg7
          have HBF := hid (show Below w.heap.size w w7 from HBE.out.trans (gb_below hg7.out (Nat.le_refl _) HBE.out.size))
          go_wp2
          exact bodyPost_ret (v := .agg (bytesV d).toArray) (results_cell_row Tryd.results37 _ _ w.heap.size 46 (bytesV d).toArray (0, 0) _ rfl hr7.out Tryd.underlying46 rfl (by rw [List.size_toArray, HDL.out]; kernel_rfl)) rfl ⟨rfl, HBF.out⟩

set_option maxRecDepth 100000 in
set_option maxHeartbeats 1000000 in
theorem shaSum_nil (w : World) : Calls Tryd.prog 37 #[.pointer none] w fun e w' => e = .returned (.agg zeros32.toArray) ∧ Below w.heap.size w w' := by
  have hzo := zeroOut
  have HR := hid (RowV.new w 46 zeros32)
  have HB := hid ((Below.refl w.heap.size w).alloc (Nat.le_refl _) (.cells zeros32.toArray 46 (0, 0)))
  go_enter Tryd.func37, Tryd.ntmps37
  go_wp2_with (first | (refine wpList_load_rowV rfl 46 (.tmp 2) rfl w.heap.size zeros32 46 rfl _ HR.out Tryd.underlying46 rfl ?hi ?_) | (refine wpList_store_rowV rfl 46 (.tmp 2) (.tmp 9) rfl w.heap.size zeros32 zeros32 46 rfl rfl HR.out ?hi2 rfl (bytesV_oneCell _) ?_))
  case hi => rw [zeros32_length]; kernel_rfl
  case hi2 => rw [zeros32_length]; kernel_rfl
  intro w7 hr7 hg7
  have HBF := hid (show Below w.heap.size w w7 from HB.out.trans (gb_below hg7.out (Nat.le_refl _) HB.out.size))
  go_wp2
  exact bodyPost_ret (v := .agg zeros32.toArray) (results_cell_row Tryd.results37 _ _ w.heap.size 46 zeros32.toArray (0, 0) _ rfl hr7.out Tryd.underlying46 rfl (by rw [List.size_toArray, zeros32_length]; kernel_rfl)) rfl ⟨rfl, HBF.out⟩

theorem write_nil (v : Value) (w : World) : Calls Tryd.prog 36 #[.pointer none, v] w fun e w' => e = .returned (.tuple #[]) ∧ w = w' := by
  go_enter Tryd.func36, Tryd.ntmps36
  go_wp2
  exact bodyPost_ret (results_none rfl _ _ _) rfl ⟨rfl, rfl⟩

theorem new_any (w : World) : Calls Tryd.prog 35 #[] w fun e w' => e = .returned (.pointer (some ⟨w.heap.size, 0, none⟩)) ∧ ShaSt w' w.heap.size 70 [] ∧ Below w.heap.size w w' := by
  have hzs := zeroState
  go_enter Tryd.func35, Tryd.ntmps35
  go_wp2
  go_ret
  exact ⟨rfl, ⟨false, _, _, RowV.new w 70 zeroStL, stOk_zero⟩, (Below.refl _ _).alloc (Nat.le_refl _) _⟩

set_option maxRecDepth 100000 in
set_option maxHeartbeats 1000000 in
theorem shaOf_any (v : Value) (l : List UInt8) (w : World) (hv : Rd w v l) (hlaid : ShaLaid w) (hlen : l.length < 576460752303423488) :
    Calls Tryd.prog 33 #[v] w fun e w' => e = .returned (.agg (bytesV (shaSum l)).toArray) ∧ Below w.heap.size w w' := by
  obtain ⟨d, hd⟩ : ∃ d, d = shaSum l := ⟨_, rfl⟩
  rw [← hd]
  have HD := hid hd
  have hdl : (bytesV d).length = 32 := by rw [bytesV_length, hd, shaSum_length]
  have HDL := hid hdl
  clear hd hdl
  have hzo := zeroOut
  have HV := hid hv
  have HL := hid hlaid
  have HR := hid (RowV.new w 46 zeros32)
  have GA := hid (show Below w.heap.size w (w.alloc (.cells zeros32.toArray 46 (0, 0))) from (Below.refl w.heap.size w).alloc (Nat.le_refl _) _)
  have HOW := hid (rd_old hv (w.heap.size + 1) (by omega))
  clear hv hlaid
  go_enter Tryd.func33, Tryd.ntmps33
  go_wp2_with fail
  refine (new_any _).mono ?_
  rintro e w1 ⟨rfl, hs1, hb1⟩
  have HS1 := hid hs1
  have G1 := hid (gr_trans GA.out hb1)
  have HR1 := hid (HR.out.mono hb1)
  clear hs1 hb1
  have hgs : (w.alloc (.cells zeros32.toArray 46 (0, 0))).heap.size = w.heap.size + 1 := by simp
  rw [hgs] at HS1 ⊢
  clear hgs
  go_wp2_with fail
  refine (write_all (w.heap.size + 1) [] l v _ HS1.out (HV.out.mono G1.out) HOW.out (HL.out.mono G1.out) (by simpa using (by omega : l.length < 1152921504606846976))).mono ?_
  rintro e w2 ⟨rfl, hs2, hg2⟩
  have HS2 := hid hs2
  rw [List.nil_append] at HS2
  have HB2 := hid (show Below w.heap.size w w2 from G1.out.trans (gb_below hg2 (by omega) G1.out.size))
  have HR2 := hid (HR1.out.grown hg2 (by simp))
  have HL2 := hid (HL.out.mono HB2.out)
  clear hs2 hg2
  go_wp2_with fail
  refine (shaSum_any (w.heap.size + 1) l _ HS2.out HL2.out hlen).mono ?_
  rw [← HD.out]
  rintro e w3 ⟨rfl, hb3⟩
  have HR3 := hid (HR2.out.mono hb3)
  have HB3 := hid (gr_trans HB2.out hb3)
  clear hb3
  go_wp2_with (refine wpList_store_rowV rfl 46 (.tmp 2) (.tmp 9) rfl w.heap.size (bytesV d) zeros32 46 rfl rfl HR3.out ?hi ?ho (bytesV_oneCell d) ?_)
  case hi => rw [HDL.out]; kernel_rfl
  case ho => rw [HDL.out, zeros32_length]
  intro w7 hr7 hg7
  have HBF := hid (show Below w.heap.size w w7 from HB3.out.trans (gb_below hg7.out (Nat.le_refl _) HB3.out.size))
  go_wp2
  exact bodyPost_ret (v := .agg (bytesV d).toArray) (results_cell_row Tryd.results33 _ _ w.heap.size 46 (bytesV d).toArray (0, 0) _ rfl hr7.out Tryd.underlying46 rfl (by rw [List.size_toArray, HDL.out]; kernel_rfl)) rfl ⟨rfl, HBF.out⟩
end Go.Proofs.YtjpemfciiakphaaDoor

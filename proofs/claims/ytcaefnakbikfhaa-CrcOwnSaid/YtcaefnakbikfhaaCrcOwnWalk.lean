/- CrcOwn: the walk of the law, and of its helper four. Conditions: none but what the row reads. -/
import Derived.Test.YtcaefnakbikfhaaCrcWorks
import Derived.Test.YtcaefnakbikfhaaCrcMath2
import Derived.Test.YtcaefnakbikfhaaCopy
namespace Go.Proofs.Ytcaefnakbikfhaa
open Go.RowKit Go.FL

theorem four_byte (n : Nat) : (n : Int) % 256 = ((UInt8.ofNat n).toNat : Int) := by
  rw [UInt8.toNat_ofNat']; omega

set_option maxHeartbeats 400000 in
theorem four_any (n : BitVec 32) (w : World) : Calls Try.prog 17 #[.int .u32 (n.toNat : Int)] w (RetOwn w 5 (le4 n)) := by
  go_enter Try.func17, Try.ntmps17
  go_wp2
  go_ret
  refine ⟨_, rfl, .inr ⟨w.heap.size, [], Nat.le_refl _, rfl, ?_, by unfold maxLen; rw [le4_length]; decide⟩, (Below.refl _ _).alloc (Nat.le_refl _) _⟩
  have h := Row.new w 5 (le4 n)
  have e : (bytesV (le4 n)).toArray = #[Value.int .u8 ((n.toNat : Int) % 256), Value.int .u8 ((n.toNat : Int) / 256 % 256), Value.int .u8 ((n.toNat : Int) / 65536 % 256), Value.int .u8 ((n.toNat : Int) / 16777216)] := by
    have e4 : ((n.toNat : Int) / 16777216) = ((n.toNat : Int) / 16777216) % 256 := by have := n.isLt; omega
    have e1 : ((n.toNat : Int) / 256) = ((n.toNat / 256 : Nat) : Int) := by omega
    have e2 : ((n.toNat : Int) / 65536) = ((n.toNat / 65536 : Nat) : Int) := by omega
    have e3 : ((n.toNat : Int) / 16777216) = ((n.toNat / 16777216 : Nat) : Int) := by omega
    rw [e4, e1, e2, e3, four_byte, four_byte, four_byte, four_byte]
    rfl
  rw [e] at h
  rw [List.append_nil]
  exact h

set_option maxRecDepth 20000 in
set_option maxHeartbeats 400000 in
theorem crcOwn_walk {w : World} {v : Value} (l : List UInt8) (hv : Rd w v l) (a : Int) (ha : (Lit.int .u32 a).wf = true) :
    Calls Try.prog 8 #[v, .int .u32 a] w fun e w' => e = .returned (.bool true) ∧ Below w.heap.size w w' := by
  obtain ⟨t, rfl⟩ := u32_of a ha
  clear ha
  by_cases hbig : 8192 < l.length
  · obtain ⟨p, c, rfl, hlc, hcm, hpn, hcell⟩ := hv
    unfold maxLen at hcm
    clear hcell
    go_enter Try.func8, Try.ntmps8
    go_wp2_with (go_at_call 9; refine (works_any _).mono ?_; rintro e w' ⟨rfl, hb⟩)
    go_ret
    exact ⟨rfl, hb⟩
  · have HV := hid hv
    obtain ⟨p, c, rfl, hlc, hcm, hpn, hcell⟩ := hv
    unfold maxLen at hcm
    clear hcell
    have hx := bits_xor32 (crcExt 0#32 l) t
    have hz : crcExt 0#32 (le4 t) = crcExt 0#32 (l ++ le4 (crcExt 0#32 l ^^^ t)) := (own_sum l t).symm
    generalize crcExt 0#32 l ^^^ t = q at hx hz
    have HZ := hid hz
    clear hz
    have hc : (crcExt 0#32 (l ++ le4 (crcExt 0#32 l))).toNat = 1214729159 := by rw [own_const]; rfl
    go_enter Try.func8, Try.ntmps8
    go_wp2_with fail
    refine (copyBytes_any _ l _ HV.out (by omega)).mono ?_
    rintro e w1 ⟨v1, rfl, ho1, hb1⟩
    have HO1 := hid ho1
    have HB1 := hid hb1
    clear ho1 hb1
    go_wp2_with fail
    refine (crcSum_any _ l _ (HV.out.mono HB1.out)).mono ?_
    rintro e w2 ⟨rfl, rfl⟩
    go_wp2_with fail
    refine (four_any _ _).mono ?_
    rintro e w2 ⟨v2, rfl, ho2, hb2⟩
    have HO1' := hid (HO1.out.mono hb2)
    have HR2 := hid ho2.rd
    have HB2 := hid (gr_trans HB1.out hb2)
    clear ho2 hb2 HO1 HB1 hx
    go_wp2_with (at_builtin; refine wpList_append_Own rfl (.tmp 11) (.tmp 16) 22 rfl w.heap.size 5 Try.underlying22 infoU8w _ _ _ _ rfl HO1'.out rfl HR2.out (by rw [le4_length]; omega) HB2.out.size ?_)
    intro v3 w3 ho3 hg3
    have HO3 := hid ho3
    have HB3 := hid (HB2.out.grown hg3 HB2.out.size HO1'.out.ge)
    clear ho3 hg3 HO1' HR2 HB2
    go_wp2_with fail
    refine (crcSum_any _ _ _ HO3.out.rd).mono ?_
    rintro e w4 ⟨rfl, rfl⟩
    go_wp2_with fail
    refine (four_any _ _).mono ?_
    rintro e w4 ⟨v4, rfl, ho4, hb4⟩
    have HR4 := hid ho4.rd
    have HB4 := hid (gr_trans HB3.out hb4)
    clear ho4 hb4
    go_wp2_with fail
    refine (crcSum_any _ _ _ HR4.out).mono ?_
    rintro e w5 ⟨rfl, rfl⟩
    rw [HZ.out]
    clear HZ HR4 HO3
    go_wp2_with fail
    refine (copyBytes_any _ l _ (HV.out.mono HB4.out) (by omega)).mono ?_
    rintro e w5 ⟨v5, rfl, ho5, hb5⟩
    have HO5 := hid ho5
    have HB5 := hid (gr_trans HB4.out hb5)
    clear ho5 hb5 HB3
    go_wp2_with fail
    refine (crcSum_any _ l _ (HV.out.mono HB5.out)).mono ?_
    rintro e w6 ⟨rfl, rfl⟩
    go_wp2_with fail
    refine (four_any _ _).mono ?_
    rintro e w6 ⟨v6, rfl, ho6, hb6⟩
    have HO5' := hid ((HO5.out.mono hb6).base (base' := w.heap.size) (by have := HB4.out.size; omega))
    have HR6 := hid ho6.rd
    have HB6 := hid (gr_trans HB5.out hb6)
    clear ho6 hb6 HO5 HB5 HB4
    go_wp2_with (at_builtin; refine wpList_append_OwnG rfl (.tmp 26) (.tmp 29) 22 rfl w.heap.size 5 Try.underlying22 infoU8w _ _ _ _ rfl HO5'.out rfl HR6.out (by rw [le4_length]; omega) HB6.out.size ?_)
    intro v7 w7 ho7 hg7
    have HO7 := hid ho7
    have HB7 := hid (HB6.out.grown hg7 HB6.out.size HO5'.out.ge)
    clear ho7 hg7 HO5' HR6 HB6
    go_wp2_with fail
    refine (crcSum_any _ _ _ HO7.out.rd).mono ?_
    rintro e w8 ⟨rfl, rfl⟩
    rw [hc]
    clear HO7 hc
    go_wp2_with fail
    refine (works_any _).mono ?_
    rintro e w9 ⟨rfl, hb9⟩
    go_wp2_with fail
    go_ret
    exact ⟨rfl, gr_trans HB7.out hb9⟩
end Go.Proofs.Ytcaefnakbikfhaa

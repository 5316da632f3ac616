/- Both Derive functions of layer 11. Conditions: what comes in reads as it should; the tables of sha hold what its text says. -/
import Derived.Test.YtjpemfciiakphaaDoorCookWrite
namespace Go.FL
open Go.RowKit
/-- A tag and a number out of a text's sum. -/
def deriveOf (key text : List UInt8) : Nat × Nat := (if numAt (macSum key text) 0 4 = 0 then 1 else numAt (macSum key text) 0 4, numAt (macSum key text) 4 4)
def Derives (w : World) (key text : List UInt8) (e : Ending) (w' : World) : Prop :=
  e = .returned (.tuple #[.int .u32 ((deriveOf key text).1 : Int), .int .u32 ((deriveOf key text).2 : Int)]) ∧ Below w.heap.size w w'
end Go.FL
namespace Go.Proofs.YtjpemfciiakphaaDoor
open Go.RowKit Go.FL

set_option maxRecDepth 20000 in
set_option maxHeartbeats 1000000 in
theorem cookDerive_any (v u : Value) (key text : List UInt8) (w : World) (hv : Rd w v key) (hu : Rd w u text) (hlaid : ShaLaid w) (hk : key.length ≤ 1047000) (ht : text.length ≤ 1047000) :
    Calls Tryd.prog 18 #[v, u] w (Derives w key text) := by
  have HV := hid hv
  have HU := hid hu
  have HK := hid hk
  have HT := hid ht
  obtain ⟨p, cp, rfl, hlc, hcm, hpn, hcell⟩ := hv
  obtain ⟨q, cq, rfl, hlq, hcq, hqn, hcelq⟩ := hu
  unfold maxLen at hcm hcq
  clear hcell hcelq hk ht
  obtain ⟨md, hmd⟩ : ∃ md, md = macSum key text := ⟨_, rfl⟩
  have HDL := hid (show (bytesV md).length = 32 by rw [bytesV_length, hmd, macSum_length])
  have HML := hid (show md.length = 32 by rw [hmd, macSum_length])
  have HMD := hid hmd
  have hzo := zeroOut
  have hn0 := numAt_lt md 0 4
  have hn4 := numAt_lt md 4 4
  obtain ⟨x0, hx0⟩ : ∃ x0, x0 = numAt md 0 4 := ⟨_, rfl⟩
  obtain ⟨x4, hx4⟩ : ∃ x4, x4 = numAt md 4 4 := ⟨_, rfl⟩
  rw [← hx0] at hn0
  rw [← hx4] at hn4
  have HX0 := hid hx0
  have HX4 := hid hx4
  clear hmd hx0 hx4
  go_enter Tryd.func18, Tryd.ntmps18
  go_wp2_with fail
  refine (macOf_any _ _ key text _ HV.out HU.out hlaid (by have := HK.out; omega) (by have := HT.out; omega)).mono ?_
  rw [← HMD.out]
  rintro e w4 ⟨rfl, hb4⟩
  have G4 := hid hb4
  clear hb4
  go_wp2_with (refine wpList_store_rowV rfl 46 (.tmp 6) (.tmp 13) rfl w4.heap.size (bytesV md) zeros32 46 rfl rfl (RowV.new w4 46 zeros32) ?hi ?ho (bytesV_oneCell md) ?_)
  case hi => rw [HDL.out]; kernel_rfl
  case ho => rw [HDL.out, zeros32_length]
  intro w5 hr5 hg5
  have HRD5 := hid (show Rd w5 (.slice (some ⟨w4.heap.size, 0, none⟩) 32 32) md by
    have := hr5.out.to_row.rd 32 32 (by rw [HML.out]; exact Nat.le_refl _) (Nat.le_refl _) (by unfold maxLen; omega)
    rwa [List.take_of_length_le (by rw [HML.out]; exact Nat.le_refl _)] at this)
  have hgr : Below w4.heap.size w4 w5 := ((Below.refl _ _).alloc (Nat.le_refl _) _).trans (gb_below (B := w4.heap.size) hg5.out (Nat.le_refl _) (by simp))
  have G5 := hid (gr_trans G4.out hgr)
  clear hr5 hg5 hgr hzo
  go_wp2_with fail
  refine (get_within _ md 0 4 _ _ rfl rfl (by omega) _ HRD5.out (by rw [HML.out]; omega)).mono ?_
  rw [← HX0.out]
  rintro e w6 ⟨rfl, rfl⟩
  go_wp2_with fail
  refine (get_within _ md 4 4 _ _ rfl rfl (by omega) _ HRD5.out (by rw [HML.out]; omega)).mono ?_
  rw [← HX4.out]
  rintro e w7 ⟨rfl, rfl⟩
  have HD := hid (show deriveOf key text = (if x0 = 0 then 1 else x0, x4) by rw [deriveOf, ← HMD.out, ← HX0.out, ← HX4.out])
  by_cases hz : x0 = 0
  · subst hz
    go_wp2_with fail
    go_ret2
    exact ⟨by rw [HD.out]; rfl, G5.out⟩
  · have hmax : ¬ ((x0 : Int) < 1) := by omega
    rw [if_neg hz] at HD
    go_wp2_with fail
    go_ret2
    exact ⟨by rw [HD.out]; rfl, G5.out⟩

set_option maxRecDepth 20000 in
set_option maxHeartbeats 1000000 in
theorem cookRefDerive_any (v u : Value) (key text : List UInt8) (w : World) (hv : Rd w v key) (hu : Rd w u text) (hk : key.length ≤ 1047000) (ht : text.length ≤ 1047000) :
    Calls Tryd.prog 19 #[v, u] w (Derives w key text) := by
  have HV := hid hv
  have HU := hid hu
  have HK := hid hk
  have HT := hid ht
  obtain ⟨p, cp, rfl, hlc, hcm, hpn, hcell⟩ := hv
  obtain ⟨q, cq, rfl, hlq, hcq, hqn, hcelq⟩ := hu
  unfold maxLen at hcm hcq
  clear hcell hcelq hk ht
  obtain ⟨md, hmd⟩ : ∃ md, md = macSum key text := ⟨_, rfl⟩
  have HDL := hid (show (bytesV md).length = 32 by rw [bytesV_length, hmd, macSum_length])
  have HML := hid (show md.length = 32 by rw [hmd, macSum_length])
  have HMD := hid hmd
  have hzo := zeroOut
  have hn0 := numAt_lt md 0 4
  have hn4 := numAt_lt md 4 4
  obtain ⟨x0, hx0⟩ : ∃ x0, x0 = numAt md 0 4 := ⟨_, rfl⟩
  obtain ⟨x4, hx4⟩ : ∃ x4, x4 = numAt md 4 4 := ⟨_, rfl⟩
  rw [← hx0] at hn0
  rw [← hx4] at hn4
  have HX0 := hid hx0
  have HX4 := hid hx4
  clear hmd hx0 hx4
  go_enter Tryd.func19, Tryd.ntmps19
  go_wp2_with fail
  refine (macRef_any _ _ key text _ HV.out HU.out HK.out HT.out).mono ?_
  rw [← HMD.out]
  rintro e w4 ⟨rfl, hb4⟩
  have G4 := hid hb4
  clear hb4
  go_wp2_with (refine wpList_store_rowV rfl 46 (.tmp 6) (.tmp 10) rfl w4.heap.size (bytesV md) zeros32 46 rfl rfl (RowV.new w4 46 zeros32) ?hi ?ho (bytesV_oneCell md) ?_)
  case hi => rw [HDL.out]; kernel_rfl
  case ho => rw [HDL.out, zeros32_length]
  intro w5 hr5 hg5
  have HRD5 := hid (show Rd w5 (.slice (some ⟨w4.heap.size, 0, none⟩) 32 32) md by
    have := hr5.out.to_row.rd 32 32 (by rw [HML.out]; exact Nat.le_refl _) (Nat.le_refl _) (by unfold maxLen; omega)
    rwa [List.take_of_length_le (by rw [HML.out]; exact Nat.le_refl _)] at this)
  have hgr : Below w4.heap.size w4 w5 := ((Below.refl _ _).alloc (Nat.le_refl _) _).trans (gb_below (B := w4.heap.size) hg5.out (Nat.le_refl _) (by simp))
  have G5 := hid (gr_trans G4.out hgr)
  clear hr5 hg5 hgr hzo
  go_wp2_with fail
  refine (number_any _ md 0 4 _ _ rfl rfl (by omega) _ HRD5.out (by rw [HML.out]; omega)).mono ?_
  rw [← HX0.out]
  rintro e w6 ⟨rfl, hb6⟩
  have HRD6 := hid (HRD5.out.mono hb6)
  have G6 := hid (gr_trans G5.out hb6)
  clear hb6
  have HD := hid (show deriveOf key text = (if x0 = 0 then 1 else x0, x4) by rw [deriveOf, ← HMD.out, ← HX0.out, ← HX4.out])
  by_cases hz : x0 = 0
  · subst hz
    go_wp2_with fail
    refine (number_any _ md 4 4 _ _ rfl rfl (by omega) _ HRD6.out (by rw [HML.out]; omega)).mono ?_
    rw [← HX4.out]
    rintro e w7 ⟨rfl, hb7⟩
    go_wp2_with fail
    go_ret2
    exact ⟨by rw [HD.out]; rfl, gr_trans G6.out hb7⟩
  · have hnz : ((x0 : Int) == 0) = false := by simp; omega
    rw [if_neg hz] at HD
    go_wp2_with fail
    refine (number_any _ md 4 4 _ _ rfl rfl (by omega) _ HRD6.out (by rw [HML.out]; omega)).mono ?_
    rw [← HX4.out]
    rintro e w7 ⟨rfl, hb7⟩
    go_wp2_with fail
    go_ret2
    exact ⟨by rw [HD.out]; rfl, gr_trans G6.out hb7⟩
end Go.Proofs.YtjpemfciiakphaaDoor

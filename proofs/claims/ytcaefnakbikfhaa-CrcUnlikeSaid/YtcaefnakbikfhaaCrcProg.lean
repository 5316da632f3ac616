/- What crc.Extend, crc.Sum and the reference's Extend, Sum answer, and that they leave the world alone. Conditions: the argument reads as bytes. -/
import Derived.Test.YtcaefnakbikfhaaRows
import Derived.Test.YtcaefnakbikfhaaMem
import Derived.Test.YtcaefnakbikfhaaBits
import Derived.Test.YtcaefnakbikfhaaCrcMath
namespace Go.Proofs.Ytcaefnakbikfhaa
open Go.RowKit Go.FL

theorem crc_lsb (x : BitVec 32) (h : x.getLsbD 0 = true) : (bits .and .u32 (x.toNat : Int) 1 == 1) = true := by
  have h1 : (1 : Int) = (((1#32).toNat : Nat) : Int) := rfl
  rw [h1, bits_and32]
  have : x &&& 1#32 = 1#32 := by
    apply BitVec.eq_of_getLsbD_eq
    intro i hi
    rcases Nat.eq_zero_or_pos i with rfl | hp
    · simp only [BitVec.getLsbD_and, h]; rfl
    · simp [BitVec.getLsbD_one]; omega
  rw [this]
  rfl
theorem crc_lsb' (x : BitVec 32) (h : x.getLsbD 0 = false) : (bits .and .u32 (x.toNat : Int) 1 == 1) = false := by
  have h1 : (1 : Int) = (((1#32).toNat : Nat) : Int) := rfl
  rw [h1, bits_and32]
  have : x &&& 1#32 = 0#32 := by
    apply BitVec.eq_of_getLsbD_eq
    intro i hi
    rcases Nat.eq_zero_or_pos i with rfl | hp
    · simp only [BitVec.getLsbD_and, h]; rfl
    · simp [BitVec.getLsbD_one]; omega
  rw [this]
  rfl
theorem crc_step_one (x : BitVec 32) (h : x.getLsbD 0 = true) : bits .xor .u32 ((x.toNat : Int) / 2) 2197175160 = ((crcStep x).toNat : Int) := by
  have h1 : (2197175160 : Int) = ((crcPoly.toNat : Nat) : Int) := rfl
  rw [h1, half32, bits_xor32]
  simp only [crcStep, h, if_true]
theorem crc_step_nil (x : BitVec 32) (h : x.getLsbD 0 = false) : (x.toNat : Int) / 2 = ((crcStep x).toNat : Int) := by
  rw [half32]
  simp only [crcStep, h, if_false, Bool.false_eq_true]
theorem crc_byte_in (x : BitVec 32) (c : UInt8) : bits .xor .u32 (x.toNat : Int) (c.toNat : Int) = ((x ^^^ ext8 c).toNat : Int) := by
  have h1 : (c.toNat : Int) = (((ext8 c).toNat : Nat) : Int) := by
    unfold ext8
    have := c.toNat_lt
    simp
  rw [h1, bits_xor32]
theorem crcReg_take (x : BitVec 32) (l : List UInt8) (k : Nat) (h : k < l.length) : crcReg x (l.take (k + 1)) = crcSteps 8 (crcReg x (l.take k) ^^^ ext8 l[k]) := by
  rw [List.take_succ_eq_append_getElem h, crcReg_snoc]
  rfl

set_option maxHeartbeats 400000 in
theorem crcExtend_any (s : BitVec 32) (v : Value) (l : List UInt8) (w : World) (h : Rd w v l) :
    Calls Try.prog 11 #[.int .u32 (s.toNat : Int), v] w fun e w' => e = .returned (.int .u32 ((crcExt s l).toNat : Int)) ∧ w = w' := by
  obtain ⟨p, c, rfl, hlc, hcm, hpn, hcell⟩ := h
  unfold maxLen at hcm
  go_enter Try.func11, Try.ntmps11
  go_wp2
  go_loop [5, 12] (fun x i => ∃ k : Nat, k ≤ l.length ∧ i = .int .i64 k ∧ x = .int .u32 ((crcReg (~~~ s) (l.take k)).toNat : Int)) (fun _ i => l.length - (intOf i).toNat)
  case atStart => exact ⟨0, Nat.zero_le _, rfl, by rw [not32]; rfl⟩
  case round =>
    obtain ⟨k, hk, rfl, rfl⟩ := hrel
    by_cases hlt : k < l.length
    · obtain ⟨b, off, rfl, hc⟩ := hcell k hlt
      have HT := hid (crcReg_take (~~~ s) l k hlt)
      generalize crcReg (~~~ s) (l.take k) = r at *
      have hb := byte_lt l[k]
      go_wp2
      rw [crc_byte_in]
      generalize r ^^^ ext8 l[k] = q at *
      clear hc hb
      go_loop [5, 20] (fun x i => ∃ m : Nat, m ≤ 8 ∧ i = .int .i64 m ∧ x = .int .u32 ((crcSteps m q).toNat : Int)) (fun _ i => 8 - (intOf i).toNat)
      case atStart => exact ⟨0, Nat.zero_le _, rfl, rfl⟩
      case round =>
        obtain ⟨m, hm, rfl, rfl⟩ := hrel
        by_cases hlt8 : m < 8
        · have HS := hid (show crcSteps (m + 1) q = crcStep (crcSteps m q) from rfl)
          generalize crcSteps m q = y at *
          cases hb : y.getLsbD 0
          · have h1 := crc_lsb' y hb
            have H1 := hid (crc_step_nil y hb)
            clear hb
            go_wp2
            go_round
            case rel => exact ⟨m + 1, by omega, by go_num, by rw [HS.out, H1.out]⟩
            case measure => simp [intOf]; omega
          · have h1 := crc_lsb y hb
            have H1 := hid (crc_step_one y hb)
            clear hb
            go_wp2
            go_round
            case rel => exact ⟨m + 1, by omega, by go_num, by rw [HS.out, H1.out]⟩
            case measure => simp [intOf]; omega
        · obtain rfl : m = 8 := by omega
          go_wp2
          go_round
          case rel => exact ⟨k + 1, by omega, by go_num, by rw [HT.out]⟩
          case measure => simp [intOf]; omega
    · obtain rfl : k = l.length := by omega
      go_wp2
      go_ret
      exact ⟨by rw [not32]; rfl, rfl⟩

theorem crcSum_any (v : Value) (l : List UInt8) (w : World) (h : Rd w v l) :
    Calls Try.prog 13 #[v] w fun e w' => e = .returned (.int .u32 ((crcExt 0#32 l).toNat : Int)) ∧ w = w' := by
  go_enter Try.func13, Try.ntmps13
  go_wp2_with (go_at_call 11; refine (crcExtend_any 0#32 v l _ h).mono ?_; rintro e w' ⟨rfl, rfl⟩)
  go_ret
  exact ⟨rfl, rfl⟩

end Go.Proofs.Ytcaefnakbikfhaa

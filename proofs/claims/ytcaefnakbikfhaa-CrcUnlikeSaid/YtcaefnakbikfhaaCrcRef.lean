/- What the reference's Extend and Sum answer: the register's sum; they leave the world alone. Conditions: the argument reads as bytes. -/
import Derived.Test.YtcaefnakbikfhaaRows
import Derived.Test.YtcaefnakbikfhaaMem
import Derived.Test.YtcaefnakbikfhaaBits
import Derived.Test.YtcaefnakbikfhaaCrcMath
namespace Go.Proofs.Ytcaefnakbikfhaa
open Go.RowKit Go.FL

theorem ref_bits (d : UInt8) (m : Nat) (y : BitVec 32) : (bits .and .u32 ((d.toNat : Int) / 2 ^ m) 1 != bits .and .u32 (y.toNat : Int) 1) = (y.getLsbD 0 ^^ d.toNat.testBit m) := by
  have h1 : (d.toNat : Int) / 2 ^ m = ((d.toNat / 2 ^ m : Nat) : Int) := by simp
  have hd : d.toNat / 2 ^ m < 4294967296 := Nat.lt_of_le_of_lt (Nat.div_le_self _ _) (Nat.lt_trans d.toNat_lt (by decide))
  rw [h1, and1_u32 _ hd, and1_u32 _ y.isLt, lsb_mod, Nat.testBit_eq_decide_div_mod_eq]
  rcases Nat.mod_two_eq_zero_or_one (d.toNat / 2 ^ m) with h2 | h2 <;> rcases Nat.mod_two_eq_zero_or_one y.toNat with h3 | h3 <;> rw [h2, h3] <;> rfl
theorem ref_hit (d : UInt8) (m : Nat) (y : BitVec 32) (h : (bits .and .u32 ((d.toNat : Int) / 2 ^ m) 1 != bits .and .u32 (y.toNat : Int) 1) = true) :
    bits .xor .u32 ((y.toNat : Int) / 2) 2197175160 = ((crcStep (y ^^^ b2v (d.toNat.testBit m))).toNat : Int) := by
  rw [ref_bits] at h
  have h1 : (2197175160 : Int) = ((crcPoly.toNat : Nat) : Int) := rfl
  rw [h1, half32, bits_xor32, crcStep_bit, if_pos h]
theorem ref_miss (d : UInt8) (m : Nat) (y : BitVec 32) (h : (bits .and .u32 ((d.toNat : Int) / 2 ^ m) 1 != bits .and .u32 (y.toNat : Int) 1) = false) :
    (y.toNat : Int) / 2 = ((crcStep (y ^^^ b2v (d.toNat.testBit m))).toNat : Int) := by
  rw [ref_bits] at h
  rw [half32, crcStep_bit, if_neg (by rw [h]; simp)]
theorem ones32 (x : BitVec 32) : bits .xor .u32 (x.toNat : Int) 4294967295 = ((~~~ x).toNat : Int) := by
  have h : (4294967295 : Int) = (((BitVec.allOnes 32).toNat : Nat) : Int) := by decide
  rw [h, bits_xor32]
  have : x ^^^ BitVec.allOnes 32 = ~~~ x := by
    apply BitVec.eq_of_getLsbD_eq
    intro i hi
    rw [BitVec.getLsbD_xor, BitVec.getLsbD_not, BitVec.getLsbD_allOnes]
    simp [-BitVec.getLsbD_eq_getElem, hi]
  rw [this]

set_option maxRecDepth 20000 in
set_option maxHeartbeats 400000 in
theorem refExtend_any (s : BitVec 32) (v : Value) (l : List UInt8) (w : World) (h : Rd w v l) :
    Calls Try.prog 12 #[.int .u32 (s.toNat : Int), v] w fun e w' => e = .returned (.int .u32 ((crcExt s l).toNat : Int)) ∧ w = w' := by
  obtain ⟨p, c, rfl, hlc, hcm, hpn, hcell⟩ := h
  unfold maxLen at hcm
  go_enter Try.func12, Try.ntmps12
  go_wp2
  go_loop [5, 6] (fun x i => ∃ k : Nat, k ≤ l.length ∧ i = .int .i64 k ∧ x = .int .u32 ((crcReg (~~~ s) (l.take k)).toNat : Int)) (fun _ i => l.length - (intOf i).toNat)
  case atStart => exact ⟨0, Nat.zero_le _, rfl, by rw [ones32]; rfl⟩
  case round =>
    obtain ⟨k, hk, rfl, rfl⟩ := hrel
    by_cases hlt : k < l.length
    · obtain ⟨b, off, rfl, hc⟩ := hcell k hlt
      have HT := hid (show crcReg (~~~ s) (l.take (k + 1)) = crcByte (crcReg (~~~ s) (l.take k)) l[k] by rw [List.take_succ_eq_append_getElem hlt, crcReg_snoc])
      generalize crcReg (~~~ s) (l.take k) = r at *
      have hb := byte_lt l[k]
      generalize hg : l[k] = d at *
      have HG := hid hg
      clear hg
      go_wp2
      go_loop [5, 7] (fun x i => ∃ m : Nat, m ≤ 8 ∧ i = .int .i64 m ∧ x = .int .u32 ((regAt (fun k => d.toNat.testBit k) r m).toNat : Int)) (fun _ i => 8 - (intOf i).toNat)
      case atStart => exact ⟨0, Nat.zero_le _, rfl, rfl⟩
      case round =>
        obtain ⟨m, hm, rfl, rfl⟩ := hrel
        by_cases hlt8 : m < 8
        · clear hcell HT HG
          have HS := hid (show regAt (fun k => d.toNat.testBit k) r (m + 1) = crcStep (regAt (fun k => d.toNat.testBit k) r m ^^^ b2v (d.toNat.testBit m)) from rfl)
          generalize regAt (fun k => d.toNat.testBit k) r m = y at *
          go_wp2
          all_goals
            go_round
            case rel => exact ⟨m + 1, by omega, by go_num, by rw [HS.out]; first | rw [ref_hit _ _ _ ‹_›] | rw [ref_miss _ _ _ ‹_›]⟩
            case measure => simp [intOf]; omega
        · obtain rfl : m = 8 := by omega
          have HB := hid (crcByte_bits r d (fun k => d.toNat.testBit k) (fun _ _ => rfl))
          go_wp2
          go_round
          case rel => exact ⟨k + 1, by omega, by go_num, by rw [HT.out, HB.out]⟩
          case measure => simp [intOf]; omega
    · obtain rfl : k = l.length := by omega
      go_wp2
      go_ret
      exact ⟨by rw [ones32]; rfl, rfl⟩

theorem refSum_any (v : Value) (l : List UInt8) (w : World) (h : Rd w v l) :
    Calls Try.prog 18 #[v] w fun e w' => e = .returned (.int .u32 ((crcExt 0#32 l).toNat : Int)) ∧ w = w' := by
  go_enter Try.func18, Try.ntmps18
  go_wp2_with (go_at_call 12; refine (refExtend_any 0#32 v l _ h).mono ?_; rintro e w' ⟨rfl, rfl⟩)
  go_ret
  exact ⟨rfl, rfl⟩
end Go.Proofs.Ytcaefnakbikfhaa

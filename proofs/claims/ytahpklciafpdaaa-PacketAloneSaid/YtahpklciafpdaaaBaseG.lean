/- Joined: CrcProg, CrcRef, CrcMath2. -/
import Derived.Test.YtahpklciafpdaaaRows
import Derived.Test.YtahpklciafpdaaaBaseA
import Derived.Test.YtahpklciafpdaaaBaseB
set_option linter.unusedSimpArgs false
set_option linter.unusedVariables false
namespace Go.Proofs.Ytahpklciafpdaaa
open Go.RowKit Go.FL

theorem crc_lsb (x : BitVec 32) (h : x.getLsbD 0 = true) : (bits .and .u32 (x.toNat : Int) 1 == 1) = true := by
  have h1 : (1 : Int) = (((1#32).toNat : Nat) : Int) := rfl
  rw [h1, bits_and32]
  have : x &&& 1#32 = 1#32 := by
    apply BitVec.eq_of_getLsbD_eq
    intro i hi
    rcases Nat.eq_zero_or_pos i with rfl | hp
    · simp only [BitVec.getLsbD_and, h]; rfl
    · simp [BitVec.getLsbD_one]; omega
  rw [this]
  rfl
theorem crc_lsb' (x : BitVec 32) (h : x.getLsbD 0 = false) : (bits .and .u32 (x.toNat : Int) 1 == 1) = false := by
  have h1 : (1 : Int) = (((1#32).toNat : Nat) : Int) := rfl
  rw [h1, bits_and32]
  have : x &&& 1#32 = 0#32 := by
    apply BitVec.eq_of_getLsbD_eq
    intro i hi
    rcases Nat.eq_zero_or_pos i with rfl | hp
    · simp only [BitVec.getLsbD_and, h]; rfl
    · simp [BitVec.getLsbD_one]; omega
  rw [this]
  rfl
theorem crc_step_one (x : BitVec 32) (h : x.getLsbD 0 = true) : bits .xor .u32 ((x.toNat : Int) / 2) 2197175160 = ((crcStep x).toNat : Int) := by
  have h1 : (2197175160 : Int) = ((crcPoly.toNat : Nat) : Int) := rfl
  rw [h1, half32, bits_xor32]
  simp only [crcStep, h, if_true]
theorem crc_step_nil (x : BitVec 32) (h : x.getLsbD 0 = false) : (x.toNat : Int) / 2 = ((crcStep x).toNat : Int) := by
  rw [half32]
  simp only [crcStep, h, if_false, Bool.false_eq_true]
theorem crc_byte_in (x : BitVec 32) (c : UInt8) : bits .xor .u32 (x.toNat : Int) (c.toNat : Int) = ((x ^^^ ext8 c).toNat : Int) := by
  have h1 : (c.toNat : Int) = (((ext8 c).toNat : Nat) : Int) := by
    unfold ext8
    have := c.toNat_lt
    simp
  rw [h1, bits_xor32]
theorem crcReg_take (x : BitVec 32) (l : List UInt8) (k : Nat) (h : k < l.length) : crcReg x (l.take (k + 1)) = crcSteps 8 (crcReg x (l.take k) ^^^ ext8 l[k]) := by
  rw [List.take_succ_eq_append_getElem h, crcReg_snoc]
  rfl

set_option maxHeartbeats 400000 in
theorem crcExtend_any (s : BitVec 32) (v : Value) (l : List UInt8) (w : World) (h : Rd w v l) :
    Calls Try.prog 54 #[.int .u32 (s.toNat : Int), v] w fun e w' => e = .returned (.int .u32 ((crcExt s l).toNat : Int)) ∧ w = w' := by
  obtain ⟨p, c, rfl, hlc, hcm, hpn, hcell⟩ := h
  unfold maxLen at hcm
  go_enter Try.func54, Try.ntmps54
  go_wp2
  go_loop [5, 12] (fun x i => ∃ k : Nat, k ≤ l.length ∧ i = .int .i64 k ∧ x = .int .u32 ((crcReg (~~~ s) (l.take k)).toNat : Int)) (fun _ i => l.length - (intOf i).toNat)
  case atStart => exact ⟨0, Nat.zero_le _, rfl, by rw [not32]; rfl⟩
  case round =>
    obtain ⟨k, hk, rfl, rfl⟩ := hrel
    by_cases hlt : k < l.length
    · obtain ⟨b, off, rfl, hc⟩ := hcell k hlt
      have HT := hid (crcReg_take (~~~ s) l k hlt)
      generalize crcReg (~~~ s) (l.take k) = r at *
      have hb := byte_lt l[k]
      go_wp2
      rw [crc_byte_in]
      generalize r ^^^ ext8 l[k] = q at *
      clear hc hb
      go_loop [5, 20] (fun x i => ∃ m : Nat, m ≤ 8 ∧ i = .int .i64 m ∧ x = .int .u32 ((crcSteps m q).toNat : Int)) (fun _ i => 8 - (intOf i).toNat)
      case atStart => exact ⟨0, Nat.zero_le _, rfl, rfl⟩
      case round =>
        obtain ⟨m, hm, rfl, rfl⟩ := hrel
        by_cases hlt8 : m < 8
        · have HS := hid (show crcSteps (m + 1) q = crcStep (crcSteps m q) from rfl)
          generalize crcSteps m q = y at *
          cases hb : y.getLsbD 0
          · have h1 := crc_lsb' y hb
            have H1 := hid (crc_step_nil y hb)
            clear hb
            go_wp2
            go_round
            case rel => exact ⟨m + 1, by omega, by go_num, by rw [HS.out, H1.out]⟩
            case measure => simp [intOf]; omega
          · have h1 := crc_lsb y hb
            have H1 := hid (crc_step_one y hb)
            clear hb
            go_wp2
            go_round
            case rel => exact ⟨m + 1, by omega, by go_num, by rw [HS.out, H1.out]⟩
            case measure => simp [intOf]; omega
        · obtain rfl : m = 8 := by omega
          go_wp2
          go_round
          case rel => exact ⟨k + 1, by omega, by go_num, by rw [HT.out]⟩
          case measure => simp [intOf]; omega
    · obtain rfl : k = l.length := by omega
      go_wp2
      go_ret
      exact ⟨by rw [not32]; rfl, rfl⟩

theorem crcSum_any (v : Value) (l : List UInt8) (w : World) (h : Rd w v l) :
    Calls Try.prog 55 #[v] w fun e w' => e = .returned (.int .u32 ((crcExt 0#32 l).toNat : Int)) ∧ w = w' := by
  go_enter Try.func55, Try.ntmps55
  go_wp2_with (go_at_call 54; refine (crcExtend_any 0#32 v l _ h).mono ?_; rintro e w' ⟨rfl, rfl⟩)
  go_ret
  exact ⟨rfl, rfl⟩

end Go.Proofs.Ytahpklciafpdaaa

namespace Go.Proofs.Ytahpklciafpdaaa
open Go.RowKit Go.FL

theorem ref_bits (d : UInt8) (m : Nat) (y : BitVec 32) : (bits .and .u32 ((d.toNat : Int) / 2 ^ m) 1 != bits .and .u32 (y.toNat : Int) 1) = (y.getLsbD 0 ^^ d.toNat.testBit m) := by
  have h1 : (d.toNat : Int) / 2 ^ m = ((d.toNat / 2 ^ m : Nat) : Int) := by simp
  have hd : d.toNat / 2 ^ m < 4294967296 := Nat.lt_of_le_of_lt (Nat.div_le_self _ _) (Nat.lt_trans d.toNat_lt (by decide))
  rw [h1, and1_u32 _ hd, and1_u32 _ y.isLt, lsb_mod, Nat.testBit_eq_decide_div_mod_eq]
  rcases Nat.mod_two_eq_zero_or_one (d.toNat / 2 ^ m) with h2 | h2 <;> rcases Nat.mod_two_eq_zero_or_one y.toNat with h3 | h3 <;> rw [h2, h3] <;> rfl
theorem ref_hit (d : UInt8) (m : Nat) (y : BitVec 32) (h : (bits .and .u32 ((d.toNat : Int) / 2 ^ m) 1 != bits .and .u32 (y.toNat : Int) 1) = true) :
    bits .xor .u32 ((y.toNat : Int) / 2) 2197175160 = ((crcStep (y ^^^ b2v (d.toNat.testBit m))).toNat : Int) := by
  rw [ref_bits] at h
  have h1 : (2197175160 : Int) = ((crcPoly.toNat : Nat) : Int) := rfl
  rw [h1, half32, bits_xor32, crcStep_bit, if_pos h]
theorem ref_miss (d : UInt8) (m : Nat) (y : BitVec 32) (h : (bits .and .u32 ((d.toNat : Int) / 2 ^ m) 1 != bits .and .u32 (y.toNat : Int) 1) = false) :
    (y.toNat : Int) / 2 = ((crcStep (y ^^^ b2v (d.toNat.testBit m))).toNat : Int) := by
  rw [ref_bits] at h
  rw [half32, crcStep_bit, if_neg (by rw [h]; simp)]
theorem ones32 (x : BitVec 32) : bits .xor .u32 (x.toNat : Int) 4294967295 = ((~~~ x).toNat : Int) := by
  have h : (4294967295 : Int) = (((BitVec.allOnes 32).toNat : Nat) : Int) := by decide
  rw [h, bits_xor32]
  have : x ^^^ BitVec.allOnes 32 = ~~~ x := by
    apply BitVec.eq_of_getLsbD_eq
    intro i hi
    rw [BitVec.getLsbD_xor, BitVec.getLsbD_not, BitVec.getLsbD_allOnes]
    simp [-BitVec.getLsbD_eq_getElem, hi]
  rw [this]

set_option maxRecDepth 20000 in
set_option maxHeartbeats 400000 in
theorem refExtend_any (s : BitVec 32) (v : Value) (l : List UInt8) (w : World) (h : Rd w v l) :
    Calls Try.prog 58 #[.int .u32 (s.toNat : Int), v] w fun e w' => e = .returned (.int .u32 ((crcExt s l).toNat : Int)) ∧ w = w' := by
  obtain ⟨p, c, rfl, hlc, hcm, hpn, hcell⟩ := h
  unfold maxLen at hcm
  go_enter Try.func58, Try.ntmps58
  go_wp2
  go_loop [5, 6] (fun x i => ∃ k : Nat, k ≤ l.length ∧ i = .int .i64 k ∧ x = .int .u32 ((crcReg (~~~ s) (l.take k)).toNat : Int)) (fun _ i => l.length - (intOf i).toNat)
  case atStart => exact ⟨0, Nat.zero_le _, rfl, by rw [ones32]; rfl⟩
  case round =>
    obtain ⟨k, hk, rfl, rfl⟩ := hrel
    by_cases hlt : k < l.length
    · obtain ⟨b, off, rfl, hc⟩ := hcell k hlt
      have HT := hid (show crcReg (~~~ s) (l.take (k + 1)) = crcByte (crcReg (~~~ s) (l.take k)) l[k] by rw [List.take_succ_eq_append_getElem hlt, crcReg_snoc])
      generalize crcReg (~~~ s) (l.take k) = r at *
      have hb := byte_lt l[k]
      generalize hg : l[k] = d at *
      have HG := hid hg
      clear hg
      go_wp2
      go_loop [5, 7] (fun x i => ∃ m : Nat, m ≤ 8 ∧ i = .int .i64 m ∧ x = .int .u32 ((regAt (fun k => d.toNat.testBit k) r m).toNat : Int)) (fun _ i => 8 - (intOf i).toNat)
      case atStart => exact ⟨0, Nat.zero_le _, rfl, rfl⟩
      case round =>
        obtain ⟨m, hm, rfl, rfl⟩ := hrel
        by_cases hlt8 : m < 8
        · clear hcell HT HG
          have HS := hid (show regAt (fun k => d.toNat.testBit k) r (m + 1) = crcStep (regAt (fun k => d.toNat.testBit k) r m ^^^ b2v (d.toNat.testBit m)) from rfl)
          generalize regAt (fun k => d.toNat.testBit k) r m = y at *
          go_wp2
          all_goals
            go_round
            case rel => exact ⟨m + 1, by omega, by go_num, by rw [HS.out]; first | rw [ref_hit _ _ _ ‹_›] | rw [ref_miss _ _ _ ‹_›]⟩
            case measure => simp [intOf]; omega
        · obtain rfl : m = 8 := by omega
          have HB := hid (crcByte_bits r d (fun k => d.toNat.testBit k) (fun _ _ => rfl))
          go_wp2
          go_round
          case rel => exact ⟨k + 1, by omega, by go_num, by rw [HT.out, HB.out]⟩
          case measure => simp [intOf]; omega
    · obtain rfl : k = l.length := by omega
      go_wp2
      go_ret
      exact ⟨by rw [ones32]; rfl, rfl⟩

theorem refSum_any (v : Value) (l : List UInt8) (w : World) (h : Rd w v l) :
    Calls Try.prog 38 #[v] w fun e w' => e = .returned (.int .u32 ((crcExt 0#32 l).toNat : Int)) ∧ w = w' := by
  go_enter Try.func38, Try.ntmps38
  go_wp2_with (go_at_call 58; refine (refExtend_any 0#32 v l _ h).mono ?_; rintro e w' ⟨rfl, rfl⟩)
  go_ret
  exact ⟨rfl, rfl⟩
end Go.Proofs.Ytahpklciafpdaaa

namespace Go.FL

theorem word_bits (x e : BitVec 32) (f : Nat → Bool) (hf : ∀ k, k < 32 → f k = e.getLsbD k) : ∀ k, k ≤ 32 →
    crcSteps k (x ^^^ e) = regAt f x k ^^^ (e >>> k) := by
  intro k
  induction k with
  | zero => intro _; simp [crcSteps, regAt]
  | succ k ih =>
    intro hk
    simp only [crcSteps, regAt, ih (by omega)]
    have hsplit : e >>> k = b2v (f k) ^^^ ((e >>> (k + 1)) <<< 1) := by
      apply BitVec.eq_of_getLsbD_eq
      intro i hi
      rcases Nat.eq_zero_or_pos i with rfl | hp
      · simp only [BitVec.getLsbD_xor, BitVec.getLsbD_ushiftRight, Nat.add_zero]
        rw [hf k (by omega), shl_low]
        unfold b2v
        cases e.getLsbD k <;> simp
      · have h0 : (b2v (f k)).getLsbD i = false := by
          unfold b2v
          cases f k
          · simp
          · simp [-BitVec.getLsbD_eq_getElem, BitVec.getLsbD_one]; omega
        simp [-BitVec.getLsbD_eq_getElem, h0, hi, show ¬ i < 1 by omega, show k + 1 + (i - 1) = k + i by omega]
    have htop : (e >>> (k + 1)).getLsbD 31 = false := by
      rw [BitVec.getLsbD_ushiftRight]
      exact BitVec.getLsbD_of_ge _ _ (by omega)
    have hstep : crcStep ((e >>> (k + 1)) <<< 1) = e >>> (k + 1) := by
      simp only [crcStep, shl_low, Bool.false_eq_true, if_false, shl_shr _ htop]
    rw [hsplit, ← BitVec.xor_assoc, crcStep_xor, hstep]

theorem bitAt_le4 (n : BitVec 32) (i : Nat) (hi : i < 32) : bitAt (le4 n) i = n.getLsbD i := by
  have key : ∀ j, i / 8 = j → (UInt8.ofNat (n.toNat / 2 ^ (8 * j))).toNat.testBit (i % 8) = n.getLsbD i := by
    intro j hj
    rw [UInt8.toNat_ofNat', Nat.testBit_mod_two_pow, Nat.testBit_div_two_pow]
    have h1 : i % 8 < 8 := Nat.mod_lt _ (by decide)
    have h2 : i % 8 + 8 * j = i := by omega
    rw [h2, BitVec.getLsbD]
    simp [h1]
  unfold bitAt le4
  have hc : i / 8 = 0 ∨ i / 8 = 1 ∨ i / 8 = 2 ∨ i / 8 = 3 := by omega
  rcases hc with h | h | h | h <;> rw [h]
  · simpa using key 0 h
  · exact key 1 h
  · exact key 2 h
  · exact key 3 h

theorem crcReg_le4 (x n : BitVec 32) : crcReg x (le4 n) = crcSteps 32 (x ^^^ n) := by
  rw [crcReg_all_bits, word_bits x n (bitAt (le4 n)) (fun k hk => bitAt_le4 n k hk) 32 (Nat.le_refl _)]
  have : n >>> 32 = 0#32 := by
    apply BitVec.eq_of_getLsbD_eq
    intro i _
    rw [BitVec.getLsbD_ushiftRight, BitVec.getLsbD_of_ge _ _ (by omega)]
    simp
  rw [this]
  simp [le4]

theorem own_sum (l : List UInt8) (t : BitVec 32) : crcExt 0#32 (l ++ le4 (crcExt 0#32 l ^^^ t)) = crcExt 0#32 (le4 t) := by
  unfold crcExt
  rw [crcReg_append, crcReg_le4, crcReg_le4]
  generalize crcReg (~~~0#32) l = r
  congr 2
  apply BitVec.eq_of_getLsbD_eq
  intro i hi
  simp only [BitVec.getLsbD_xor, BitVec.getLsbD_not, hi, decide_true, Bool.true_and, BitVec.getLsbD_zero]
  cases r.getLsbD i <;> cases t.getLsbD i <;> rfl
theorem own_const (l : List UInt8) : crcExt 0#32 (l ++ le4 (crcExt 0#32 l)) = 0x48674bc7#32 := by
  have := own_sum l 0#32
  rw [BitVec.xor_zero] at this
  rw [this]
  decide +kernel
theorem le4_length (n : BitVec 32) : (le4 n).length = 4 := rfl
end Go.FL

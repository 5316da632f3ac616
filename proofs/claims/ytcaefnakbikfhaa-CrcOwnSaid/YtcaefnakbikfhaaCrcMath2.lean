/- A number's bytes under the register; a text with its own sum behind it. Conditions: none. No program in sight. -/
import Derived.Test.YtcaefnakbikfhaaCrcMath
namespace Go.FL

theorem word_bits (x e : BitVec 32) (f : Nat → Bool) (hf : ∀ k, k < 32 → f k = e.getLsbD k) : ∀ k, k ≤ 32 →
    crcSteps k (x ^^^ e) = regAt f x k ^^^ (e >>> k) := by
  intro k
  induction k with
  | zero => intro _; simp [crcSteps, regAt]
  | succ k ih =>
    intro hk
    simp only [crcSteps, regAt, ih (by omega)]
    have hsplit : e >>> k = b2v (f k) ^^^ ((e >>> (k + 1)) <<< 1) := by
      apply BitVec.eq_of_getLsbD_eq
      intro i hi
      rcases Nat.eq_zero_or_pos i with rfl | hp
      · simp only [BitVec.getLsbD_xor, BitVec.getLsbD_ushiftRight, Nat.add_zero]
        rw [hf k (by omega), shl_low]
        unfold b2v
        cases e.getLsbD k <;> simp
      · have h0 : (b2v (f k)).getLsbD i = false := by
          unfold b2v
          cases f k
          · simp
          · simp [-BitVec.getLsbD_eq_getElem, BitVec.getLsbD_one]; omega
        simp [-BitVec.getLsbD_eq_getElem, h0, hi, show ¬ i < 1 by omega, show k + 1 + (i - 1) = k + i by omega]
    have htop : (e >>> (k + 1)).getLsbD 31 = false := by
      rw [BitVec.getLsbD_ushiftRight]
      exact BitVec.getLsbD_of_ge _ _ (by omega)
    have hstep : crcStep ((e >>> (k + 1)) <<< 1) = e >>> (k + 1) := by
      simp only [crcStep, shl_low, Bool.false_eq_true, if_false, shl_shr _ htop]
    rw [hsplit, ← BitVec.xor_assoc, crcStep_xor, hstep]

theorem bitAt_le4 (n : BitVec 32) (i : Nat) (hi : i < 32) : bitAt (le4 n) i = n.getLsbD i := by
  have key : ∀ j, i / 8 = j → (UInt8.ofNat (n.toNat / 2 ^ (8 * j))).toNat.testBit (i % 8) = n.getLsbD i := by
    intro j hj
    rw [UInt8.toNat_ofNat', Nat.testBit_mod_two_pow, Nat.testBit_div_two_pow]
    have h1 : i % 8 < 8 := Nat.mod_lt _ (by decide)
    have h2 : i % 8 + 8 * j = i := by omega
    rw [h2, BitVec.getLsbD]
    simp [h1]
  unfold bitAt le4
  have hc : i / 8 = 0 ∨ i / 8 = 1 ∨ i / 8 = 2 ∨ i / 8 = 3 := by omega
  rcases hc with h | h | h | h <;> rw [h]
  · simpa using key 0 h
  · exact key 1 h
  · exact key 2 h
  · exact key 3 h

theorem crcReg_le4 (x n : BitVec 32) : crcReg x (le4 n) = crcSteps 32 (x ^^^ n) := by
  rw [crcReg_all_bits, word_bits x n (bitAt (le4 n)) (fun k hk => bitAt_le4 n k hk) 32 (Nat.le_refl _)]
  have : n >>> 32 = 0#32 := by
    apply BitVec.eq_of_getLsbD_eq
    intro i _
    rw [BitVec.getLsbD_ushiftRight, BitVec.getLsbD_of_ge _ _ (by omega)]
    simp
  rw [this]
  simp [le4]

theorem own_sum (l : List UInt8) (t : BitVec 32) : crcExt 0#32 (l ++ le4 (crcExt 0#32 l ^^^ t)) = crcExt 0#32 (le4 t) := by
  unfold crcExt
  rw [crcReg_append, crcReg_le4, crcReg_le4]
  generalize crcReg (~~~0#32) l = r
  congr 2
  apply BitVec.eq_of_getLsbD_eq
  intro i hi
  simp only [BitVec.getLsbD_xor, BitVec.getLsbD_not, hi, decide_true, Bool.true_and, BitVec.getLsbD_zero]
  cases r.getLsbD i <;> cases t.getLsbD i <;> rfl
theorem own_const (l : List UInt8) : crcExt 0#32 (l ++ le4 (crcExt 0#32 l)) = 0x48674bc7#32 := by
  have := own_sum l 0#32
  rw [BitVec.xor_zero] at this
  rw [this]
  decide +kernel
theorem le4_length (n : BitVec 32) : (le4 n).length = 4 := rfl
end Go.FL

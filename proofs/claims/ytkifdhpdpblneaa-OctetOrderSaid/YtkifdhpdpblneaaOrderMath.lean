/- Numbers by their bytes: which one is less. Conditions: none. No program in sight. -/
import Derived.Test.YtkifdhpdpblneaaOctMath
import Derived.Test.YtkifdhpdpblneaaApartMath
namespace Go.FL
open Go.RowKit

theorem beFold_add (l : List UInt8) : ∀ a : Nat, l.foldl (fun a b => a * 256 + b.toNat) a = a * 256 ^ l.length + beVal l := by
  unfold beVal
  induction l with
  | nil => intro a; simp
  | cons b l ih =>
    intro a
    rw [List.foldl_cons, ih, List.foldl_cons, ih (0 * 256 + b.toNat), List.length_cons, Nat.pow_succ, Nat.add_mul, Nat.mul_assoc, Nat.mul_comm 256, Nat.zero_mul, Nat.zero_add, Nat.add_assoc]
theorem beVal_cons (b : UInt8) (l : List UInt8) : beVal (b :: l) = b.toNat * 256 ^ l.length + beVal l := by
  have := beFold_add l b.toNat
  rw [← this]
  simp [beVal]
theorem bytesLess_val : ∀ (l m : List UInt8), l.length = m.length → Op.bytesLess l m = decide (beVal l < beVal m)
  | [], [], _ => by simp [Op.bytesLess, beVal]
  | [], _ :: _, h => by simp at h
  | _ :: _, [], h => by simp at h
  | a :: l, b :: m, h => by
    have hl : l.length = m.length := by simpa using h
    rw [Op.bytesLess, bytesLess_val l m hl, beVal_cons, beVal_cons, hl]
    have h1 := beVal_lt l
    have h2 := beVal_lt m
    rw [hl] at h1
    generalize beVal l = x at *
    generalize beVal m = y at *
    generalize 256 ^ m.length = P at *
    rw [Bool.eq_iff_iff]
    simp only [Bool.or_eq_true, Bool.and_eq_true, decide_eq_true_eq, beq_iff_eq, UInt8.lt_iff_toNat_lt]
    constructor
    · rintro (h3 | ⟨h3, h4⟩)
      · have h5 : (a.toNat + 1) * P ≤ b.toNat * P := Nat.mul_le_mul_right P h3
        rw [Nat.add_mul, Nat.one_mul] at h5
        omega
      · subst h3
        omega
    · intro h3
      rcases Nat.lt_trichotomy a.toNat b.toNat with h4 | h4 | h4
      · exact .inl h4
      · refine .inr ⟨UInt8.toNat_inj.1 h4, ?_⟩
        rw [h4] at h3
        omega
      · exfalso
        have h5 : (b.toNat + 1) * P ≤ a.toNat * P := Nat.mul_le_mul_right P h4
        rw [Nat.add_mul, Nat.one_mul] at h5
        omega
theorem q256 (q : Nat) : 2 ^ (8 * q) = 256 ^ q := by rw [Nat.pow_mul]
theorem beVal_part' (n x : Nat) : ∀ k, k ≤ n → beVal (bePart n x k) = x / 256 ^ (n - k) % 256 ^ k
  | 0, _ => by simp [bePart, beVal, Nat.mod_one]
  | k + 1, h => by
    rw [bePart_succ, beVal_snoc, beVal_part' n x k (by omega), UInt8.toNat_ofNat', q256]
    obtain ⟨q, h1, h2, h3⟩ : ∃ q, n - 1 - k = q ∧ n - (k + 1) = q ∧ n - k = q + 1 := ⟨_, rfl, by omega, by omega⟩
    rw [h1, h2, h3, Nat.pow_succ 256 q, ← Nat.div_div_eq_div_mul, Nat.pow_succ 256 k, Nat.mul_comm (256 ^ k) 256, Nat.mod_mul]
    show _ * 256 + _ % 256 = _
    omega
theorem beVal_bytes' (n x : Nat) (h : x < 256 ^ n) : beVal (beBytes n x) = x := by
  have := beVal_part' n x n (Nat.le_refl _)
  simp at this
  rw [show beVal (beBytes n x) = _ from this]
  exact Nat.mod_eq_of_lt h
theorem order_bytes (n x y : Nat) (hx : x < 256 ^ n) (hy : y < 256 ^ n) : Op.bytesLess (beBytes n x) (beBytes n y) = decide (x < y) := by
  rw [bytesLess_val _ _ (by rw [beBytes_length, beBytes_length]), beVal_bytes' n x hx, beVal_bytes' n y hy]
/-- The string of bytes, read. -/
theorem strOf_toList (l : List UInt8) : (strOfNums (l.map fun b => (b.toNat : Int))).toList = l := by
  rw [ByteArray.toList_eq, strOfNums_data, List.map_map]
  conv => rhs; rw [← List.map_id l]
  apply List.map_congr_left
  intro b _
  simp
end Go.FL

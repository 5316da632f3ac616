/- Numbers as bytes: got as they were put; numbers at places. Conditions: none. No program in sight. -/
import Derived.Test.YtfiblhdejglpaaaOctMath
namespace Go.FL

theorem beBytes_snoc (n x : Nat) : beBytes (n + 1) x = beBytes n (x / 256) ++ [UInt8.ofNat x] := by
  rw [beBytes, bePart_succ]
  congr 1
  · rw [beBytes, bePart, bePart]
    apply List.map_congr_left
    intro j hj
    have hj : j < n := List.mem_range.1 hj
    congr 1
    rw [Nat.div_div_eq_div_mul]
    congr 1
    rw [show 8 * (n + 1 - 1 - j) = 8 + 8 * (n - 1 - j) by omega, Nat.pow_add]
  · rw [show 8 * (n + 1 - 1 - n) = 0 by omega, Nat.pow_zero, Nat.div_one]
theorem beBytes_val : ∀ (n : Nat) (l : List UInt8), l.length = n → beBytes n (beVal l) = l
  | 0, l, h => by
    rw [List.length_eq_zero_iff.1 h]
    rfl
  | n + 1, l, h => by
    obtain ⟨m, b, rfl⟩ : ∃ m b, l = m ++ [b] := ⟨l.dropLast, l.getLast (by intro e; simp [e] at h), (List.dropLast_concat_getLast _).symm⟩
    have hm : m.length = n := by simpa using h
    have hb := b.toNat_lt
    rw [beBytes_snoc, beVal_snoc]
    have h1 : (beVal m * 256 + b.toNat) / 256 = beVal m := by omega
    rw [h1, beBytes_val n m hm]
    congr 2
    apply UInt8.toNat_inj.1
    rw [UInt8.toNat_ofNat']
    omega
theorem beVal_of : ∀ (n x : Nat), x < 256 ^ n → beVal (beBytes n x) = x
  | 0, x, h => by
    obtain rfl : x = 0 := by simpa using h
    rfl
  | n + 1, x, h => by
    rw [Nat.pow_succ] at h
    rw [beBytes_snoc, beVal_snoc, beVal_of n (x / 256) (by omega), UInt8.toNat_ofNat']
    omega
/-- What stands in the midst. -/
theorem mid_of {α : Type} (a b c : List α) (n k : Nat) (hn : a.length = n) (hk : b.length = k) : ((a ++ (b ++ c)).drop n).take k = b := by
  subst hn hk
  simp

/-- The number at a place; 0: it is not within. -/
def numAt (l : List UInt8) (a n : Nat) : Nat := if a + n ≤ l.length then beVal ((l.drop a).take n) else 0
theorem numAt_lt (l : List UInt8) (a n : Nat) : numAt l a n < 256 ^ n := by
  unfold numAt
  split
  · exact Nat.lt_of_lt_of_le (beVal_lt _) (Nat.pow_le_pow_right (by decide) (List.length_take_le _ _))
  · exact Nat.pow_pos (by decide)
theorem numAt_mid (p m s : List UInt8) (a n : Nat) (hp : p.length = a) (hm : m.length = n) : numAt (p ++ (m ++ s)) a n = beVal m := by
  rw [numAt, if_pos (by simp; omega), mid_of p m s a n hp hm]
theorem numAt_be (p s : List UInt8) (a n x : Nat) (hp : p.length = a) (hx : x < 256 ^ n) : numAt (p ++ (beBytes n x ++ s)) a n = x := by
  rw [numAt_mid p (beBytes n x) s a n hp (beBytes_length _ _), beVal_of n x hx]
theorem numAt_bytes (l : List UInt8) (a n : Nat) (h : a + n ≤ l.length) : beBytes n (numAt l a n) = (l.drop a).take n := by
  rw [numAt, if_pos h]
  exact beBytes_val n _ (by simp; omega)
theorem numAt_take (l : List UInt8) (a n k : Nat) (h : a + n ≤ k) (hk : k ≤ l.length) : numAt (l.take k) a n = numAt l a n := by
  have h1 : (l.take k).length = k := by simp; omega
  rw [numAt, numAt, if_pos (by omega), if_pos (by omega), List.drop_take, List.take_take, Nat.min_eq_left (by omega)]

/-- Numbers of n bytes, one behind the other. -/
def catBE (n : Nat) (xs : List Nat) : List UInt8 := (xs.map (beBytes n)).flatten
theorem catBE_nil (n : Nat) : catBE n [] = [] := rfl
theorem catBE_cons (n x : Nat) (xs : List Nat) : catBE n (x :: xs) = beBytes n x ++ catBE n xs := rfl
theorem catBE_append (n : Nat) (xs ys : List Nat) : catBE n (xs ++ ys) = catBE n xs ++ catBE n ys := by simp [catBE]
theorem catBE_length (n : Nat) : ∀ xs : List Nat, (catBE n xs).length = n * xs.length
  | [] => rfl
  | x :: xs => by rw [catBE_cons, List.length_append, beBytes_length, catBE_length n xs, List.length_cons, Nat.mul_succ]; omega

end Go.FL

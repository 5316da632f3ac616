/- Numbers of so many bytes, the highest byte first; pieces; lengths rounded up. Conditions: none. No program in sight. -/
import Derived.Test.YtfiblhdejglpaaaBits
namespace Go.FL

def sizedB (n : Int) : Bool := decide (n = 1 ∨ n = 2 ∨ n = 4 ∨ n = 8)
def withinB (len : Nat) (at_ n : Int) : Bool := decide (0 ≤ at_ ∧ 0 ≤ n ∧ at_ ≤ (len : Int) ∧ n ≤ (len : Int) - at_)
/-- The number of bytes, the highest first. -/
def beVal (l : List UInt8) : Nat := l.foldl (fun a b => a * 256 + b.toNat) 0
/-- The first k of a number's bytes, the highest of so many first. -/
def bePart (size x k : Nat) : List UInt8 := (List.range k).map fun j => UInt8.ofNat (x / 2 ^ (8 * (size - 1 - j)))
def beBytes (size x : Nat) : List UInt8 := bePart size x size
def roundI (n : Int) : Int := if n < 0 ∨ 4611686018427387904 < n then 0 else (n + 3) / 4 * 4
def roundN (n : Nat) : Nat := (n + 3) / 4 * 4
def padded (l : List UInt8) : List UInt8 := l ++ List.replicate (roundN l.length - l.length) 0

theorem sizedB_cases {n : Int} (h : sizedB n = true) : n = 1 ∨ n = 2 ∨ n = 4 ∨ n = 8 := by simpa [sizedB] using h
theorem sizedB_nat {n : Int} (h : sizedB n = true) : ∃ m : Nat, n = (m : Int) ∧ 0 < m ∧ m ≤ 8 := by
  have := sizedB_cases h
  exact ⟨n.toNat, by omega, by omega, by omega⟩
theorem withinB_nat {len : Nat} {a n : Int} (h : withinB len a n = true) : ∃ i k : Nat, a = (i : Int) ∧ n = (k : Int) ∧ i + k ≤ len := by
  simp [withinB] at h
  exact ⟨a.toNat, n.toNat, by omega, by omega, by omega⟩
theorem bePart_succ (size x k : Nat) : bePart size x (k + 1) = bePart size x k ++ [UInt8.ofNat (x / 2 ^ (8 * (size - 1 - k)))] := by
  simp [bePart, List.range_succ]
theorem bePart_length (size x k : Nat) : (bePart size x k).length = k := by simp [bePart]
theorem beBytes_length (size x : Nat) : (beBytes size x).length = size := bePart_length size x size
theorem beVal_nil : beVal [] = 0 := rfl
theorem beVal_snoc (l : List UInt8) (b : UInt8) : beVal (l ++ [b]) = beVal l * 256 + b.toNat := by simp [beVal]
theorem beFold_lt (l : List UInt8) : ∀ a : Nat, l.foldl (fun a b => a * 256 + b.toNat) a < (a + 1) * 256 ^ l.length := by
  induction l with
  | nil => intro a; simp
  | cons b l ih =>
    intro a
    rw [List.foldl_cons, List.length_cons, Nat.pow_succ]
    have h1 := ih (a * 256 + b.toNat)
    have hb := b.toNat_lt
    have h2 : (a * 256 + b.toNat + 1) * 256 ^ l.length ≤ ((a + 1) * 256) * 256 ^ l.length := Nat.mul_le_mul_right _ (by omega)
    have h3 : (a + 1) * (256 ^ l.length * 256) = ((a + 1) * 256) * 256 ^ l.length := by rw [Nat.mul_comm (256 ^ l.length) 256, Nat.mul_assoc]
    omega
theorem beVal_lt (l : List UInt8) : beVal l < 256 ^ l.length := by
  have := beFold_lt l 0
  simpa [beVal] using this
theorem pow256_le {k : Nat} (h : k ≤ 8) : 256 ^ k ≤ 18446744073709551616 := Nat.le_trans (Nat.pow_le_pow_right (by decide) h) (by decide)
theorem pow256_lt {k : Nat} (h : k ≤ 7) : 256 ^ k ≤ 72057594037927936 := Nat.le_trans (Nat.pow_le_pow_right (by decide) h) (by decide)
theorem roundN_le (n : Nat) : n ≤ roundN n := by unfold roundN; omega
theorem roundN_lt (n : Nat) : roundN n < n + 4 := by unfold roundN; omega
theorem roundN_mod (n : Nat) : roundN n % 4 = 0 := by unfold roundN; omega
theorem roundI_nat (n : Nat) (h : n ≤ 4611686018427387904) : roundI (n : Int) = (roundN n : Int) := by
  unfold roundI roundN
  rw [if_neg (by omega)]
  omega
theorem padded_length (l : List UInt8) : (padded l).length = roundN l.length := by
  have := roundN_le l.length
  simp [padded]
  omega

theorem or_byte (x : Nat) (b : UInt8) (h : x < 72057594037927936) : bits .or .u64 ((x : Int) * 256) (b.toNat : Int) = ((x * 256 + b.toNat : Nat) : Int) := by
  have hb := b.toNat_lt
  have h1 : (x : Int) * 256 = ((x * 256 : Nat) : Int) := by omega
  rw [h1]
  show IntKind.u64.wrap (((BitVec.ofInt 64 ((x * 256 : Nat) : Int)) ||| (BitVec.ofInt 64 (b.toNat : Int))).toNat : Int) = _
  have h2 : ((BitVec.ofInt 64 ((x * 256 : Nat) : Int)) ||| (BitVec.ofInt 64 (b.toNat : Int))).toNat = x * 256 + b.toNat := by
    rw [BitVec.toNat_or, BitVec.ofInt_natCast, BitVec.ofInt_natCast, BitVec.toNat_ofNat, BitVec.toNat_ofNat, Nat.mod_eq_of_lt (show x * 256 < 2 ^ 64 by omega), Nat.mod_eq_of_lt (show b.toNat < 2 ^ 64 by omega)]
    have := Nat.shiftLeft_add_eq_or_of_lt (show b.toNat < 2 ^ 8 from hb) x
    rw [Nat.shiftLeft_eq] at this
    exact this.symm
  rw [h2]
  simp only [IntKind.wrap, IntKind.bits, IntKind.signed]
  simp
  omega
theorem shr_byte (x k : Nat) : ((x : Int) / 2 ^ k) % 256 = ((UInt8.ofNat (x / 2 ^ k)).toNat : Int) := by
  have h1 : (x : Int) / 2 ^ k = ((x / 2 ^ k : Nat) : Int) := by simp
  rw [h1, UInt8.toNat_ofNat']
  omega
theorem three_bits (i : Nat) (hi : i < 64) : (3#64).getLsbD i = decide (i < 2) := by
  have : ∀ j, j < 64 → (3#64).getLsbD j = decide (j < 2) := by decide
  exact this i hi
theorem andNot3 (m : Nat) (h : m < 9223372036854775808) : bits .andNot .i64 (m : Int) 3 = ((m / 4 * 4 : Nat) : Int) := by
  show IntKind.i64.wrap (((BitVec.ofInt 64 (m : Int)) &&& ~~~(BitVec.ofInt 64 3)).toNat : Int) = _
  have h1 : ((BitVec.ofInt 64 (m : Int)) &&& ~~~(BitVec.ofInt 64 3)).toNat = m / 4 * 4 := by
    have h2 : ((BitVec.ofInt 64 (m : Int)) &&& ~~~(BitVec.ofInt 64 3)) = BitVec.ofNat 64 (m / 4 * 4) := by
      apply BitVec.eq_of_getLsbD_eq
      intro i hi
      rw [BitVec.getLsbD_and, BitVec.getLsbD_not, BitVec.ofInt_natCast, BitVec.getLsbD_ofNat, BitVec.getLsbD_ofNat, show BitVec.ofInt 64 3 = 3#64 from rfl, three_bits i hi]
      rw [show m / 4 * 4 = m / 2 ^ 2 * 2 ^ 2 from rfl, Nat.testBit_mul_two_pow, Nat.testBit_div_two_pow]
      by_cases h3 : 2 ≤ i
      · simp [hi, h3, show ¬ i < 2 by omega, show i - 2 + 2 = i by omega]
      · simp [hi, h3, show i < 2 by omega]
    rw [h2, BitVec.toNat_ofNat, Nat.mod_eq_of_lt (show m / 4 * 4 < 2 ^ 64 by omega)]
  rw [h1, IntKind.wrap_i64]
  omega
end Go.FL

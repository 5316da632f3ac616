/- Joined: OctMath, NumMath, ChunkMath, CrcMath. -/
import Derived.Test.YtahpklciafpdaaaBaseA
set_option linter.unusedSimpArgs false
set_option linter.unusedVariables false
namespace Go.FL

def sizedB (n : Int) : Bool := decide (n = 1 ∨ n = 2 ∨ n = 4 ∨ n = 8)
def withinB (len : Nat) (at_ n : Int) : Bool := decide (0 ≤ at_ ∧ 0 ≤ n ∧ at_ ≤ (len : Int) ∧ n ≤ (len : Int) - at_)
/-- The number of bytes, the highest first. -/
def beVal (l : List UInt8) : Nat := l.foldl (fun a b => a * 256 + b.toNat) 0
/-- The first k of a number's bytes, the highest of so many first. -/
def bePart (size x k : Nat) : List UInt8 := (List.range k).map fun j => UInt8.ofNat (x / 2 ^ (8 * (size - 1 - j)))
def beBytes (size x : Nat) : List UInt8 := bePart size x size
def roundI (n : Int) : Int := if n < 0 ∨ 4611686018427387904 < n then 0 else (n + 3) / 4 * 4
def roundN (n : Nat) : Nat := (n + 3) / 4 * 4
def padded (l : List UInt8) : List UInt8 := l ++ List.replicate (roundN l.length - l.length) 0

theorem sizedB_cases {n : Int} (h : sizedB n = true) : n = 1 ∨ n = 2 ∨ n = 4 ∨ n = 8 := by simpa [sizedB] using h
theorem sizedB_nat {n : Int} (h : sizedB n = true) : ∃ m : Nat, n = (m : Int) ∧ 0 < m ∧ m ≤ 8 := by
  have := sizedB_cases h
  exact ⟨n.toNat, by omega, by omega, by omega⟩
theorem withinB_nat {len : Nat} {a n : Int} (h : withinB len a n = true) : ∃ i k : Nat, a = (i : Int) ∧ n = (k : Int) ∧ i + k ≤ len := by
  simp [withinB] at h
  exact ⟨a.toNat, n.toNat, by omega, by omega, by omega⟩
theorem bePart_succ (size x k : Nat) : bePart size x (k + 1) = bePart size x k ++ [UInt8.ofNat (x / 2 ^ (8 * (size - 1 - k)))] := by
  simp [bePart, List.range_succ]
theorem bePart_length (size x k : Nat) : (bePart size x k).length = k := by simp [bePart]
theorem beBytes_length (size x : Nat) : (beBytes size x).length = size := bePart_length size x size
theorem beVal_nil : beVal [] = 0 := rfl
theorem beVal_snoc (l : List UInt8) (b : UInt8) : beVal (l ++ [b]) = beVal l * 256 + b.toNat := by simp [beVal]
theorem beFold_lt (l : List UInt8) : ∀ a : Nat, l.foldl (fun a b => a * 256 + b.toNat) a < (a + 1) * 256 ^ l.length := by
  induction l with
  | nil => intro a; simp
  | cons b l ih =>
    intro a
    rw [List.foldl_cons, List.length_cons, Nat.pow_succ]
    have h1 := ih (a * 256 + b.toNat)
    have hb := b.toNat_lt
    have h2 : (a * 256 + b.toNat + 1) * 256 ^ l.length ≤ ((a + 1) * 256) * 256 ^ l.length := Nat.mul_le_mul_right _ (by omega)
    have h3 : (a + 1) * (256 ^ l.length * 256) = ((a + 1) * 256) * 256 ^ l.length := by rw [Nat.mul_comm (256 ^ l.length) 256, Nat.mul_assoc]
    omega
theorem beVal_lt (l : List UInt8) : beVal l < 256 ^ l.length := by
  have := beFold_lt l 0
  simpa [beVal] using this
theorem pow256_le {k : Nat} (h : k ≤ 8) : 256 ^ k ≤ 18446744073709551616 := Nat.le_trans (Nat.pow_le_pow_right (by decide) h) (by decide)
theorem pow256_lt {k : Nat} (h : k ≤ 7) : 256 ^ k ≤ 72057594037927936 := Nat.le_trans (Nat.pow_le_pow_right (by decide) h) (by decide)
theorem roundN_le (n : Nat) : n ≤ roundN n := by unfold roundN; omega
theorem roundN_lt (n : Nat) : roundN n < n + 4 := by unfold roundN; omega
theorem roundN_mod (n : Nat) : roundN n % 4 = 0 := by unfold roundN; omega
theorem roundI_nat (n : Nat) (h : n ≤ 4611686018427387904) : roundI (n : Int) = (roundN n : Int) := by
  unfold roundI roundN
  rw [if_neg (by omega)]
  omega
theorem padded_length (l : List UInt8) : (padded l).length = roundN l.length := by
  have := roundN_le l.length
  simp [padded]
  omega

theorem or_byte (x : Nat) (b : UInt8) (h : x < 72057594037927936) : bits .or .u64 ((x : Int) * 256) (b.toNat : Int) = ((x * 256 + b.toNat : Nat) : Int) := by
  have hb := b.toNat_lt
  have h1 : (x : Int) * 256 = ((x * 256 : Nat) : Int) := by omega
  rw [h1]
  show IntKind.u64.wrap (((BitVec.ofInt 64 ((x * 256 : Nat) : Int)) ||| (BitVec.ofInt 64 (b.toNat : Int))).toNat : Int) = _
  have h2 : ((BitVec.ofInt 64 ((x * 256 : Nat) : Int)) ||| (BitVec.ofInt 64 (b.toNat : Int))).toNat = x * 256 + b.toNat := by
    rw [BitVec.toNat_or, BitVec.ofInt_natCast, BitVec.ofInt_natCast, BitVec.toNat_ofNat, BitVec.toNat_ofNat, Nat.mod_eq_of_lt (show x * 256 < 2 ^ 64 by omega), Nat.mod_eq_of_lt (show b.toNat < 2 ^ 64 by omega)]
    have := Nat.shiftLeft_add_eq_or_of_lt (show b.toNat < 2 ^ 8 from hb) x
    rw [Nat.shiftLeft_eq] at this
    exact this.symm
  rw [h2]
  simp only [IntKind.wrap, IntKind.bits, IntKind.signed]
  simp
  omega
theorem shr_byte (x k : Nat) : ((x : Int) / 2 ^ k) % 256 = ((UInt8.ofNat (x / 2 ^ k)).toNat : Int) := by
  have h1 : (x : Int) / 2 ^ k = ((x / 2 ^ k : Nat) : Int) := by simp
  rw [h1, UInt8.toNat_ofNat']
  omega
theorem three_bits (i : Nat) (hi : i < 64) : (3#64).getLsbD i = decide (i < 2) := by
  have : ∀ j, j < 64 → (3#64).getLsbD j = decide (j < 2) := by decide
  exact this i hi
theorem andNot3 (m : Nat) (h : m < 9223372036854775808) : bits .andNot .i64 (m : Int) 3 = ((m / 4 * 4 : Nat) : Int) := by
  show IntKind.i64.wrap (((BitVec.ofInt 64 (m : Int)) &&& ~~~(BitVec.ofInt 64 3)).toNat : Int) = _
  have h1 : ((BitVec.ofInt 64 (m : Int)) &&& ~~~(BitVec.ofInt 64 3)).toNat = m / 4 * 4 := by
    have h2 : ((BitVec.ofInt 64 (m : Int)) &&& ~~~(BitVec.ofInt 64 3)) = BitVec.ofNat 64 (m / 4 * 4) := by
      apply BitVec.eq_of_getLsbD_eq
      intro i hi
      rw [BitVec.getLsbD_and, BitVec.getLsbD_not, BitVec.ofInt_natCast, BitVec.getLsbD_ofNat, BitVec.getLsbD_ofNat, show BitVec.ofInt 64 3 = 3#64 from rfl, three_bits i hi]
      rw [show m / 4 * 4 = m / 2 ^ 2 * 2 ^ 2 from rfl, Nat.testBit_mul_two_pow, Nat.testBit_div_two_pow]
      by_cases h3 : 2 ≤ i
      · simp [hi, h3, show ¬ i < 2 by omega, show i - 2 + 2 = i by omega]
      · simp [hi, h3, show i < 2 by omega]
    rw [h2, BitVec.toNat_ofNat, Nat.mod_eq_of_lt (show m / 4 * 4 < 2 ^ 64 by omega)]
  rw [h1, IntKind.wrap_i64]
  omega
end Go.FL

namespace Go.FL

theorem beBytes_snoc (n x : Nat) : beBytes (n + 1) x = beBytes n (x / 256) ++ [UInt8.ofNat x] := by
  rw [beBytes, bePart_succ]
  congr 1
  · rw [beBytes, bePart, bePart]
    apply List.map_congr_left
    intro j hj
    have hj : j < n := List.mem_range.1 hj
    congr 1
    rw [Nat.div_div_eq_div_mul]
    congr 1
    rw [show 8 * (n + 1 - 1 - j) = 8 + 8 * (n - 1 - j) by omega, Nat.pow_add]
  · rw [show 8 * (n + 1 - 1 - n) = 0 by omega, Nat.pow_zero, Nat.div_one]
theorem beBytes_val : ∀ (n : Nat) (l : List UInt8), l.length = n → beBytes n (beVal l) = l
  | 0, l, h => by
    rw [List.length_eq_zero_iff.1 h]
    rfl
  | n + 1, l, h => by
    obtain ⟨m, b, rfl⟩ : ∃ m b, l = m ++ [b] := ⟨l.dropLast, l.getLast (by intro e; simp [e] at h), (List.dropLast_concat_getLast _).symm⟩
    have hm : m.length = n := by simpa using h
    have hb := b.toNat_lt
    rw [beBytes_snoc, beVal_snoc]
    have h1 : (beVal m * 256 + b.toNat) / 256 = beVal m := by omega
    rw [h1, beBytes_val n m hm]
    congr 2
    apply UInt8.toNat_inj.1
    rw [UInt8.toNat_ofNat']
    omega
theorem beVal_of : ∀ (n x : Nat), x < 256 ^ n → beVal (beBytes n x) = x
  | 0, x, h => by
    obtain rfl : x = 0 := by simpa using h
    rfl
  | n + 1, x, h => by
    rw [Nat.pow_succ] at h
    rw [beBytes_snoc, beVal_snoc, beVal_of n (x / 256) (by omega), UInt8.toNat_ofNat']
    omega
/-- What stands in the midst. -/
theorem mid_of {α : Type} (a b c : List α) (n k : Nat) (hn : a.length = n) (hk : b.length = k) : ((a ++ (b ++ c)).drop n).take k = b := by
  subst hn hk
  simp

/-- The number at a place; 0: it is not within. -/
def numAt (l : List UInt8) (a n : Nat) : Nat := if a + n ≤ l.length then beVal ((l.drop a).take n) else 0
theorem numAt_lt (l : List UInt8) (a n : Nat) : numAt l a n < 256 ^ n := by
  unfold numAt
  split
  · exact Nat.lt_of_lt_of_le (beVal_lt _) (Nat.pow_le_pow_right (by decide) (List.length_take_le _ _))
  · exact Nat.pow_pos (by decide)
theorem numAt_mid (p m s : List UInt8) (a n : Nat) (hp : p.length = a) (hm : m.length = n) : numAt (p ++ (m ++ s)) a n = beVal m := by
  rw [numAt, if_pos (by simp; omega), mid_of p m s a n hp hm]
theorem numAt_be (p s : List UInt8) (a n x : Nat) (hp : p.length = a) (hx : x < 256 ^ n) : numAt (p ++ (beBytes n x ++ s)) a n = x := by
  rw [numAt_mid p (beBytes n x) s a n hp (beBytes_length _ _), beVal_of n x hx]
theorem numAt_bytes (l : List UInt8) (a n : Nat) (h : a + n ≤ l.length) : beBytes n (numAt l a n) = (l.drop a).take n := by
  rw [numAt, if_pos h]
  exact beBytes_val n _ (by simp; omega)
theorem numAt_take (l : List UInt8) (a n k : Nat) (h : a + n ≤ k) (hk : k ≤ l.length) : numAt (l.take k) a n = numAt l a n := by
  have h1 : (l.take k).length = k := by simp; omega
  rw [numAt, numAt, if_pos (by omega), if_pos (by omega), List.drop_take, List.take_take, Nat.min_eq_left (by omega)]

/-- Numbers of n bytes, one behind the other. -/
def catBE (n : Nat) (xs : List Nat) : List UInt8 := (xs.map (beBytes n)).flatten
theorem catBE_nil (n : Nat) : catBE n [] = [] := rfl
theorem catBE_cons (n x : Nat) (xs : List Nat) : catBE n (x :: xs) = beBytes n x ++ catBE n xs := rfl
theorem catBE_append (n : Nat) (xs ys : List Nat) : catBE n (xs ++ ys) = catBE n xs ++ catBE n ys := by simp [catBE]
theorem catBE_length (n : Nat) : ∀ xs : List Nat, (catBE n xs).length = n * xs.length
  | [] => rfl
  | x :: xs => by rw [catBE_cons, List.length_append, beBytes_length, catBE_length n xs, List.length_cons, Nat.mul_succ]; omega

end Go.FL

namespace Go.FL

/-- A chunk: its kind, its flags, its body. -/
structure Chk where
  k : UInt8
  f : UInt8
  b : List UInt8
theorem Chk.ext' {c d : Chk} (h1 : c.k = d.k) (h2 : c.f = d.f) (h3 : c.b = d.b) : c = d := by
  cases c; cases d; simp_all
def Chk.zero : Chk := ⟨0, 0, []⟩
def Chk.head (c : Chk) : List UInt8 := [c.k, c.f] ++ beBytes 2 (4 + c.b.length)
def Chk.raw (c : Chk) : List UInt8 := c.head ++ c.b
def Chk.bytes (c : Chk) : List UInt8 := if 65531 < c.b.length then [] else padded c.raw
theorem Chk.head_length (c : Chk) : c.head.length = 4 := by simp [Chk.head, beBytes_length]
theorem Chk.raw_length (c : Chk) : c.raw.length = 4 + c.b.length := by simp [Chk.raw, Chk.head_length]
theorem Chk.bytes_length (c : Chk) (h : c.b.length ≤ 65531) : c.bytes.length = roundN (4 + c.b.length) := by
  rw [Chk.bytes, if_neg (by omega), padded_length, Chk.raw_length]
theorem Chk.bytes_pos (c : Chk) (h : c.b.length ≤ 65531) : 4 + c.b.length ≤ c.bytes.length ∧ c.bytes.length ≤ 7 + c.b.length ∧ c.bytes.length % 4 = 0 := by
  rw [c.bytes_length h]
  have := roundN_le (4 + c.b.length)
  have := roundN_lt (4 + c.b.length)
  exact ⟨by omega, by omega, roundN_mod _⟩
theorem Chk.bytes_big (c : Chk) (h : 65531 < c.b.length) : c.bytes = [] := by rw [Chk.bytes, if_pos h]

/-- What the length of a chunk says. -/
def chkLen (l : List UInt8) : Nat := beVal ((l.drop 2).take 2)
theorem chkLen_lt (l : List UInt8) : chkLen l < 65536 := by
  have h := beVal_lt ((l.drop 2).take 2)
  have h1 : ((l.drop 2).take 2).length ≤ 2 := List.length_take_le _ _
  exact Nat.lt_of_lt_of_le h (Nat.pow_le_pow_right (by decide) h1)
def chkPad (l : List UInt8) : List UInt8 := (l.drop (chkLen l)).take (roundN (chkLen l) - chkLen l)
/-- Does a chunk stand at the head of these bytes? -/
def chkOk (l : List UInt8) : Bool := decide (4 ≤ l.length ∧ 4 ≤ chkLen l ∧ roundN (chkLen l) ≤ l.length ∧ ∀ b ∈ chkPad l, b = 0)
def chkOf (l : List UInt8) : Chk := ⟨l.getD 0 0, l.getD 1 0, (l.drop 4).take (chkLen l - 4)⟩
/-- How many bytes it has. -/
def chkSize (l : List UInt8) : Nat := roundN (chkLen l)
theorem chkOf_len (l : List UInt8) (h4 : 4 ≤ chkLen l) (hl : chkLen l ≤ l.length) : (chkOf l).b.length = chkLen l - 4 := by
  simp [chkOf]
  omega
theorem chkOf_raw (l : List UInt8) (h4 : 4 ≤ chkLen l) (hl : chkLen l ≤ l.length) : (chkOf l).raw = l.take (chkLen l) := by
  have hb := chkOf_len l h4 hl
  have h2 : beBytes 2 (4 + (chkOf l).b.length) = (l.drop 2).take 2 := by
    rw [hb, show 4 + (chkLen l - 4) = chkLen l by omega]
    exact beBytes_val 2 _ (by simp; omega)
  rw [Chk.raw, Chk.head, h2]
  have h0 : [(chkOf l).k, (chkOf l).f] = l.take 2 := by
    match l, hl with
    | a :: b :: r, _ => rfl
    | [a], h => simp at h; omega
    | [], h => simp at h; omega
  have h6 : l.take 2 ++ (l.drop 2).take 2 = l.take 4 := by rw [← List.take_add]
  have h7 : l.take 4 ++ (l.drop 4).take (chkLen l - 4) = l.take (chkLen l) := by rw [← List.take_add, show 4 + (chkLen l - 4) = chkLen l by omega]
  rw [h0, h6]
  exact h7
theorem pad_all (l : List UInt8) (h : ∀ b ∈ l, b = 0) : l = List.replicate l.length 0 := List.eq_replicate_of_mem h
theorem take_more {α : Type} (l : List α) (n r : Nat) (h : n ≤ r) : l.take r = l.take n ++ (l.drop n).take (r - n) := by
  rw [← List.take_add, show n + (r - n) = r by omega]
/-- What a chunk's bytes are, if its length is within. -/
theorem chkOf_bytes (l : List UInt8) (h4 : 4 ≤ chkLen l) (hl : chkLen l ≤ l.length) : (chkOf l).bytes = l.take (chkLen l) ++ List.replicate (chkSize l - chkLen l) 0 := by
  have hlt := chkLen_lt l
  have hb := chkOf_len l h4 hl
  have hlen : (l.take (chkLen l)).length = chkLen l := by simp; omega
  rw [Chk.bytes, if_neg (by omega), padded, chkOf_raw l h4 hl, hlen]
  rfl
/-- A chunk that is read is the one whose bytes these are. -/
theorem chkOk_bytes (l : List UInt8) (h : chkOk l = true) : (chkOf l).bytes = l.take (chkSize l) ∧ chkSize l ≤ l.length ∧ (chkOf l).b.length ≤ 65531 := by
  simp only [chkOk, decide_eq_true_eq] at h
  obtain ⟨h1, h2, h3, h4⟩ := h
  have hr := roundN_le (chkLen l)
  have hlt := chkLen_lt l
  have hpl : (chkPad l).length = chkSize l - chkLen l := by
    simp only [chkPad, List.length_take, List.length_drop, chkSize]
    omega
  refine ⟨?_, h3, by rw [chkOf_len l h2 (by omega)]; omega⟩
  rw [chkOf_bytes l h2 (by omega), take_more l (chkLen l) (chkSize l) hr]
  congr 1
  have := pad_all _ h4
  rw [hpl] at this
  exact this.symm
/-- The document's way to read. -/
theorem chkOk_ref (l : List UInt8) (h1 : 4 ≤ l.length) (h2 : 4 ≤ chkLen l) (h3 : chkLen l ≤ l.length) : chkOk l = true ↔ (chkOf l).bytes.length ≤ l.length ∧ (chkOf l).bytes = l.take (chkOf l).bytes.length := by
  have hb := chkOf_bytes l h2 h3
  have hr : chkLen l ≤ chkSize l := roundN_le (chkLen l)
  have hlen : (chkOf l).bytes.length = chkSize l := by
    rw [hb]
    simp
    omega
  rw [hlen]
  constructor
  · intro h
    have := chkOk_bytes l h
    exact ⟨this.2.1, this.1⟩
  · rintro ⟨h5, h6⟩
    rw [hb, take_more l (chkLen l) (chkSize l) hr] at h6
    have h7 := List.append_cancel_left h6
    simp only [chkOk, decide_eq_true_eq]
    refine ⟨h1, h2, h5, ?_⟩
    intro b hbm
    have : chkPad l = List.replicate (chkSize l - chkLen l) 0 := h7.symm
    rw [this] at hbm
    exact (List.mem_replicate.1 hbm).2
/-- The head of a chunk's bytes, whatever stands behind. -/
theorem chkLen_head (c : Chk) (m : List UInt8) (h : c.b.length ≤ 65531) : chkLen (c.head ++ m) = 4 + c.b.length := by
  have : ((c.head ++ m).drop 2).take 2 = beBytes 2 (4 + c.b.length) := by
    rw [Chk.head, List.append_assoc]
    exact mid_of [c.k, c.f] _ m 2 2 rfl (beBytes_length _ _)
  rw [chkLen, this]
  exact beVal_of 2 _ (by omega)
theorem Chk.bytes_head (c : Chk) (h : c.b.length ≤ 65531) : c.bytes = c.head ++ (c.b ++ List.replicate (roundN (4 + c.b.length) - (4 + c.b.length)) 0) := by
  rw [Chk.bytes, if_neg (by omega), padded, Chk.raw_length, Chk.raw, List.append_assoc]
/-- A chunk that is written is read, whatever stands behind it. -/
theorem chk_back (c : Chk) (m : List UInt8) (h : c.b.length ≤ 65531) : chkOk (c.bytes ++ m) = true ∧ chkOf (c.bytes ++ m) = c ∧ chkSize (c.bytes ++ m) = c.bytes.length := by
  have hh := c.head_length
  have hlen := c.bytes_length h
  have hp := c.bytes_pos h
  have hbh := c.bytes_head h
  have hl : chkLen (c.bytes ++ m) = 4 + c.b.length := by
    rw [hbh, List.append_assoc]
    exact chkLen_head c _ h
  have hsz : chkSize (c.bytes ++ m) = c.bytes.length := by rw [chkSize, hl, hlen]
  refine ⟨?_, ?_, hsz⟩
  · simp only [chkOk, decide_eq_true_eq]
    refine ⟨by simp; omega, by omega, by rw [hl, ← hlen]; simp, ?_⟩
    have : chkPad (c.bytes ++ m) = List.replicate (roundN (4 + c.b.length) - (4 + c.b.length)) 0 := by
      rw [chkPad, hl, hbh, ← List.append_assoc, List.append_assoc (c.head ++ c.b)]
      exact mid_of (c.head ++ c.b) _ m _ _ (by simp; omega) (by simp)
    rw [this]
    intro b hb
    exact (List.mem_replicate.1 hb).2
  · have hb : (((c.bytes ++ m).drop 4).take (4 + c.b.length - 4)) = c.b := by
      rw [hbh, List.append_assoc, List.append_assoc]
      exact mid_of c.head c.b _ _ _ hh (by omega)
    have h0 : (c.bytes ++ m).getD 0 0 = c.k := by rw [hbh]; rfl
    have h1 : (c.bytes ++ m).getD 1 0 = c.f := by rw [hbh]; rfl
    apply Chk.ext'
    · exact h0
    · exact h1
    · show ((c.bytes ++ m).drop 4).take (chkLen (c.bytes ++ m) - 4) = c.b
      rw [hl, hb]
/-- A chunk that is cut is none. -/
theorem chk_cut (c : Chk) (k : Nat) (h : c.b.length ≤ 65531) (hk : k < c.bytes.length) : chkOk (c.bytes.take k) = false := by
  rw [Bool.eq_false_iff]
  intro ht
  simp only [chkOk, decide_eq_true_eq] at ht
  obtain ⟨h1, h2, h3, _⟩ := ht
  have hlen : (c.bytes.take k).length = k := by simp; omega
  rw [hlen] at h1 h3
  have hl : chkLen (c.bytes.take k) = 4 + c.b.length := by
    have e : c.bytes.take k = c.head ++ (c.b ++ List.replicate (roundN (4 + c.b.length) - (4 + c.b.length)) 0).take (k - 4) := by
      rw [c.bytes_head h, List.take_append, c.head_length, List.take_of_length_le (by rw [c.head_length]; omega)]
    rw [e]
    exact chkLen_head c _ h
  rw [hl, ← c.bytes_length h] at h3
  omega
end Go.FL

namespace Go.FL

def crcPoly : BitVec 32 := 0x82f63b78#32
/-- One step of the register. -/
def crcStep (x : BitVec 32) : BitVec 32 := if x.getLsbD 0 = true then (x >>> 1) ^^^ crcPoly else x >>> 1
def crcSteps : Nat → BitVec 32 → BitVec 32
  | 0, x => x
  | n + 1, x => crcStep (crcSteps n x)
def ext8 (c : UInt8) : BitVec 32 := BitVec.ofNat 32 c.toNat
def crcByte (x : BitVec 32) (c : UInt8) : BitVec 32 := crcSteps 8 (x ^^^ ext8 c)
def crcReg (x : BitVec 32) (l : List UInt8) : BitVec 32 := l.foldl crcByte x
def crcExt (s : BitVec 32) (l : List UInt8) : BitVec 32 := ~~~ crcReg (~~~ s) l

theorem crcReg_nil (x : BitVec 32) : crcReg x [] = x := rfl
theorem crcReg_snoc (x : BitVec 32) (l : List UInt8) (c : UInt8) : crcReg x (l ++ [c]) = crcByte (crcReg x l) c := by simp [crcReg]
theorem crcReg_append (x : BitVec 32) (l m : List UInt8) : crcReg x (l ++ m) = crcReg (crcReg x l) m := by simp [crcReg]
theorem crcExt_append (s : BitVec 32) (l m : List UInt8) : crcExt (crcExt s l) m = crcExt s (l ++ m) := by
  simp [crcExt, crcReg_append]

theorem xor_cancel (a b p : BitVec 32) : (a ^^^ p) ^^^ (b ^^^ p) = a ^^^ b := by
  apply BitVec.eq_of_getLsbD_eq
  intro i _
  simp only [BitVec.getLsbD_xor]
  cases a.getLsbD i <;> cases b.getLsbD i <;> cases p.getLsbD i <;> rfl

theorem crcStep_xor (x y : BitVec 32) : crcStep (x ^^^ y) = crcStep x ^^^ crcStep y := by
  have hs : (x ^^^ y) >>> 1 = x >>> 1 ^^^ y >>> 1 := by
    apply BitVec.eq_of_getLsbD_eq
    intro i _
    simp
  unfold crcStep
  rw [BitVec.getLsbD_xor, hs]
  generalize x >>> 1 = a
  generalize y >>> 1 = b
  generalize crcPoly = p
  cases x.getLsbD 0 <;> cases y.getLsbD 0 <;> simp [xor_cancel]
  · exact BitVec.xor_assoc a b p
  · apply BitVec.eq_of_getLsbD_eq
    intro i _
    simp only [BitVec.getLsbD_xor]
    cases a.getLsbD i <;> cases b.getLsbD i <;> cases p.getLsbD i <;> rfl

theorem crcSteps_xor (n : Nat) (x y : BitVec 32) : crcSteps n (x ^^^ y) = crcSteps n x ^^^ crcSteps n y := by
  induction n with
  | zero => rfl
  | succ n ih => simp only [crcSteps, ih, crcStep_xor]

theorem crcSteps_add (m n : Nat) (x : BitVec 32) : crcSteps (m + n) x = crcSteps m (crcSteps n x) := by
  induction m with
  | zero => simp [crcSteps]
  | succ m ih => rw [Nat.add_right_comm]; simp only [crcSteps, ih]

theorem shl_low (y : BitVec 32) : (y <<< 1).getLsbD 0 = false := by simp

/-- The step, back. -/
def crcBack (y : BitVec 32) : BitVec 32 := if y.getLsbD 31 = true then ((y ^^^ crcPoly) <<< 1) ||| 1#32 else y <<< 1

theorem crcBack_step (x : BitVec 32) : crcBack (crcStep x) = x := by
  unfold crcStep
  cases h : x.getLsbD 0
  · have h31 : (x >>> 1).getLsbD 31 = false := by simp
    simp only [Bool.false_eq_true, if_false, crcBack, h31]
    apply BitVec.eq_of_getLsbD_eq
    intro i hi
    rcases Nat.eq_zero_or_pos i with rfl | hp
    · rw [h]; exact shl_low _
    · simp [-BitVec.getLsbD_eq_getElem, hi, show ¬ i < 1 by omega, show 1 + (i - 1) = i by omega]
  · have hp31 : crcPoly.getLsbD 31 = true := by decide
    have h31 : (x >>> 1 ^^^ crcPoly).getLsbD 31 = true := by rw [BitVec.getLsbD_xor, hp31]; simp
    have hc : (x >>> 1 ^^^ crcPoly) ^^^ crcPoly = x >>> 1 := by rw [BitVec.xor_assoc]; simp
    simp only [if_true, crcBack, h31, hc]
    apply BitVec.eq_of_getLsbD_eq
    intro i hi
    rcases Nat.eq_zero_or_pos i with rfl | hp
    · rw [h]; simp
    · have h1 : (1#32).getLsbD i = false := by simp [-BitVec.getLsbD_eq_getElem, BitVec.getLsbD_one]; omega
      simp [-BitVec.getLsbD_eq_getElem, hi, h1, show ¬ i < 1 by omega, show 1 + (i - 1) = i by omega]

theorem shl_shr (y : BitVec 32) (h : y.getLsbD 31 = false) : (y <<< 1) >>> 1 = y := by
  apply BitVec.eq_of_getLsbD_eq
  intro i hi
  rcases Nat.lt_or_ge i 31 with h1 | h1
  · simp [-BitVec.getLsbD_eq_getElem, show 1 + i < 32 by omega]
  · obtain rfl : i = 31 := by omega
    rw [h]; simp

theorem shl_or_shr (y : BitVec 32) (h : y.getLsbD 31 = false) : ((y <<< 1) ||| 1#32) >>> 1 = y := by
  have : ((y <<< 1) ||| 1#32) >>> 1 = (y <<< 1) >>> 1 := by
    apply BitVec.eq_of_getLsbD_eq
    intro i hi
    simp [BitVec.getLsbD_one]
  rw [this, shl_shr y h]

theorem crcStep_back (y : BitVec 32) : crcStep (crcBack y) = y := by
  unfold crcBack
  cases h : y.getLsbD 31
  · simp only [Bool.false_eq_true, if_false, crcStep, shl_low, shl_shr y h]
  · have hp31 : crcPoly.getLsbD 31 = true := by decide
    have h31 : (y ^^^ crcPoly).getLsbD 31 = false := by rw [BitVec.getLsbD_xor, hp31, h]; rfl
    have hl : (((y ^^^ crcPoly) <<< 1) ||| 1#32).getLsbD 0 = true := by simp
    simp only [if_true, crcStep, hl, shl_or_shr _ h31]
    rw [BitVec.xor_assoc]; simp

theorem crcStep_inj {x y : BitVec 32} (h : crcStep x = crcStep y) : x = y := by
  rw [← crcBack_step x, ← crcBack_step y, h]

theorem crcSteps_inj (n : Nat) {x y : BitVec 32} (h : crcSteps n x = crcSteps n y) : x = y := by
  induction n with
  | zero => exact h
  | succ n ih => exact ih (crcStep_inj h)

theorem crcStep_zero : crcStep 0#32 = 0#32 := by decide
theorem crcSteps_zero (n : Nat) : crcSteps n 0#32 = 0#32 := by
  induction n with
  | zero => rfl
  | succ n ih => simp only [crcSteps, ih, crcStep_zero]

/-- How two registers differ behind the same bytes. -/
theorem crcReg_xor (l : List UInt8) : ∀ x y : BitVec 32, crcReg x l ^^^ crcReg y l = crcSteps (8 * l.length) (x ^^^ y) := by
  induction l with
  | nil => intro x y; rfl
  | cons c l ih =>
    intro x y
    have h : crcByte x c ^^^ crcByte y c = crcSteps 8 (x ^^^ y) := by
      simp only [crcByte, crcSteps_xor]
      exact xor_cancel _ _ _
    show crcReg (crcByte x c) l ^^^ crcReg (crcByte y c) l = _
    rw [ih, h, ← crcSteps_add]
    rfl

theorem not_xor_not (a b : BitVec 32) : ~~~a ^^^ ~~~b = a ^^^ b := by
  apply BitVec.eq_of_getLsbD_eq
  intro i hi
  simp [hi]

theorem crcExt_xor (s t : BitVec 32) (l : List UInt8) : crcExt s l ^^^ crcExt t l = crcSteps (8 * l.length) (s ^^^ t) := by
  simp only [crcExt, not_xor_not, crcReg_xor]

theorem xor_eq_zero (a b : BitVec 32) : a ^^^ b = 0#32 ↔ a = b := by
  constructor
  · intro h
    have : (a ^^^ b) ^^^ b = 0#32 ^^^ b := by rw [h]
    rw [BitVec.xor_assoc] at this
    simpa using this
  · rintro rfl; simp

theorem crcSteps_eq_zero (n : Nat) (x : BitVec 32) : crcSteps n x = 0#32 ↔ x = 0#32 := by
  constructor
  · intro h
    exact crcSteps_inj n (h.trans (crcSteps_zero n).symm)
  · rintro rfl; exact crcSteps_zero n

/-- A bit as a register. -/
def b2v (b : Bool) : BitVec 32 := if b then 1#32 else 0#32

/-- The register over bits, the bit number n being 'f n'. -/
def regAt (f : Nat → Bool) (x : BitVec 32) : Nat → BitVec 32
  | 0 => x
  | n + 1 => crcStep (regAt f x n ^^^ b2v (f n))

/-- Bit number i of bytes, each byte's lowest one first. -/
def bitAt (l : List UInt8) (i : Nat) : Bool := (l.getD (i / 8) 0).toNat.testBit (i % 8)

theorem getLsbD_ext8 (c : UInt8) (i : Nat) : (ext8 c).getLsbD i = c.toNat.testBit i := by
  unfold ext8
  rw [BitVec.getLsbD_ofNat]
  by_cases h : i < 32
  · simp [h]
  · have : c.toNat < 2 ^ i := Nat.lt_of_lt_of_le (Nat.lt_of_lt_of_le c.toNat_lt (by decide)) (Nat.pow_le_pow_right (by decide) (show 8 ≤ i by omega))
    simp [h, Nat.testBit_lt_two_pow this]

theorem byte_bits (x : BitVec 32) (c : UInt8) (f : Nat → Bool) (hf : ∀ k, k < 8 → f k = c.toNat.testBit k) : ∀ k, k ≤ 8 →
    crcSteps k (x ^^^ ext8 c) = regAt f x k ^^^ (ext8 c >>> k) := by
  intro k
  induction k with
  | zero => intro _; simp [crcSteps, regAt]
  | succ k ih =>
    intro hk
    simp only [crcSteps, regAt, ih (by omega)]
    have hsplit : ext8 c >>> k = b2v (f k) ^^^ ((ext8 c >>> (k + 1)) <<< 1) := by
      apply BitVec.eq_of_getLsbD_eq
      intro i hi
      rcases Nat.eq_zero_or_pos i with rfl | hp
      · simp only [BitVec.getLsbD_xor, BitVec.getLsbD_ushiftRight, getLsbD_ext8, Nat.add_zero]
        rw [← hf k (by omega)]
        unfold b2v
        cases f k <;> simp
      · have h0 : (b2v (f k)).getLsbD i = false := by
          unfold b2v
          cases f k
          · simp
          · simp [-BitVec.getLsbD_eq_getElem, BitVec.getLsbD_one]; omega
        simp [-BitVec.getLsbD_eq_getElem, getLsbD_ext8, h0, hi, show ¬ i < 1 by omega, show k + 1 + (i - 1) = k + i by omega]
    have htop : (ext8 c >>> (k + 1)).getLsbD 31 = false := by
      simp only [BitVec.getLsbD_ushiftRight, getLsbD_ext8]
      apply Nat.testBit_lt_two_pow
      exact Nat.lt_of_lt_of_le c.toNat_lt (Nat.le_trans (by decide : 2 ^ 8 ≤ 2 ^ 31) (Nat.pow_le_pow_right (by decide) (by omega)))
    have hstep : crcStep ((ext8 c >>> (k + 1)) <<< 1) = ext8 c >>> (k + 1) := by
      simp only [crcStep, shl_low, Bool.false_eq_true, if_false, shl_shr _ htop]
    rw [hsplit, ← BitVec.xor_assoc, crcStep_xor, hstep]

theorem regAt_congr {f g : Nat → Bool} (x : BitVec 32) : ∀ n, (∀ i, i < n → f i = g i) → regAt f x n = regAt g x n := by
  intro n
  induction n with
  | zero => intro _; rfl
  | succ n ih => intro h; simp only [regAt, ih (fun i hi => h i (by omega)), h n (by omega)]

theorem regAt_add (f : Nat → Bool) (x : BitVec 32) (m : Nat) : ∀ n, regAt f x (m + n) = regAt (fun i => f (m + i)) (regAt f x m) n := by
  intro n
  induction n with
  | zero => rfl
  | succ n ih => rw [← Nat.add_assoc]; simp only [regAt, ih]

theorem crcByte_bits (x : BitVec 32) (c : UInt8) (f : Nat → Bool) (hf : ∀ k, k < 8 → f k = c.toNat.testBit k) : crcByte x c = regAt f x 8 := by
  unfold crcByte
  rw [byte_bits x c f hf 8 (by omega)]
  have : ext8 c >>> 8 = 0#32 := by
    apply BitVec.eq_of_getLsbD_eq
    intro i _
    simp only [BitVec.getLsbD_ushiftRight, getLsbD_ext8, BitVec.getLsbD_zero]
    apply Nat.testBit_lt_two_pow
    exact Nat.lt_of_lt_of_le c.toNat_lt (Nat.pow_le_pow_right (by decide) (by omega))
  rw [this]
  simp

/-- The register over bytes is that over their bits. -/
theorem crcReg_bits (x : BitVec 32) (l : List UInt8) : ∀ m, m ≤ l.length → crcReg x (l.take m) = regAt (bitAt l) x (8 * m) := by
  intro m
  induction m with
  | zero => intro _; rfl
  | succ m ih =>
    intro h
    have ht : l.take (m + 1) = l.take m ++ [l[m]] := by rw [List.take_succ_eq_append_getElem (by omega)]
    rw [ht, crcReg_snoc, ih (by omega), show 8 * (m + 1) = 8 * m + 8 from rfl, regAt_add]
    apply crcByte_bits
    intro k hk
    unfold bitAt
    rw [show (8 * m + k) / 8 = m by omega, show (8 * m + k) % 8 = k by omega]
    simp [List.getD, List.getElem?_eq_getElem (show m < l.length by omega)]

theorem crcReg_all_bits (x : BitVec 32) (l : List UInt8) : crcReg x l = regAt (bitAt l) x (8 * l.length) := by
  have := crcReg_bits x l l.length (Nat.le_refl _)
  rwa [List.take_length] at this

theorem crcStep_bit (y : BitVec 32) (t : Bool) : crcStep (y ^^^ b2v t) = if (y.getLsbD 0 ^^ t) = true then (y >>> 1) ^^^ crcPoly else y >>> 1 := by
  have hl : (y ^^^ b2v t).getLsbD 0 = (y.getLsbD 0 ^^ t) := by
    rw [BitVec.getLsbD_xor]
    cases t <;> rfl
  have hs : (y ^^^ b2v t) >>> 1 = y >>> 1 := by
    apply BitVec.eq_of_getLsbD_eq
    intro i hi
    simp only [BitVec.getLsbD_ushiftRight, BitVec.getLsbD_xor]
    have : (b2v t).getLsbD (1 + i) = false := by
      unfold b2v; cases t
      · simp
      · simp [-BitVec.getLsbD_eq_getElem, BitVec.getLsbD_one]
    rw [this, Bool.xor_false]
  unfold crcStep
  rw [hl, hs]
theorem lsb_mod (y : BitVec 32) : y.getLsbD 0 = decide (y.toNat % 2 = 1) := by
  rw [BitVec.getLsbD, Nat.testBit_zero]

theorem b2v_xor (a b : Bool) : b2v a ^^^ b2v b = b2v (a ^^ b) := by cases a <;> cases b <;> rfl

theorem regAt_xor (f g : Nat → Bool) (x y : BitVec 32) : ∀ n, regAt f x n ^^^ regAt g y n = regAt (fun i => f i ^^ g i) (x ^^^ y) n := by
  intro n
  induction n with
  | zero => rfl
  | succ n ih =>
    simp only [regAt, ← crcStep_xor, ← ih, ← b2v_xor]
    congr 1
    generalize regAt f x n = a
    generalize regAt g y n = b
    generalize b2v (f n) = c
    generalize b2v (g n) = d
    apply BitVec.eq_of_getLsbD_eq
    intro i _
    simp only [BitVec.getLsbD_xor]
    cases a.getLsbD i <;> cases b.getLsbD i <;> cases c.getLsbD i <;> cases d.getLsbD i <;> rfl

theorem regAt_noughts (f : Nat → Bool) : ∀ n, (∀ i, i < n → f i = false) → regAt f 0#32 n = 0#32 := by
  intro n
  induction n with
  | zero => intro _; rfl
  | succ n ih =>
    intro h
    simp [regAt, ih (fun i hi => h i (by omega)), h n (by omega), b2v, crcStep_zero]

/-- Noughts turn no register to nought. -/
theorem regAt_stays (f : Nat → Bool) (x : BitVec 32) (hx : x ≠ 0#32) : ∀ n, (∀ i, i < n → f i = false) → regAt f x n ≠ 0#32 := by
  intro n
  induction n with
  | zero => intro _; exact hx
  | succ n ih =>
    intro h h0
    have hb : b2v (f n) = 0#32 := by rw [h n (by omega)]; rfl
    simp only [regAt, hb, BitVec.xor_zero] at h0
    exact ih (fun i hi => h i (by omega)) (crcStep_inj (h0.trans crcStep_zero.symm))

theorem lt_two_pow_bits (x : BitVec 32) (k : Nat) (h : x.toNat < 2 ^ k) (i : Nat) (hi : k ≤ i) : x.getLsbD i = false := by
  rw [BitVec.getLsbD]
  exact Nat.testBit_lt_two_pow (Nat.lt_of_lt_of_le h (Nat.pow_le_pow_right (by decide) hi))

/-- A burst of at most 32 bits, the first of them turned, leaves no nought. -/
theorem burst_back (f : Nat → Bool) (x : BitVec 32) : ∀ (j n : Nat), j ≤ n → j ≤ 31 → regAt f x n = 0#32 → (regAt f x (n - j)).toNat < 2 ^ j := by
  intro j
  induction j with
  | zero => intro n _ _ h; simp [h]
  | succ j ih =>
    intro n hn hj h
    have h1 := ih n (by omega) (by omega) h
    have e : n - j = (n - (j + 1)) + 1 := by omega
    rw [e] at h1
    generalize n - (j + 1) = m at *
    simp only [regAt] at h1
    generalize regAt f x m = r at *
    have hb : crcBack (crcStep (r ^^^ b2v (f m))) = r ^^^ b2v (f m) := crcBack_step _
    generalize crcStep (r ^^^ b2v (f m)) = y at *
    have h31 : y.getLsbD 31 = false := lt_two_pow_bits y j h1 31 (by omega)
    simp only [crcBack, h31, Bool.false_eq_true, if_false] at hb
    have hr : r = (y <<< 1) ^^^ b2v (f m) := by
      rw [hb, BitVec.xor_assoc]; simp
    rw [hr]
    apply Nat.lt_pow_two_of_testBit
    intro k hk
    show ((y <<< 1) ^^^ b2v (f m)).getLsbD k = false
    have hy : y.getLsbD (k - 1) = false := lt_two_pow_bits y j h1 (k - 1) (by omega)
    have h0 : (b2v (f m)).getLsbD k = false := by
      unfold b2v; cases f m
      · simp
      · simp [-BitVec.getLsbD_eq_getElem, BitVec.getLsbD_one]; omega
    simp [-BitVec.getLsbD_eq_getElem, h0, hy]

theorem burst (f : Nat → Bool) (first n : Nat) (h0 : ∀ i, i < first → f i = false) (h1 : f first = true) (hf : first < n) (hn : n ≤ first + 32) : regAt f 0#32 n ≠ 0#32 := by
  intro h
  have hb := burst_back f 0#32 (n - (first + 1)) n (by omega) (by omega) h
  rw [show n - (n - (first + 1)) = first + 1 by omega] at hb
  simp only [regAt, regAt_noughts f first h0, h1, b2v, if_true] at hb
  have hp : (crcStep (0#32 ^^^ 1#32)).toNat = 2197175160 := by decide
  rw [hp] at hb
  have : 2 ^ (n - (first + 1)) ≤ 2 ^ 31 := Nat.pow_le_pow_right (by decide) (by omega)
  omega

/-- Two rows of bits whose unlike ones stand within 32 in a row, and which are unlike somewhere, have unlike registers. -/
theorem burst_unlike (f g : Nat → Bool) (x : BitVec 32) (first last n : Nat) (h0 : ∀ i, i < first → f i = g i) (h1 : f first ≠ g first) (h2 : ∀ i, last < i → i < n → f i = g i) (hf : first ≤ last) (hl : last < n) (h32 : last < first + 32) :
    regAt f x n ≠ regAt g x n := by
  intro h
  have hx := regAt_xor f g x x n
  rw [h] at hx
  simp only [BitVec.xor_self] at hx
  have hm := burst (fun i => f i ^^ g i) first (last + 1) (fun i hi => by simp [h0 i hi]) (by cases e : f first <;> cases e' : g first <;> simp_all) (by omega) (by omega)
  have hs := regAt_stays (fun i => f (last + 1 + i) ^^ g (last + 1 + i)) _ hm (n - (last + 1)) (fun i hi => by simp [h2 (last + 1 + i) (by omega) (by omega)])
  have ha := regAt_add (fun i => f i ^^ g i) 0#32 (last + 1) (n - (last + 1))
  rw [show last + 1 + (n - (last + 1)) = n by omega] at ha
  exact hs (ha.symm.trans hx.symm)

/-- A number's bytes, the lowest first. -/
def le4 (n : BitVec 32) : List UInt8 := [UInt8.ofNat n.toNat, UInt8.ofNat (n.toNat / 256), UInt8.ofNat (n.toNat / 65536), UInt8.ofNat (n.toNat / 16777216)]

end Go.FL

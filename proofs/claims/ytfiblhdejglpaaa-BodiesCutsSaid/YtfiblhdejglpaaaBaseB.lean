/- Joined: OctMath, NumMath, ChunkMath, BodMath, BodMath2. -/
import Derived.Test.YtfiblhdejglpaaaBaseA
namespace Go.FL

def sizedB (n : Int) : Bool := decide (n = 1 ∨ n = 2 ∨ n = 4 ∨ n = 8)
def withinB (len : Nat) (at_ n : Int) : Bool := decide (0 ≤ at_ ∧ 0 ≤ n ∧ at_ ≤ (len : Int) ∧ n ≤ (len : Int) - at_)
/-- The number of bytes, the highest first. -/
def beVal (l : List UInt8) : Nat := l.foldl (fun a b => a * 256 + b.toNat) 0
/-- The first k of a number's bytes, the highest of so many first. -/
def bePart (size x k : Nat) : List UInt8 := (List.range k).map fun j => UInt8.ofNat (x / 2 ^ (8 * (size - 1 - j)))
def beBytes (size x : Nat) : List UInt8 := bePart size x size
def roundI (n : Int) : Int := if n < 0 ∨ 4611686018427387904 < n then 0 else (n + 3) / 4 * 4
def roundN (n : Nat) : Nat := (n + 3) / 4 * 4
def padded (l : List UInt8) : List UInt8 := l ++ List.replicate (roundN l.length - l.length) 0

theorem sizedB_cases {n : Int} (h : sizedB n = true) : n = 1 ∨ n = 2 ∨ n = 4 ∨ n = 8 := by simpa [sizedB] using h
theorem sizedB_nat {n : Int} (h : sizedB n = true) : ∃ m : Nat, n = (m : Int) ∧ 0 < m ∧ m ≤ 8 := by
  have := sizedB_cases h
  exact ⟨n.toNat, by omega, by omega, by omega⟩
theorem withinB_nat {len : Nat} {a n : Int} (h : withinB len a n = true) : ∃ i k : Nat, a = (i : Int) ∧ n = (k : Int) ∧ i + k ≤ len := by
  simp [withinB] at h
  exact ⟨a.toNat, n.toNat, by omega, by omega, by omega⟩
theorem bePart_succ (size x k : Nat) : bePart size x (k + 1) = bePart size x k ++ [UInt8.ofNat (x / 2 ^ (8 * (size - 1 - k)))] := by
  simp [bePart, List.range_succ]
theorem bePart_length (size x k : Nat) : (bePart size x k).length = k := by simp [bePart]
theorem beBytes_length (size x : Nat) : (beBytes size x).length = size := bePart_length size x size
theorem beVal_nil : beVal [] = 0 := rfl
theorem beVal_snoc (l : List UInt8) (b : UInt8) : beVal (l ++ [b]) = beVal l * 256 + b.toNat := by simp [beVal]
theorem beFold_lt (l : List UInt8) : ∀ a : Nat, l.foldl (fun a b => a * 256 + b.toNat) a < (a + 1) * 256 ^ l.length := by
  induction l with
  | nil => intro a; simp
  | cons b l ih =>
    intro a
    rw [List.foldl_cons, List.length_cons, Nat.pow_succ]
    have h1 := ih (a * 256 + b.toNat)
    have hb := b.toNat_lt
    have h2 : (a * 256 + b.toNat + 1) * 256 ^ l.length ≤ ((a + 1) * 256) * 256 ^ l.length := Nat.mul_le_mul_right _ (by omega)
    have h3 : (a + 1) * (256 ^ l.length * 256) = ((a + 1) * 256) * 256 ^ l.length := by rw [Nat.mul_comm (256 ^ l.length) 256, Nat.mul_assoc]
    omega
theorem beVal_lt (l : List UInt8) : beVal l < 256 ^ l.length := by
  have := beFold_lt l 0
  simpa [beVal] using this
theorem pow256_le {k : Nat} (h : k ≤ 8) : 256 ^ k ≤ 18446744073709551616 := Nat.le_trans (Nat.pow_le_pow_right (by decide) h) (by decide)
theorem pow256_lt {k : Nat} (h : k ≤ 7) : 256 ^ k ≤ 72057594037927936 := Nat.le_trans (Nat.pow_le_pow_right (by decide) h) (by decide)
theorem roundN_le (n : Nat) : n ≤ roundN n := by unfold roundN; omega
theorem roundN_lt (n : Nat) : roundN n < n + 4 := by unfold roundN; omega
theorem roundN_mod (n : Nat) : roundN n % 4 = 0 := by unfold roundN; omega
theorem roundI_nat (n : Nat) (h : n ≤ 4611686018427387904) : roundI (n : Int) = (roundN n : Int) := by
  unfold roundI roundN
  rw [if_neg (by omega)]
  omega
theorem padded_length (l : List UInt8) : (padded l).length = roundN l.length := by
  have := roundN_le l.length
  simp [padded]
  omega

theorem or_byte (x : Nat) (b : UInt8) (h : x < 72057594037927936) : bits .or .u64 ((x : Int) * 256) (b.toNat : Int) = ((x * 256 + b.toNat : Nat) : Int) := by
  have hb := b.toNat_lt
  have h1 : (x : Int) * 256 = ((x * 256 : Nat) : Int) := by omega
  rw [h1]
  show IntKind.u64.wrap (((BitVec.ofInt 64 ((x * 256 : Nat) : Int)) ||| (BitVec.ofInt 64 (b.toNat : Int))).toNat : Int) = _
  have h2 : ((BitVec.ofInt 64 ((x * 256 : Nat) : Int)) ||| (BitVec.ofInt 64 (b.toNat : Int))).toNat = x * 256 + b.toNat := by
    rw [BitVec.toNat_or, BitVec.ofInt_natCast, BitVec.ofInt_natCast, BitVec.toNat_ofNat, BitVec.toNat_ofNat, Nat.mod_eq_of_lt (show x * 256 < 2 ^ 64 by omega), Nat.mod_eq_of_lt (show b.toNat < 2 ^ 64 by omega)]
    have := Nat.shiftLeft_add_eq_or_of_lt (show b.toNat < 2 ^ 8 from hb) x
    rw [Nat.shiftLeft_eq] at this
    exact this.symm
  rw [h2]
  simp only [IntKind.wrap, IntKind.bits, IntKind.signed]
  simp
  omega
theorem shr_byte (x k : Nat) : ((x : Int) / 2 ^ k) % 256 = ((UInt8.ofNat (x / 2 ^ k)).toNat : Int) := by
  have h1 : (x : Int) / 2 ^ k = ((x / 2 ^ k : Nat) : Int) := by simp
  rw [h1, UInt8.toNat_ofNat']
  omega
theorem three_bits (i : Nat) (hi : i < 64) : (3#64).getLsbD i = decide (i < 2) := by
  have : ∀ j, j < 64 → (3#64).getLsbD j = decide (j < 2) := by decide
  exact this i hi
theorem andNot3 (m : Nat) (h : m < 9223372036854775808) : bits .andNot .i64 (m : Int) 3 = ((m / 4 * 4 : Nat) : Int) := by
  show IntKind.i64.wrap (((BitVec.ofInt 64 (m : Int)) &&& ~~~(BitVec.ofInt 64 3)).toNat : Int) = _
  have h1 : ((BitVec.ofInt 64 (m : Int)) &&& ~~~(BitVec.ofInt 64 3)).toNat = m / 4 * 4 := by
    have h2 : ((BitVec.ofInt 64 (m : Int)) &&& ~~~(BitVec.ofInt 64 3)) = BitVec.ofNat 64 (m / 4 * 4) := by
      apply BitVec.eq_of_getLsbD_eq
      intro i hi
      rw [BitVec.getLsbD_and, BitVec.getLsbD_not, BitVec.ofInt_natCast, BitVec.getLsbD_ofNat, BitVec.getLsbD_ofNat, show BitVec.ofInt 64 3 = 3#64 from rfl, three_bits i hi]
      rw [show m / 4 * 4 = m / 2 ^ 2 * 2 ^ 2 from rfl, Nat.testBit_mul_two_pow, Nat.testBit_div_two_pow]
      by_cases h3 : 2 ≤ i
      · simp [hi, h3, show ¬ i < 2 by omega, show i - 2 + 2 = i by omega]
      · simp [hi, h3, show i < 2 by omega]
    rw [h2, BitVec.toNat_ofNat, Nat.mod_eq_of_lt (show m / 4 * 4 < 2 ^ 64 by omega)]
  rw [h1, IntKind.wrap_i64]
  omega
end Go.FL

namespace Go.FL

theorem beBytes_snoc (n x : Nat) : beBytes (n + 1) x = beBytes n (x / 256) ++ [UInt8.ofNat x] := by
  rw [beBytes, bePart_succ]
  congr 1
  · rw [beBytes, bePart, bePart]
    apply List.map_congr_left
    intro j hj
    have hj : j < n := List.mem_range.1 hj
    congr 1
    rw [Nat.div_div_eq_div_mul]
    congr 1
    rw [show 8 * (n + 1 - 1 - j) = 8 + 8 * (n - 1 - j) by omega, Nat.pow_add]
  · rw [show 8 * (n + 1 - 1 - n) = 0 by omega, Nat.pow_zero, Nat.div_one]
theorem beBytes_val : ∀ (n : Nat) (l : List UInt8), l.length = n → beBytes n (beVal l) = l
  | 0, l, h => by
    rw [List.length_eq_zero_iff.1 h]
    rfl
  | n + 1, l, h => by
    obtain ⟨m, b, rfl⟩ : ∃ m b, l = m ++ [b] := ⟨l.dropLast, l.getLast (by intro e; simp [e] at h), (List.dropLast_concat_getLast _).symm⟩
    have hm : m.length = n := by simpa using h
    have hb := b.toNat_lt
    rw [beBytes_snoc, beVal_snoc]
    have h1 : (beVal m * 256 + b.toNat) / 256 = beVal m := by omega
    rw [h1, beBytes_val n m hm]
    congr 2
    apply UInt8.toNat_inj.1
    rw [UInt8.toNat_ofNat']
    omega
theorem beVal_of : ∀ (n x : Nat), x < 256 ^ n → beVal (beBytes n x) = x
  | 0, x, h => by
    obtain rfl : x = 0 := by simpa using h
    rfl
  | n + 1, x, h => by
    rw [Nat.pow_succ] at h
    rw [beBytes_snoc, beVal_snoc, beVal_of n (x / 256) (by omega), UInt8.toNat_ofNat']
    omega
/-- What stands in the midst. -/
theorem mid_of {α : Type} (a b c : List α) (n k : Nat) (hn : a.length = n) (hk : b.length = k) : ((a ++ (b ++ c)).drop n).take k = b := by
  subst hn hk
  simp

/-- The number at a place; 0: it is not within. -/
def numAt (l : List UInt8) (a n : Nat) : Nat := if a + n ≤ l.length then beVal ((l.drop a).take n) else 0
theorem numAt_lt (l : List UInt8) (a n : Nat) : numAt l a n < 256 ^ n := by
  unfold numAt
  split
  · exact Nat.lt_of_lt_of_le (beVal_lt _) (Nat.pow_le_pow_right (by decide) (List.length_take_le _ _))
  · exact Nat.pow_pos (by decide)
theorem numAt_mid (p m s : List UInt8) (a n : Nat) (hp : p.length = a) (hm : m.length = n) : numAt (p ++ (m ++ s)) a n = beVal m := by
  rw [numAt, if_pos (by simp; omega), mid_of p m s a n hp hm]
theorem numAt_be (p s : List UInt8) (a n x : Nat) (hp : p.length = a) (hx : x < 256 ^ n) : numAt (p ++ (beBytes n x ++ s)) a n = x := by
  rw [numAt_mid p (beBytes n x) s a n hp (beBytes_length _ _), beVal_of n x hx]
theorem numAt_bytes (l : List UInt8) (a n : Nat) (h : a + n ≤ l.length) : beBytes n (numAt l a n) = (l.drop a).take n := by
  rw [numAt, if_pos h]
  exact beBytes_val n _ (by simp; omega)
theorem numAt_take (l : List UInt8) (a n k : Nat) (h : a + n ≤ k) (hk : k ≤ l.length) : numAt (l.take k) a n = numAt l a n := by
  have h1 : (l.take k).length = k := by simp; omega
  rw [numAt, numAt, if_pos (by omega), if_pos (by omega), List.drop_take, List.take_take, Nat.min_eq_left (by omega)]

/-- Numbers of n bytes, one behind the other. -/
def catBE (n : Nat) (xs : List Nat) : List UInt8 := (xs.map (beBytes n)).flatten
theorem catBE_nil (n : Nat) : catBE n [] = [] := rfl
theorem catBE_cons (n x : Nat) (xs : List Nat) : catBE n (x :: xs) = beBytes n x ++ catBE n xs := rfl
theorem catBE_append (n : Nat) (xs ys : List Nat) : catBE n (xs ++ ys) = catBE n xs ++ catBE n ys := by simp [catBE]
theorem catBE_length (n : Nat) : ∀ xs : List Nat, (catBE n xs).length = n * xs.length
  | [] => rfl
  | x :: xs => by rw [catBE_cons, List.length_append, beBytes_length, catBE_length n xs, List.length_cons, Nat.mul_succ]; omega

end Go.FL

namespace Go.FL

/-- A chunk: its kind, its flags, its body. -/
structure Chk where
  k : UInt8
  f : UInt8
  b : List UInt8
theorem Chk.ext' {c d : Chk} (h1 : c.k = d.k) (h2 : c.f = d.f) (h3 : c.b = d.b) : c = d := by
  cases c; cases d; simp_all
def Chk.zero : Chk := ⟨0, 0, []⟩
def Chk.head (c : Chk) : List UInt8 := [c.k, c.f] ++ beBytes 2 (4 + c.b.length)
def Chk.raw (c : Chk) : List UInt8 := c.head ++ c.b
def Chk.bytes (c : Chk) : List UInt8 := if 65531 < c.b.length then [] else padded c.raw
theorem Chk.head_length (c : Chk) : c.head.length = 4 := by simp [Chk.head, beBytes_length]
theorem Chk.raw_length (c : Chk) : c.raw.length = 4 + c.b.length := by simp [Chk.raw, Chk.head_length]
theorem Chk.bytes_length (c : Chk) (h : c.b.length ≤ 65531) : c.bytes.length = roundN (4 + c.b.length) := by
  rw [Chk.bytes, if_neg (by omega), padded_length, Chk.raw_length]
theorem Chk.bytes_pos (c : Chk) (h : c.b.length ≤ 65531) : 4 + c.b.length ≤ c.bytes.length ∧ c.bytes.length ≤ 7 + c.b.length ∧ c.bytes.length % 4 = 0 := by
  rw [c.bytes_length h]
  have := roundN_le (4 + c.b.length)
  have := roundN_lt (4 + c.b.length)
  exact ⟨by omega, by omega, roundN_mod _⟩
theorem Chk.bytes_big (c : Chk) (h : 65531 < c.b.length) : c.bytes = [] := by rw [Chk.bytes, if_pos h]

/-- What the length of a chunk says. -/
def chkLen (l : List UInt8) : Nat := beVal ((l.drop 2).take 2)
theorem chkLen_lt (l : List UInt8) : chkLen l < 65536 := by
  have h := beVal_lt ((l.drop 2).take 2)
  have h1 : ((l.drop 2).take 2).length ≤ 2 := List.length_take_le _ _
  exact Nat.lt_of_lt_of_le h (Nat.pow_le_pow_right (by decide) h1)
def chkPad (l : List UInt8) : List UInt8 := (l.drop (chkLen l)).take (roundN (chkLen l) - chkLen l)
/-- Does a chunk stand at the head of these bytes? -/
def chkOk (l : List UInt8) : Bool := decide (4 ≤ l.length ∧ 4 ≤ chkLen l ∧ roundN (chkLen l) ≤ l.length ∧ ∀ b ∈ chkPad l, b = 0)
def chkOf (l : List UInt8) : Chk := ⟨l.getD 0 0, l.getD 1 0, (l.drop 4).take (chkLen l - 4)⟩
/-- How many bytes it has. -/
def chkSize (l : List UInt8) : Nat := roundN (chkLen l)
theorem chkOf_len (l : List UInt8) (h4 : 4 ≤ chkLen l) (hl : chkLen l ≤ l.length) : (chkOf l).b.length = chkLen l - 4 := by
  simp [chkOf]
  omega
theorem chkOf_raw (l : List UInt8) (h4 : 4 ≤ chkLen l) (hl : chkLen l ≤ l.length) : (chkOf l).raw = l.take (chkLen l) := by
  have hb := chkOf_len l h4 hl
  have h2 : beBytes 2 (4 + (chkOf l).b.length) = (l.drop 2).take 2 := by
    rw [hb, show 4 + (chkLen l - 4) = chkLen l by omega]
    exact beBytes_val 2 _ (by simp; omega)
  rw [Chk.raw, Chk.head, h2]
  have h0 : [(chkOf l).k, (chkOf l).f] = l.take 2 := by
    match l, hl with
    | a :: b :: r, _ => rfl
    | [a], h => simp at h; omega
    | [], h => simp at h; omega
  have h6 : l.take 2 ++ (l.drop 2).take 2 = l.take 4 := by rw [← List.take_add]
  have h7 : l.take 4 ++ (l.drop 4).take (chkLen l - 4) = l.take (chkLen l) := by rw [← List.take_add, show 4 + (chkLen l - 4) = chkLen l by omega]
  rw [h0, h6]
  exact h7
theorem pad_all (l : List UInt8) (h : ∀ b ∈ l, b = 0) : l = List.replicate l.length 0 := List.eq_replicate_of_mem h
theorem take_more {α : Type} (l : List α) (n r : Nat) (h : n ≤ r) : l.take r = l.take n ++ (l.drop n).take (r - n) := by
  rw [← List.take_add, show n + (r - n) = r by omega]
/-- What a chunk's bytes are, if its length is within. -/
theorem chkOf_bytes (l : List UInt8) (h4 : 4 ≤ chkLen l) (hl : chkLen l ≤ l.length) : (chkOf l).bytes = l.take (chkLen l) ++ List.replicate (chkSize l - chkLen l) 0 := by
  have hlt := chkLen_lt l
  have hb := chkOf_len l h4 hl
  have hlen : (l.take (chkLen l)).length = chkLen l := by simp; omega
  rw [Chk.bytes, if_neg (by omega), padded, chkOf_raw l h4 hl, hlen]
  rfl
/-- A chunk that is read is the one whose bytes these are. -/
theorem chkOk_bytes (l : List UInt8) (h : chkOk l = true) : (chkOf l).bytes = l.take (chkSize l) ∧ chkSize l ≤ l.length ∧ (chkOf l).b.length ≤ 65531 := by
  simp only [chkOk, decide_eq_true_eq] at h
  obtain ⟨h1, h2, h3, h4⟩ := h
  have hr := roundN_le (chkLen l)
  have hlt := chkLen_lt l
  have hpl : (chkPad l).length = chkSize l - chkLen l := by
    simp only [chkPad, List.length_take, List.length_drop, chkSize]
    omega
  refine ⟨?_, h3, by rw [chkOf_len l h2 (by omega)]; omega⟩
  rw [chkOf_bytes l h2 (by omega), take_more l (chkLen l) (chkSize l) hr]
  congr 1
  have := pad_all _ h4
  rw [hpl] at this
  exact this.symm
/-- The document's way to read. -/
theorem chkOk_ref (l : List UInt8) (h1 : 4 ≤ l.length) (h2 : 4 ≤ chkLen l) (h3 : chkLen l ≤ l.length) : chkOk l = true ↔ (chkOf l).bytes.length ≤ l.length ∧ (chkOf l).bytes = l.take (chkOf l).bytes.length := by
  have hb := chkOf_bytes l h2 h3
  have hr : chkLen l ≤ chkSize l := roundN_le (chkLen l)
  have hlen : (chkOf l).bytes.length = chkSize l := by
    rw [hb]
    simp
    omega
  rw [hlen]
  constructor
  · intro h
    have := chkOk_bytes l h
    exact ⟨this.2.1, this.1⟩
  · rintro ⟨h5, h6⟩
    rw [hb, take_more l (chkLen l) (chkSize l) hr] at h6
    have h7 := List.append_cancel_left h6
    simp only [chkOk, decide_eq_true_eq]
    refine ⟨h1, h2, h5, ?_⟩
    intro b hbm
    have : chkPad l = List.replicate (chkSize l - chkLen l) 0 := h7.symm
    rw [this] at hbm
    exact (List.mem_replicate.1 hbm).2
/-- The head of a chunk's bytes, whatever stands behind. -/
theorem chkLen_head (c : Chk) (m : List UInt8) (h : c.b.length ≤ 65531) : chkLen (c.head ++ m) = 4 + c.b.length := by
  have : ((c.head ++ m).drop 2).take 2 = beBytes 2 (4 + c.b.length) := by
    rw [Chk.head, List.append_assoc]
    exact mid_of [c.k, c.f] _ m 2 2 rfl (beBytes_length _ _)
  rw [chkLen, this]
  exact beVal_of 2 _ (by omega)
theorem Chk.bytes_head (c : Chk) (h : c.b.length ≤ 65531) : c.bytes = c.head ++ (c.b ++ List.replicate (roundN (4 + c.b.length) - (4 + c.b.length)) 0) := by
  rw [Chk.bytes, if_neg (by omega), padded, Chk.raw_length, Chk.raw, List.append_assoc]
/-- A chunk that is written is read, whatever stands behind it. -/
theorem chk_back (c : Chk) (m : List UInt8) (h : c.b.length ≤ 65531) : chkOk (c.bytes ++ m) = true ∧ chkOf (c.bytes ++ m) = c ∧ chkSize (c.bytes ++ m) = c.bytes.length := by
  have hh := c.head_length
  have hlen := c.bytes_length h
  have hp := c.bytes_pos h
  have hbh := c.bytes_head h
  have hl : chkLen (c.bytes ++ m) = 4 + c.b.length := by
    rw [hbh, List.append_assoc]
    exact chkLen_head c _ h
  have hsz : chkSize (c.bytes ++ m) = c.bytes.length := by rw [chkSize, hl, hlen]
  refine ⟨?_, ?_, hsz⟩
  · simp only [chkOk, decide_eq_true_eq]
    refine ⟨by simp; omega, by omega, by rw [hl, ← hlen]; simp, ?_⟩
    have : chkPad (c.bytes ++ m) = List.replicate (roundN (4 + c.b.length) - (4 + c.b.length)) 0 := by
      rw [chkPad, hl, hbh, ← List.append_assoc, List.append_assoc (c.head ++ c.b)]
      exact mid_of (c.head ++ c.b) _ m _ _ (by simp; omega) (by simp)
    rw [this]
    intro b hb
    exact (List.mem_replicate.1 hb).2
  · have hb : (((c.bytes ++ m).drop 4).take (4 + c.b.length - 4)) = c.b := by
      rw [hbh, List.append_assoc, List.append_assoc]
      exact mid_of c.head c.b _ _ _ hh (by omega)
    have h0 : (c.bytes ++ m).getD 0 0 = c.k := by rw [hbh]; rfl
    have h1 : (c.bytes ++ m).getD 1 0 = c.f := by rw [hbh]; rfl
    apply Chk.ext'
    · exact h0
    · exact h1
    · show ((c.bytes ++ m).drop 4).take (chkLen (c.bytes ++ m) - 4) = c.b
      rw [hl, hb]
/-- A chunk that is cut is none. -/
theorem chk_cut (c : Chk) (k : Nat) (h : c.b.length ≤ 65531) (hk : k < c.bytes.length) : chkOk (c.bytes.take k) = false := by
  rw [Bool.eq_false_iff]
  intro ht
  simp only [chkOk, decide_eq_true_eq] at ht
  obtain ⟨h1, h2, h3, _⟩ := ht
  have hlen : (c.bytes.take k).length = k := by simp; omega
  rw [hlen] at h1 h3
  have hl : chkLen (c.bytes.take k) = 4 + c.b.length := by
    have e : c.bytes.take k = c.head ++ (c.b ++ List.replicate (roundN (4 + c.b.length) - (4 + c.b.length)) 0).take (k - 4) := by
      rw [c.bytes_head h, List.take_append, c.head_length, List.take_of_length_le (by rw [c.head_length]; omega)]
    rw [e]
    exact chkLen_head c _ h
  rw [hl, ← c.bytes_length h] at h3
  omega
end Go.FL

namespace Go.FL

/-- Data. -/
structure DataD where
  tsn : Nat
  st : Nat
  ssn : Nat
  un : Bool
  fi : Bool
  la : Bool
  b : List UInt8
def DataD.wf (d : DataD) : Prop := d.tsn < 4294967296 ∧ d.st < 65536 ∧ d.ssn < 65536
def bitIf (x : UInt8) (c : Bool) : UInt8 := if c then x else 0
def dataFlags (un fi la : Bool) : UInt8 := bitIf 4 un ||| bitIf 2 fi ||| bitIf 1 la
def DataD.body (d : DataD) : List UInt8 := beBytes 4 d.tsn ++ (beBytes 2 d.st ++ (beBytes 2 d.ssn ++ (beBytes 4 0 ++ d.b)))
def DataD.chk (d : DataD) : Chk := ⟨0, dataFlags d.un d.fi d.la, d.body⟩
def dataOf (c : Chk) : DataD := ⟨numAt c.b 0 4, numAt c.b 4 2, numAt c.b 6 2, c.f &&& 4 != 0, c.f &&& 2 != 0, c.f &&& 1 != 0, c.b.drop 12⟩
def DataD.zero : DataD := ⟨0, 0, 0, false, false, false, []⟩
theorem DataD.ext' {a b : DataD} (h1 : a.tsn = b.tsn) (h2 : a.st = b.st) (h3 : a.ssn = b.ssn) (h4 : a.un = b.un) (h5 : a.fi = b.fi) (h6 : a.la = b.la) (h7 : a.b = b.b) : a = b := by
  cases a; cases b; simp_all
theorem DataD.body_length (d : DataD) : d.body.length = 12 + d.b.length := by simp [DataD.body, beBytes_length]; omega
theorem dataFlags_at (un fi la : Bool) : (dataFlags un fi la &&& 4 != 0) = un ∧ (dataFlags un fi la &&& 2 != 0) = fi ∧ (dataFlags un fi la &&& 1 != 0) = la ∧ dataFlags un fi la < 8 := by
  cases un <;> cases fi <;> cases la <;> decide
theorem dataFlags_of : ∀ f : UInt8, f < 8 → dataFlags (f &&& 4 != 0) (f &&& 2 != 0) (f &&& 1 != 0) = f := by
  intro f hf
  have h : ∀ n : Nat, n < 8 → dataFlags (UInt8.ofNat n &&& 4 != 0) (UInt8.ofNat n &&& 2 != 0) (UInt8.ofNat n &&& 1 != 0) = UInt8.ofNat n := by decide
  have h1 := h f.toNat (UInt8.lt_iff_toNat_lt.1 hf)
  rwa [UInt8.ofNat_toNat] at h1
def dataOk (c : Chk) : Prop := 12 < c.b.length ∧ (dataOf c).chk = c
theorem data_back (d : DataD) (h : d.wf) : dataOf d.chk = d := by
  obtain ⟨h1, h2, h3⟩ := h
  have hf := dataFlags_at d.un d.fi d.la
  have e4 : (beBytes 4 d.tsn).length = 4 := beBytes_length _ _
  apply DataD.ext'
  · exact numAt_be [] (beBytes 2 d.st ++ (beBytes 2 d.ssn ++ (beBytes 4 0 ++ d.b))) 0 4 _ rfl h1
  · exact numAt_be (beBytes 4 d.tsn) (beBytes 2 d.ssn ++ (beBytes 4 0 ++ d.b)) 4 2 _ e4 h2
  · show numAt d.body 6 2 = d.ssn
    rw [DataD.body, ← List.append_assoc]
    exact numAt_be _ _ 6 2 _ (by simp [beBytes_length]) h3
  · exact hf.1
  · exact hf.2.1
  · exact hf.2.2.1
  · show d.body.drop 12 = d.b
    rw [DataD.body, ← List.append_assoc, ← List.append_assoc, ← List.append_assoc]
    exact List.drop_left' (by simp [beBytes_length])
theorem data_ok (d : DataD) (h : d.wf) : dataOk d.chk ↔ 0 < d.b.length := by
  unfold dataOk
  rw [data_back d h]
  show 12 < d.body.length ∧ d.chk = d.chk ↔ _
  rw [d.body_length]
  simp

/-- Beginnings. -/
structure InitD where
  tag : Nat
  rwnd : Nat
  out : Nat
  in_ : Nat
  tsn : Nat
  ck : List UInt8
def InitD.zero : InitD := ⟨0, 0, 0, 0, 0, []⟩
theorem InitD.ext' {a b : InitD} (h1 : a.tag = b.tag) (h2 : a.rwnd = b.rwnd) (h3 : a.out = b.out) (h4 : a.in_ = b.in_) (h5 : a.tsn = b.tsn) (h6 : a.ck = b.ck) : a = b := by
  cases a; cases b; simp_all
def InitD.wf (i : InitD) : Prop := i.tag < 4294967296 ∧ i.rwnd < 4294967296 ∧ i.out < 65536 ∧ i.in_ < 65536 ∧ i.tsn < 4294967296
def InitD.head (i : InitD) : List UInt8 := beBytes 4 i.tag ++ (beBytes 4 i.rwnd ++ (beBytes 2 i.out ++ (beBytes 2 i.in_ ++ beBytes 4 i.tsn)))
theorem InitD.head_length (i : InitD) : i.head.length = 16 := by simp [InitD.head, beBytes_length]
def InitD.more (i : InitD) : List UInt8 := i.head ++ (beBytes 2 7 ++ (beBytes 2 (4 + i.ck.length) ++ i.ck))
theorem InitD.more_length (i : InitD) : i.more.length = 20 + i.ck.length := by simp [InitD.more, beBytes_length, InitD.head_length]; omega
def InitD.body (kind : UInt8) (i : InitD) : List UInt8 := if kind = 2 then padded i.more else i.head
def InitD.chk (kind : UInt8) (i : InitD) : Chk := ⟨kind, 0, i.body kind⟩
theorem InitD.body_ge (kind : UInt8) (i : InitD) : 16 ≤ (i.body kind).length := by
  unfold InitD.body
  split
  · rw [padded_length, i.more_length]
    have := roundN_le (20 + i.ck.length)
    omega
  · rw [i.head_length]
    exact Nat.le_refl _
def cutAt (l : List UInt8) (a : Nat) (n : Int) : List UInt8 := if 0 ≤ n ∧ (a : Int) + n ≤ l.length then (l.drop a).take n.toNat else []
def initCk (l : List UInt8) : List UInt8 := cutAt l 20 ((numAt l 18 2 : Int) - 4)
def initOf (c : Chk) : InitD := ⟨numAt c.b 0 4, numAt c.b 4 4, numAt c.b 8 2, numAt c.b 10 2, numAt c.b 12 4, if c.k = 2 then initCk c.b else []⟩
def InitD.may (i : InitD) : Prop := i.tag ≠ 0 ∧ i.out ≠ 0 ∧ i.in_ ≠ 0
def initOk (c : Chk) : Prop := (c.k = 1 ∨ (c.k = 2 ∧ 0 < (initOf c).ck.length)) ∧ (initOf c).may ∧ (initOf c).chk c.k = c
theorem init_head (i : InitD) (h : i.wf) (m : List UInt8) : numAt (i.head ++ m) 0 4 = i.tag ∧ numAt (i.head ++ m) 4 4 = i.rwnd ∧ numAt (i.head ++ m) 8 2 = i.out ∧ numAt (i.head ++ m) 10 2 = i.in_ ∧ numAt (i.head ++ m) 12 4 = i.tsn := by
  obtain ⟨h1, h2, h3, h4, h5⟩ := h
  have e : i.head ++ m = beBytes 4 i.tag ++ (beBytes 4 i.rwnd ++ (beBytes 2 i.out ++ (beBytes 2 i.in_ ++ (beBytes 4 i.tsn ++ m)))) := by simp [InitD.head]
  rw [e]
  refine ⟨numAt_be [] _ 0 4 _ rfl h1, numAt_be _ _ 4 4 _ (beBytes_length _ _) h2, ?_, ?_, ?_⟩
  · rw [← List.append_assoc]
    exact numAt_be _ _ 8 2 _ (by simp [beBytes_length]) h3
  · rw [← List.append_assoc, ← List.append_assoc]
    exact numAt_be _ _ 10 2 _ (by simp [beBytes_length]) h4
  · rw [← List.append_assoc, ← List.append_assoc, ← List.append_assoc]
    exact numAt_be _ _ 12 4 _ (by simp [beBytes_length]) h5
theorem initCk_more (i : InitD) (m : List UInt8) (h : i.ck.length ≤ 65531) : initCk (i.more ++ m) = i.ck := by
  have e : i.more ++ m = (i.head ++ beBytes 2 7) ++ (beBytes 2 (4 + i.ck.length) ++ (i.ck ++ m)) := by simp [InitD.more]
  have hl : (i.head ++ beBytes 2 7).length = 18 := by simp [InitD.head_length, beBytes_length]
  have hn : numAt (i.more ++ m) 18 2 = 4 + i.ck.length := by
    rw [e]
    exact numAt_be _ _ 18 2 _ hl (by omega)
  rw [initCk, hn, show ((4 + i.ck.length : Nat) : Int) - 4 = (i.ck.length : Int) by omega, cutAt, if_pos (by simp [i.more_length]; omega), Int.toNat_natCast, e, ← List.append_assoc]
  exact mid_of _ i.ck m 20 _ (by simp [InitD.head_length, beBytes_length]) rfl
theorem init_back (kind : UInt8) (i : InitD) (h : i.wf) (hc : i.ck.length ≤ 65531) (hk : kind ≠ 2 → i.ck = []) : initOf (i.chk kind) = i := by
  by_cases h2 : kind = 2
  · subst h2
    have e : (i.chk 2).b = i.more ++ List.replicate (roundN i.more.length - i.more.length) 0 := rfl
    have e2 : (i.chk 2).b = i.head ++ ((beBytes 2 7 ++ (beBytes 2 (4 + i.ck.length) ++ i.ck)) ++ List.replicate (roundN i.more.length - i.more.length) 0) := by
      rw [e, InitD.more, List.append_assoc]
    have hh := init_head i h ((beBytes 2 7 ++ (beBytes 2 (4 + i.ck.length) ++ i.ck)) ++ List.replicate (roundN i.more.length - i.more.length) 0)
    rw [← e2] at hh
    apply InitD.ext'
    · exact hh.1
    · exact hh.2.1
    · exact hh.2.2.1
    · exact hh.2.2.2.1
    · exact hh.2.2.2.2
    · show (if (i.chk 2).k = 2 then initCk (i.chk 2).b else []) = i.ck
      rw [if_pos (show (InitD.chk 2 i).k = 2 from rfl), e]
      exact initCk_more i _ hc
  · have e : (i.chk kind).b = i.head ++ [] := by
      show i.body kind = _
      rw [InitD.body, if_neg h2, List.append_nil]
    have hh := init_head i h []
    rw [← e] at hh
    apply InitD.ext'
    · exact hh.1
    · exact hh.2.1
    · exact hh.2.2.1
    · exact hh.2.2.2.1
    · exact hh.2.2.2.2
    · show (if (i.chk kind).k = 2 then initCk (i.chk kind).b else []) = i.ck
      rw [if_neg (show ¬ (i.chk kind).k = 2 from h2), hk h2]

/-- Acknowledgements. -/
structure SackD where
  cum : Nat
  rwnd : Nat
  gaps : List (Nat × Nat)
  dups : List Nat
def SackD.zero : SackD := ⟨0, 0, [], []⟩
def gapBytes (g : Nat × Nat) : List UInt8 := beBytes 2 g.1 ++ beBytes 2 g.2
def gapsBytes (l : List (Nat × Nat)) : List UInt8 := (l.map gapBytes).flatten
theorem gapsBytes_cons (g : Nat × Nat) (l : List (Nat × Nat)) : gapsBytes (g :: l) = gapBytes g ++ gapsBytes l := rfl
theorem gapsBytes_append (l m : List (Nat × Nat)) : gapsBytes (l ++ m) = gapsBytes l ++ gapsBytes m := by simp [gapsBytes]
theorem gapBytes_length (g : Nat × Nat) : (gapBytes g).length = 4 := by simp [gapBytes, beBytes_length]
theorem gapsBytes_length : ∀ l : List (Nat × Nat), (gapsBytes l).length = 4 * l.length
  | [] => rfl
  | g :: l => by rw [gapsBytes_cons, List.length_append, gapBytes_length, gapsBytes_length l, List.length_cons]; omega
def SackD.head (s : SackD) : List UInt8 := beBytes 4 s.cum ++ (beBytes 4 s.rwnd ++ (beBytes 2 s.gaps.length ++ beBytes 2 s.dups.length))
theorem SackD.head_length (s : SackD) : s.head.length = 12 := by simp [SackD.head, beBytes_length]
def SackD.body (s : SackD) : List UInt8 := s.head ++ (gapsBytes s.gaps ++ catBE 4 s.dups)
theorem SackD.body_length (s : SackD) : s.body.length = 12 + 4 * s.gaps.length + 4 * s.dups.length := by
  simp [SackD.body, SackD.head_length, gapsBytes_length, catBE_length]
  omega
def SackD.chk (s : SackD) : Chk := ⟨3, 0, s.body⟩
/-- Forward. -/
structure FwdD where
  cum : Nat
  skips : List (Nat × Nat)
def FwdD.zero : FwdD := ⟨0, []⟩
def FwdD.body (f : FwdD) : List UInt8 := beBytes 4 f.cum ++ gapsBytes f.skips
theorem FwdD.body_length (f : FwdD) : f.body.length = 4 + 4 * f.skips.length := by simp [FwdD.body, beBytes_length, gapsBytes_length]
def FwdD.chk (f : FwdD) : Chk := ⟨192, 0, f.body⟩
/-- Pairs at a place. -/
def pairAt (l : List UInt8) (a : Nat) : Nat × Nat := (numAt l a 2, numAt l (a + 2) 2)
def pairsAt (l : List UInt8) (a n : Nat) : List (Nat × Nat) := (List.range n).map fun i => pairAt l (a + 4 * i)
def numsAt (l : List UInt8) (a n : Nat) : List Nat := (List.range n).map fun i => numAt l (a + 4 * i) 4
theorem pairsAt_length (l : List UInt8) (a n : Nat) : (pairsAt l a n).length = n := by simp [pairsAt]
theorem numsAt_length (l : List UInt8) (a n : Nat) : (numsAt l a n).length = n := by simp [numsAt]
theorem pairsAt_succ (l : List UInt8) (a n : Nat) : pairsAt l a (n + 1) = pairsAt l a n ++ [pairAt l (a + 4 * n)] := by simp [pairsAt, List.range_succ]
theorem numsAt_succ (l : List UInt8) (a n : Nat) : numsAt l a (n + 1) = numsAt l a n ++ [numAt l (a + 4 * n) 4] := by simp [numsAt, List.range_succ]
def pairsWf (l : List (Nat × Nat)) : Prop := ∀ g ∈ l, g.1 < 65536 ∧ g.2 < 65536
def numsWf (l : List Nat) : Prop := ∀ x ∈ l, x < 4294967296
theorem pairsAt_of : ∀ (g : List (Nat × Nat)) (p s : List UInt8) (a : Nat), p.length = a → pairsWf g → pairsAt (p ++ (gapsBytes g ++ s)) a g.length = g := by
  intro g
  induction g with
  | nil => intro p s a _ _; rfl
  | cons x g ih =>
    intro p s a hp hw
    obtain ⟨h1, h2⟩ := hw x (by simp)
    have ih' := ih (p ++ gapBytes x) s (a + 4) (by simp [gapBytes_length, hp]) (fun y hy => hw y (by simp [hy]))
    have e : p ++ (gapsBytes (x :: g) ++ s) = p ++ gapBytes x ++ (gapsBytes g ++ s) := by rw [gapsBytes_cons]; simp
    rw [e]
    have e0 : pairAt (p ++ gapBytes x ++ (gapsBytes g ++ s)) a = x := by
      have e1 : p ++ gapBytes x ++ (gapsBytes g ++ s) = p ++ (beBytes 2 x.1 ++ (beBytes 2 x.2 ++ (gapsBytes g ++ s))) := by simp [gapBytes]
      have e2 : p ++ gapBytes x ++ (gapsBytes g ++ s) = (p ++ beBytes 2 x.1) ++ (beBytes 2 x.2 ++ (gapsBytes g ++ s)) := by simp [gapBytes]
      apply Prod.ext
      · show numAt _ a 2 = x.1
        rw [e1]
        exact numAt_be p _ a 2 _ hp h1
      · show numAt _ (a + 2) 2 = x.2
        rw [e2]
        exact numAt_be _ _ (a + 2) 2 _ (by simp [beBytes_length, hp]) h2
    rw [pairsAt, List.length_cons, List.range_succ_eq_map, List.map_cons, List.map_map]
    rw [Nat.mul_zero, Nat.add_zero, e0]
    congr 1
    refine Eq.trans ?_ ih'
    rw [pairsAt]
    apply List.map_congr_left
    intro i _
    show pairAt _ (a + 4 * (i + 1)) = _
    rw [show a + 4 * (i + 1) = a + 4 + 4 * i by omega]
theorem numsAt_of : ∀ (g : List Nat) (p s : List UInt8) (a : Nat), p.length = a → numsWf g → numsAt (p ++ (catBE 4 g ++ s)) a g.length = g := by
  intro g
  induction g with
  | nil => intro p s a _ _; rfl
  | cons x g ih =>
    intro p s a hp hw
    have h1 := hw x (by simp)
    have ih' := ih (p ++ beBytes 4 x) s (a + 4) (by simp [beBytes_length, hp]) (fun y hy => hw y (by simp [hy]))
    have e : p ++ (catBE 4 (x :: g) ++ s) = p ++ beBytes 4 x ++ (catBE 4 g ++ s) := by rw [catBE_cons]; simp
    rw [e]
    have e0 : numAt (p ++ beBytes 4 x ++ (catBE 4 g ++ s)) a 4 = x := by
      rw [List.append_assoc]
      exact numAt_be p _ a 4 _ hp h1
    rw [numsAt, List.length_cons, List.range_succ_eq_map, List.map_cons, List.map_map]
    rw [Nat.mul_zero, Nat.add_zero, e0]
    congr 1
    refine Eq.trans ?_ ih'
    rw [numsAt]
    apply List.map_congr_left
    intro i _
    show numAt _ (a + 4 * (i + 1)) 4 = _
    rw [show a + 4 * (i + 1) = a + 4 + 4 * i by omega]
end Go.FL

namespace Go.FL
def timeN (b : Int) : Nat := (b % 18446744073709551616).toNat
def timeI (n : Nat) : Int := if n < 9223372036854775808 then (n : Int) else (n : Int) - 18446744073709551616
theorem timeN_lt (b : Int) : timeN b < 18446744073709551616 := by unfold timeN; omega
theorem timeI_N (b : Int) (h : -9223372036854775808 ≤ b ∧ b < 9223372036854775808) : timeI (timeN b) = b := by
  unfold timeI timeN
  split <;> omega
theorem timeI_bounds (n : Nat) (h : n < 18446744073709551616) : -9223372036854775808 ≤ timeI n ∧ timeI n < 9223372036854775808 := by
  unfold timeI
  split <;> omega
theorem wrap_time (b : Int) : IntKind.u64.wrap b = (timeN b : Int) := by
  simp only [IntKind.wrap, IntKind.signed, IntKind.bits, timeN]
  simp
  omega
theorem wrap_timeI (n : Nat) (h : n < 18446744073709551616) : IntKind.i64.wrap (n : Int) = timeI n := by
  simp only [IntKind.wrap, IntKind.signed, IntKind.bits, timeI]
  simp
  split <;> omega
def timeBody (a : Int) : List UInt8 := beBytes 2 1 ++ (beBytes 2 12 ++ beBytes 8 (timeN a))
theorem timeBody_length (a : Int) : (timeBody a).length = 12 := by simp [timeBody, beBytes_length]
def timeChk (k : UInt8) (a : Int) : Chk := ⟨k, 0, timeBody a⟩
def cumChk (c : Nat) : Chk := ⟨7, 0, beBytes 4 c⟩
end Go.FL

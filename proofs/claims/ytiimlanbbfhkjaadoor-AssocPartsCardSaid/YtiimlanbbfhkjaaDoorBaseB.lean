/- Joined: OctMath, NumMath, ShaMath, MacMath, CookMath, ChunkMath, BodMath, BodMath2, CookMath2. -/
import Derived.Test.YtiimlanbbfhkjaaDoorBaseA
set_option linter.unusedSimpArgs false
set_option linter.unusedVariables false


namespace Go.FL

def sizedB (n : Int) : Bool := decide (n = 1 ∨ n = 2 ∨ n = 4 ∨ n = 8)
def withinB (len : Nat) (at_ n : Int) : Bool := decide (0 ≤ at_ ∧ 0 ≤ n ∧ at_ ≤ (len : Int) ∧ n ≤ (len : Int) - at_)
/-- The number of bytes, the highest first. -/
def beVal (l : List UInt8) : Nat := l.foldl (fun a b => a * 256 + b.toNat) 0
/-- The first k of a number's bytes, the highest of so many first. -/
def bePart (size x k : Nat) : List UInt8 := (List.range k).map fun j => UInt8.ofNat (x / 2 ^ (8 * (size - 1 - j)))
def beBytes (size x : Nat) : List UInt8 := bePart size x size
def roundI (n : Int) : Int := if n < 0 ∨ 4611686018427387904 < n then 0 else (n + 3) / 4 * 4
def roundN (n : Nat) : Nat := (n + 3) / 4 * 4
def padded (l : List UInt8) : List UInt8 := l ++ List.replicate (roundN l.length - l.length) 0

theorem sizedB_cases {n : Int} (h : sizedB n = true) : n = 1 ∨ n = 2 ∨ n = 4 ∨ n = 8 := by simpa [sizedB] using h
theorem sizedB_nat {n : Int} (h : sizedB n = true) : ∃ m : Nat, n = (m : Int) ∧ 0 < m ∧ m ≤ 8 := by
  have := sizedB_cases h
  exact ⟨n.toNat, by omega, by omega, by omega⟩
theorem withinB_nat {len : Nat} {a n : Int} (h : withinB len a n = true) : ∃ i k : Nat, a = (i : Int) ∧ n = (k : Int) ∧ i + k ≤ len := by
  simp [withinB] at h
  exact ⟨a.toNat, n.toNat, by omega, by omega, by omega⟩
theorem bePart_succ (size x k : Nat) : bePart size x (k + 1) = bePart size x k ++ [UInt8.ofNat (x / 2 ^ (8 * (size - 1 - k)))] := by
  simp [bePart, List.range_succ]
theorem bePart_length (size x k : Nat) : (bePart size x k).length = k := by simp [bePart]
theorem beBytes_length (size x : Nat) : (beBytes size x).length = size := bePart_length size x size
theorem beVal_nil : beVal [] = 0 := rfl
theorem beVal_snoc (l : List UInt8) (b : UInt8) : beVal (l ++ [b]) = beVal l * 256 + b.toNat := by simp [beVal]
theorem beFold_lt (l : List UInt8) : ∀ a : Nat, l.foldl (fun a b => a * 256 + b.toNat) a < (a + 1) * 256 ^ l.length := by
  induction l with
  | nil => intro a; simp
  | cons b l ih =>
    intro a
    rw [List.foldl_cons, List.length_cons, Nat.pow_succ]
    have h1 := ih (a * 256 + b.toNat)
    have hb := b.toNat_lt
    have h2 : (a * 256 + b.toNat + 1) * 256 ^ l.length ≤ ((a + 1) * 256) * 256 ^ l.length := Nat.mul_le_mul_right _ (by omega)
    have h3 : (a + 1) * (256 ^ l.length * 256) = ((a + 1) * 256) * 256 ^ l.length := by rw [Nat.mul_comm (256 ^ l.length) 256, Nat.mul_assoc]
    omega
theorem beVal_lt (l : List UInt8) : beVal l < 256 ^ l.length := by
  have := beFold_lt l 0
  simpa [beVal] using this
theorem pow256_le {k : Nat} (h : k ≤ 8) : 256 ^ k ≤ 18446744073709551616 := Nat.le_trans (Nat.pow_le_pow_right (by decide) h) (by decide)
theorem pow256_lt {k : Nat} (h : k ≤ 7) : 256 ^ k ≤ 72057594037927936 := Nat.le_trans (Nat.pow_le_pow_right (by decide) h) (by decide)
theorem roundN_le (n : Nat) : n ≤ roundN n := by unfold roundN; omega
theorem roundN_lt (n : Nat) : roundN n < n + 4 := by unfold roundN; omega
theorem roundN_mod (n : Nat) : roundN n % 4 = 0 := by unfold roundN; omega
theorem roundI_nat (n : Nat) (h : n ≤ 4611686018427387904) : roundI (n : Int) = (roundN n : Int) := by
  unfold roundI roundN
  rw [if_neg (by omega)]
  omega
theorem padded_length (l : List UInt8) : (padded l).length = roundN l.length := by
  have := roundN_le l.length
  simp [padded]
  omega

theorem or_byte (x : Nat) (b : UInt8) (h : x < 72057594037927936) : bits .or .u64 ((x : Int) * 256) (b.toNat : Int) = ((x * 256 + b.toNat : Nat) : Int) := by
  have hb := b.toNat_lt
  have h1 : (x : Int) * 256 = ((x * 256 : Nat) : Int) := by omega
  rw [h1]
  show IntKind.u64.wrap (((BitVec.ofInt 64 ((x * 256 : Nat) : Int)) ||| (BitVec.ofInt 64 (b.toNat : Int))).toNat : Int) = _
  have h2 : ((BitVec.ofInt 64 ((x * 256 : Nat) : Int)) ||| (BitVec.ofInt 64 (b.toNat : Int))).toNat = x * 256 + b.toNat := by
    rw [BitVec.toNat_or, BitVec.ofInt_natCast, BitVec.ofInt_natCast, BitVec.toNat_ofNat, BitVec.toNat_ofNat, Nat.mod_eq_of_lt (show x * 256 < 2 ^ 64 by omega), Nat.mod_eq_of_lt (show b.toNat < 2 ^ 64 by omega)]
    have := Nat.shiftLeft_add_eq_or_of_lt (show b.toNat < 2 ^ 8 from hb) x
    rw [Nat.shiftLeft_eq] at this
    exact this.symm
  rw [h2]
  simp only [IntKind.wrap, IntKind.bits, IntKind.signed]
  simp
  omega
theorem shr_byte (x k : Nat) : ((x : Int) / 2 ^ k) % 256 = ((UInt8.ofNat (x / 2 ^ k)).toNat : Int) := by
  have h1 : (x : Int) / 2 ^ k = ((x / 2 ^ k : Nat) : Int) := by simp
  rw [h1, UInt8.toNat_ofNat']
  omega
theorem three_bits (i : Nat) (hi : i < 64) : (3#64).getLsbD i = decide (i < 2) := by
  have : ∀ j, j < 64 → (3#64).getLsbD j = decide (j < 2) := by decide
  exact this i hi
theorem andNot3 (m : Nat) (h : m < 9223372036854775808) : bits .andNot .i64 (m : Int) 3 = ((m / 4 * 4 : Nat) : Int) := by
  show IntKind.i64.wrap (((BitVec.ofInt 64 (m : Int)) &&& ~~~(BitVec.ofInt 64 3)).toNat : Int) = _
  have h1 : ((BitVec.ofInt 64 (m : Int)) &&& ~~~(BitVec.ofInt 64 3)).toNat = m / 4 * 4 := by
    have h2 : ((BitVec.ofInt 64 (m : Int)) &&& ~~~(BitVec.ofInt 64 3)) = BitVec.ofNat 64 (m / 4 * 4) := by
      apply BitVec.eq_of_getLsbD_eq
      intro i hi
      rw [BitVec.getLsbD_and, BitVec.getLsbD_not, BitVec.ofInt_natCast, BitVec.getLsbD_ofNat, BitVec.getLsbD_ofNat, show BitVec.ofInt 64 3 = 3#64 from rfl, three_bits i hi]
      rw [show m / 4 * 4 = m / 2 ^ 2 * 2 ^ 2 from rfl, Nat.testBit_mul_two_pow, Nat.testBit_div_two_pow]
      by_cases h3 : 2 ≤ i
      · simp [hi, h3, show ¬ i < 2 by omega, show i - 2 + 2 = i by omega]
      · simp [hi, h3, show i < 2 by omega]
    rw [h2, BitVec.toNat_ofNat, Nat.mod_eq_of_lt (show m / 4 * 4 < 2 ^ 64 by omega)]
  rw [h1, IntKind.wrap_i64]
  omega
end Go.FL



namespace Go.FL

theorem beBytes_snoc (n x : Nat) : beBytes (n + 1) x = beBytes n (x / 256) ++ [UInt8.ofNat x] := by
  rw [beBytes, bePart_succ]
  congr 1
  · rw [beBytes, bePart, bePart]
    apply List.map_congr_left
    intro j hj
    have hj : j < n := List.mem_range.1 hj
    congr 1
    rw [Nat.div_div_eq_div_mul]
    congr 1
    rw [show 8 * (n + 1 - 1 - j) = 8 + 8 * (n - 1 - j) by omega, Nat.pow_add]
  · rw [show 8 * (n + 1 - 1 - n) = 0 by omega, Nat.pow_zero, Nat.div_one]
theorem beBytes_val : ∀ (n : Nat) (l : List UInt8), l.length = n → beBytes n (beVal l) = l
  | 0, l, h => by
    rw [List.length_eq_zero_iff.1 h]
    rfl
  | n + 1, l, h => by
    obtain ⟨m, b, rfl⟩ : ∃ m b, l = m ++ [b] := ⟨l.dropLast, l.getLast (by intro e; simp [e] at h), (List.dropLast_concat_getLast _).symm⟩
    have hm : m.length = n := by simpa using h
    have hb := b.toNat_lt
    rw [beBytes_snoc, beVal_snoc]
    have h1 : (beVal m * 256 + b.toNat) / 256 = beVal m := by omega
    rw [h1, beBytes_val n m hm]
    congr 2
    apply UInt8.toNat_inj.1
    rw [UInt8.toNat_ofNat']
    omega
theorem beVal_of : ∀ (n x : Nat), x < 256 ^ n → beVal (beBytes n x) = x
  | 0, x, h => by
    obtain rfl : x = 0 := by simpa using h
    rfl
  | n + 1, x, h => by
    rw [Nat.pow_succ] at h
    rw [beBytes_snoc, beVal_snoc, beVal_of n (x / 256) (by omega), UInt8.toNat_ofNat']
    omega
/-- What stands in the midst. -/
theorem mid_of {α : Type} (a b c : List α) (n k : Nat) (hn : a.length = n) (hk : b.length = k) : ((a ++ (b ++ c)).drop n).take k = b := by
  subst hn hk
  simp

/-- The number at a place; 0: it is not within. -/
def numAt (l : List UInt8) (a n : Nat) : Nat := if a + n ≤ l.length then beVal ((l.drop a).take n) else 0
theorem numAt_lt (l : List UInt8) (a n : Nat) : numAt l a n < 256 ^ n := by
  unfold numAt
  split
  · exact Nat.lt_of_lt_of_le (beVal_lt _) (Nat.pow_le_pow_right (by decide) (List.length_take_le _ _))
  · exact Nat.pow_pos (by decide)
theorem numAt_mid (p m s : List UInt8) (a n : Nat) (hp : p.length = a) (hm : m.length = n) : numAt (p ++ (m ++ s)) a n = beVal m := by
  rw [numAt, if_pos (by simp; omega), mid_of p m s a n hp hm]
theorem numAt_be (p s : List UInt8) (a n x : Nat) (hp : p.length = a) (hx : x < 256 ^ n) : numAt (p ++ (beBytes n x ++ s)) a n = x := by
  rw [numAt_mid p (beBytes n x) s a n hp (beBytes_length _ _), beVal_of n x hx]
theorem numAt_bytes (l : List UInt8) (a n : Nat) (h : a + n ≤ l.length) : beBytes n (numAt l a n) = (l.drop a).take n := by
  rw [numAt, if_pos h]
  exact beBytes_val n _ (by simp; omega)
theorem numAt_take (l : List UInt8) (a n k : Nat) (h : a + n ≤ k) (hk : k ≤ l.length) : numAt (l.take k) a n = numAt l a n := by
  have h1 : (l.take k).length = k := by simp; omega
  rw [numAt, numAt, if_pos (by omega), if_pos (by omega), List.drop_take, List.take_take, Nat.min_eq_left (by omega)]

/-- Numbers of n bytes, one behind the other. -/
def catBE (n : Nat) (xs : List Nat) : List UInt8 := (xs.map (beBytes n)).flatten
theorem catBE_nil (n : Nat) : catBE n [] = [] := rfl
theorem catBE_cons (n x : Nat) (xs : List Nat) : catBE n (x :: xs) = beBytes n x ++ catBE n xs := rfl
theorem catBE_append (n : Nat) (xs ys : List Nat) : catBE n (xs ++ ys) = catBE n xs ++ catBE n ys := by simp [catBE]
theorem catBE_length (n : Nat) : ∀ xs : List Nat, (catBE n xs).length = n * xs.length
  | [] => rfl
  | x :: xs => by rw [catBE_cons, List.length_append, beBytes_length, catBE_length n xs, List.length_cons, Nat.mul_succ]; omega

end Go.FL



namespace Go.FL

def rr (x : BitVec 32) (n : Nat) : BitVec 32 := (x >>> n) ||| (x <<< (32 - n))
def sigA (x : BitVec 32) : BitVec 32 := rr x 7 ^^^ rr x 18 ^^^ x >>> 3
def sigB (x : BitVec 32) : BitVec 32 := rr x 17 ^^^ rr x 19 ^^^ x >>> 10
def sumA (x : BitVec 32) : BitVec 32 := rr x 2 ^^^ rr x 13 ^^^ rr x 22
def sumE (x : BitVec 32) : BitVec 32 := rr x 6 ^^^ rr x 11 ^^^ rr x 25
def shaCh (e f g : BitVec 32) : BitVec 32 := (e &&& f) ||| (~~~ e &&& g)
def shaMaj (a b c : BitVec 32) : BitVec 32 := (a &&& b) ||| (c &&& (a ||| b))

structure Sha where
  a : BitVec 32
  b : BitVec 32
  c : BitVec 32
  d : BitVec 32
  e : BitVec 32
  f : BitVec 32
  g : BitVec 32
  h : BitVec 32

def Sha.list (s : Sha) : List (BitVec 32) := [s.a, s.b, s.c, s.d, s.e, s.f, s.g, s.h]
def shaH : Sha := ⟨0x6a09e667#32, 0xbb67ae85#32, 0x3c6ef372#32, 0xa54ff53a#32, 0x510e527f#32, 0x9b05688c#32, 0x1f83d9ab#32, 0x5be0cd19#32⟩
def shaK : List (BitVec 32) := [
  0x428a2f98#32, 0x71374491#32, 0xb5c0fbcf#32, 0xe9b5dba5#32, 0x3956c25b#32, 0x59f111f1#32, 0x923f82a4#32, 0xab1c5ed5#32,
  0xd807aa98#32, 0x12835b01#32, 0x243185be#32, 0x550c7dc3#32, 0x72be5d74#32, 0x80deb1fe#32, 0x9bdc06a7#32, 0xc19bf174#32,
  0xe49b69c1#32, 0xefbe4786#32, 0x0fc19dc6#32, 0x240ca1cc#32, 0x2de92c6f#32, 0x4a7484aa#32, 0x5cb0a9dc#32, 0x76f988da#32,
  0x983e5152#32, 0xa831c66d#32, 0xb00327c8#32, 0xbf597fc7#32, 0xc6e00bf3#32, 0xd5a79147#32, 0x06ca6351#32, 0x14292967#32,
  0x27b70a85#32, 0x2e1b2138#32, 0x4d2c6dfc#32, 0x53380d13#32, 0x650a7354#32, 0x766a0abb#32, 0x81c2c92e#32, 0x92722c85#32,
  0xa2bfe8a1#32, 0xa81a664b#32, 0xc24b8b70#32, 0xc76c51a3#32, 0xd192e819#32, 0xd6990624#32, 0xf40e3585#32, 0x106aa070#32,
  0x19a4c116#32, 0x1e376c08#32, 0x2748774c#32, 0x34b0bcb5#32, 0x391c0cb3#32, 0x4ed8aa4a#32, 0x5b9cca4f#32, 0x682e6ff3#32,
  0x748f82ee#32, 0x78a5636f#32, 0x84c87814#32, 0x8cc70208#32, 0x90befffa#32, 0xa4506ceb#32, 0xbef9a3f7#32, 0xc67178f2#32]

/-- The words of a block, the first t of them. -/
def shaWord (l : List UInt8) (t : Nat) : BitVec 32 := BitVec.ofNat 32 (beVal ((l.drop (4 * t)).take 4))
def shaMix (ws : List (BitVec 32)) : BitVec 32 := ws.getD (ws.length - 16) 0#32 + sigA (ws.getD (ws.length - 15) 0#32) + ws.getD (ws.length - 7) 0#32 + sigB (ws.getD (ws.length - 2) 0#32)
def shaMore (l : List UInt8) (ws : List (BitVec 32)) : List (BitVec 32) := ws ++ [if ws.length < 16 then shaWord l ws.length else shaMix ws]
def shaSched (l : List UInt8) : Nat → List (BitVec 32)
  | 0 => []
  | t + 1 => shaMore l (shaSched l t)
theorem shaSched_length (l : List UInt8) : ∀ t, (shaSched l t).length = t
  | 0 => rfl
  | t + 1 => by simp [shaSched, shaMore, shaSched_length l t]
theorem shaSched_low (l : List UInt8) (t : Nat) (h : t < 16) : shaSched l (t + 1) = shaSched l t ++ [shaWord l t] := by
  simp [shaSched, shaMore, shaSched_length, h]
theorem shaSched_high (l : List UInt8) (t : Nat) (h : 16 ≤ t) : shaSched l (t + 1) = shaSched l t ++ [shaMix (shaSched l t)] := by
  simp [shaSched, shaMore, shaSched_length, show ¬ t < 16 by omega]
theorem shaSched_get (l : List UInt8) (t : Nat) : ∀ n, t < n → (shaSched l n).getD t 0#32 = (shaSched l (t + 1)).getD t 0#32
  | 0, h => by omega
  | n + 1, h => by
    by_cases e : t = n
    · rw [e]
    · have h1 : t < n := by omega
      rw [← shaSched_get l t n h1]
      have hl := shaSched_length l n
      simp only [shaSched, shaMore, List.getD_eq_getElem?_getD]
      rw [List.getElem?_append_left (by omega)]

/-- One round. -/
def shaStep (s : Sha) (k w : BitVec 32) : Sha :=
  let p := s.h + sumE s.e + shaCh s.e s.f s.g + k + w
  let q := sumA s.a + shaMaj s.a s.b s.c
  ⟨p + q, s.a, s.b, s.c, s.d + p, s.e, s.f, s.g⟩
def shaRounds (ws : List (BitVec 32)) (s : Sha) : Nat → Sha
  | 0 => s
  | t + 1 => shaStep (shaRounds ws s t) (shaK.getD t 0#32) (ws.getD t 0#32)
def Sha.add (s r : Sha) : Sha := ⟨s.a + r.a, s.b + r.b, s.c + r.c, s.d + r.d, s.e + r.e, s.f + r.f, s.g + r.g, s.h + r.h⟩
def shaBlock (s : Sha) (l : List UInt8) : Sha := s.add (shaRounds (shaSched l 64) s 64)
def shaChain (l : List UInt8) : Nat → Sha
  | 0 => shaH
  | j + 1 => shaBlock (shaChain l j) ((l.drop (64 * j)).take 64)
theorem shaChain_append (l m : List UInt8) : ∀ j, 64 * j ≤ l.length → shaChain (l ++ m) j = shaChain l j
  | 0, _ => rfl
  | j + 1, h => by
    rw [shaChain, shaChain, shaChain_append l m j (by omega), List.drop_append_of_le_length (by omega), List.take_append_of_le_length (by simp; omega)]

def shaPad (l : List UInt8) : List UInt8 := l ++ (128 :: (List.replicate ((119 - l.length % 64) % 64) 0 ++ beBytes 8 (8 * l.length)))
theorem shaPad_length (l : List UInt8) : (shaPad l).length = 64 * ((l.length + 72) / 64) := by
  simp [shaPad, beBytes_length]
  omega
/-- Byte number i of a sum. -/
def shaByte (s : List (BitVec 32)) (i : Nat) : UInt8 := UInt8.ofNat ((s.getD (i / 4) 0#32).toNat / 2 ^ (24 - 8 * (i % 4)))
def shaBytes (s : Sha) : List UInt8 := (List.range 32).map (shaByte s.list)
theorem shaBytes_length (s : Sha) : (shaBytes s).length = 32 := by simp [shaBytes]
def shaSum (l : List UInt8) : List UInt8 := shaBytes (shaChain (shaPad l) ((l.length + 72) / 64))
theorem shaSum_length (l : List UInt8) : (shaSum l).length = 32 := shaBytes_length _

/-- The document's way of the two mixings. -/
theorem shaCh_xor (e f g : BitVec 32) : (e &&& f) ^^^ ((e ^^^ 0xffffffff#32) &&& g) = shaCh e f g := by
  have h : (0xffffffff#32) = BitVec.allOnes 32 := rfl
  unfold shaCh
  rw [h]
  apply BitVec.eq_of_getLsbD_eq
  intro i hi
  simp only [BitVec.getLsbD_xor, BitVec.getLsbD_and, BitVec.getLsbD_or, BitVec.getLsbD_not, BitVec.getLsbD_allOnes, hi, decide_true]
  cases e.getLsbD i <;> cases f.getLsbD i <;> cases g.getLsbD i <;> rfl
theorem shaMaj_xor (a b c : BitVec 32) : (a &&& b) ^^^ (a &&& c) ^^^ (b &&& c) = shaMaj a b c := by
  unfold shaMaj
  apply BitVec.eq_of_getLsbD_eq
  intro i hi
  simp only [BitVec.getLsbD_xor, BitVec.getLsbD_and, BitVec.getLsbD_or]
  cases a.getLsbD i <;> cases b.getLsbD i <;> cases c.getLsbD i <;> rfl

/-- Sums on 32 bits. -/
theorem add32 (x y : BitVec 32) : ((x.toNat : Int) + (y.toNat : Int)) % 4294967296 = ((x + y).toNat : Int) := by
  rw [BitVec.toNat_add]
  omega
theorem shl32 (x : BitVec 32) (k : Nat) : ((x.toNat : Int) * (2 : Int) ^ k) % 4294967296 = ((x <<< k).toNat : Int) := by
  rw [BitVec.toNat_shiftLeft, Nat.shiftLeft_eq]
  have : ((x.toNat : Int) * (2 : Int) ^ k) = ((x.toNat * 2 ^ k : Nat) : Int) := by simp
  rw [this]
  omega
/-- A word out of its bytes, one more. -/
theorem word_byte (x : Nat) (c : UInt8) (h : x < 16777216) : bits .or .u32 ((x : Int) * 256) (c.toNat : Int) = ((x * 256 + c.toNat : Nat) : Int) := by
  have hb := c.toNat_lt
  have h1 : (x : Int) * 256 = (((BitVec.ofNat 32 (x * 256)).toNat : Nat) : Int) := by simp; omega
  have h2 : (c.toNat : Int) = (((BitVec.ofNat 32 c.toNat).toNat : Nat) : Int) := by simp
  rw [h1, h2, bits_or32, BitVec.toNat_or, BitVec.toNat_ofNat, BitVec.toNat_ofNat, Nat.mod_eq_of_lt (show x * 256 < 2 ^ 32 by omega), Nat.mod_eq_of_lt (show c.toNat < 2 ^ 32 by omega)]
  have := Nat.shiftLeft_add_eq_or_of_lt (show c.toNat < 2 ^ 8 from hb) x
  rw [Nat.shiftLeft_eq] at this
  rw [← this]
end Go.FL



namespace Go.FL

/-- The key's block: 64 bytes. -/
def macKey (key : List UInt8) : List UInt8 := if 64 < key.length then shaSum key else key
def macBlock (key : List UInt8) : List UInt8 := macKey key ++ List.replicate (64 - (macKey key).length) 0
def macTurn (key : List UInt8) (by' : UInt8) : List UInt8 := (macBlock key).map (· ^^^ by')
def macSum (key text : List UInt8) : List UInt8 := shaSum (macTurn key 0x5c ++ shaSum (macTurn key 0x36 ++ text))
theorem macKey_le (key : List UInt8) : (macKey key).length ≤ 64 := by
  unfold macKey
  split
  · rw [shaSum_length]; omega
  · omega
theorem macBlock_length (key : List UInt8) : (macBlock key).length = 64 := by
  have := macKey_le key
  simp [macBlock]
  omega
theorem macTurn_length (key : List UInt8) (b : UInt8) : (macTurn key b).length = 64 := by simp [macTurn, macBlock_length]
theorem macSum_length (key text : List UInt8) : (macSum key text).length = 32 := shaSum_length _
/-- A long key is as good as its sum. -/
theorem macKey_sum (key : List UInt8) (h : 64 < key.length) : macBlock (shaSum key) = macBlock key := by
  have h1 : macKey (shaSum key) = macKey key := by
    have h2 : ¬ 64 < (shaSum key).length := by rw [shaSum_length]; omega
    rw [macKey, if_neg h2, macKey, if_pos h]
  rw [macBlock, h1, macBlock]
/-- A short key is as good as that with noughts behind it. -/
theorem macKey_noughts (key : List UInt8) (n : Nat) (h : key.length + n ≤ 64) : macBlock (key ++ List.replicate n 0) = macBlock key := by
  have h1 : macKey (key ++ List.replicate n 0) = key ++ List.replicate n 0 := if_neg (by simp; omega)
  have h2 : macKey key = key := if_neg (by omega)
  rw [macBlock, h1, macBlock, h2, List.append_assoc, List.replicate_append_replicate]
  congr 2
  simp
  omega
theorem macSum_sum (key text : List UInt8) (h : 64 < key.length) : macSum (shaSum key) text = macSum key text := by
  simp only [macSum, macTurn, macKey_sum key h]
theorem macSum_noughts (key text : List UInt8) (n : Nat) (h : key.length + n ≤ 64) : macSum (key ++ List.replicate n 0) text = macSum key text := by
  simp only [macSum, macTurn, macKey_noughts key n h]
/-- The sum that everybody knows. -/
def jefe : List UInt8 := [74, 101, 102, 101]
def wants : List UInt8 := [119, 104, 97, 116, 32, 100, 111, 32, 121, 97, 32, 119, 97, 110, 116, 32, 102, 111, 114, 32, 110, 111, 116, 104, 105, 110, 103, 63]
theorem mac_jefe0 : (macSum jefe wants)[0]? = some 0x5b := by decide +kernel
theorem mac_jefe1 : (macSum jefe wants)[1]? = some 0xdc := by decide +kernel
theorem mac_jefe31 : (macSum jefe wants)[31]? = some 0x43 := by decide +kernel
end Go.FL




namespace Go.FL

/-- A cookie. -/
structure CookD where
  born : Int
  ot : Nat
  pt : Nat
  otsn : Nat
  ptsn : Nat
  rw : Nat
  out : Nat
  in_ : Nat
def CookD.zero : CookD := ⟨0, 0, 0, 0, 0, 0, 0, 0⟩
theorem CookD.ext' {a b : CookD} (h0 : a.born = b.born) (h1 : a.ot = b.ot) (h2 : a.pt = b.pt) (h3 : a.otsn = b.otsn) (h4 : a.ptsn = b.ptsn) (h5 : a.rw = b.rw) (h6 : a.out = b.out) (h7 : a.in_ = b.in_) : a = b := by
  cases a; cases b; simp_all
def CookD.wf (c : CookD) : Prop := (-9223372036854775808 ≤ c.born ∧ c.born < 9223372036854775808) ∧ c.ot < 4294967296 ∧ c.pt < 4294967296 ∧ c.otsn < 4294967296 ∧ c.ptsn < 4294967296 ∧ c.rw < 4294967296 ∧ c.out < 65536 ∧ c.in_ < 65536
def bornN (b : Int) : Nat := (b % 18446744073709551616).toNat
def bornI (n : Nat) : Int := if n < 9223372036854775808 then (n : Int) else (n : Int) - 18446744073709551616
theorem bornN_lt (b : Int) : bornN b < 18446744073709551616 := by unfold bornN; omega
theorem bornI_N (b : Int) (h : -9223372036854775808 ≤ b ∧ b < 9223372036854775808) : bornI (bornN b) = b := by
  unfold bornI bornN
  split <;> omega
theorem bornI_bounds (n : Nat) (h : n < 18446744073709551616) : -9223372036854775808 ≤ bornI n ∧ bornI n < 9223372036854775808 := by
  unfold bornI
  split <;> omega
def CookD.body (c : CookD) : List UInt8 := beBytes 8 (bornN c.born) ++ (beBytes 4 c.ot ++ (beBytes 4 c.pt ++ (beBytes 4 c.otsn ++ (beBytes 4 c.ptsn ++ (beBytes 4 c.rw ++ (beBytes 2 c.out ++ beBytes 2 c.in_))))))
theorem CookD.body_length (c : CookD) : c.body.length = 32 := by simp [CookD.body, beBytes_length]
def cookBytes (key : List UInt8) (c : CookD) : List UInt8 := c.body ++ macSum key c.body
theorem cookBytes_length (key : List UInt8) (c : CookD) : (cookBytes key c).length = 64 := by simp [cookBytes, CookD.body_length, macSum_length]
def cookOf (l : List UInt8) : CookD := ⟨bornI (numAt l 0 8), numAt l 8 4, numAt l 12 4, numAt l 16 4, numAt l 20 4, numAt l 24 4, numAt l 28 2, numAt l 30 2⟩
theorem cookOf_wf (l : List UInt8) : (cookOf l).wf :=
  ⟨bornI_bounds _ (numAt_lt l 0 8), numAt_lt l 8 4, numAt_lt l 12 4, numAt_lt l 16 4, numAt_lt l 20 4, numAt_lt l 24 4, numAt_lt l 28 2, numAt_lt l 30 2⟩
theorem cook_parts (c : CookD) (m : List UInt8) : ∀ (i a n : Nat) (p q : List UInt8) (x : Nat), p ++ (beBytes n x ++ q) = c.body → p.length = a → ((c.body ++ m).drop a).take n = beBytes n x := by
  intro i a n p q x h hp
  rw [← h, List.append_assoc, List.append_assoc]
  exact mid_of p _ _ a n hp (beBytes_length _ _)
theorem cook_at (c : CookD) (m p q : List UInt8) (a n x : Nat) (h : c.body = p ++ (beBytes n x ++ q)) (hp : p.length = a) : ((c.body ++ m).drop a).take n = beBytes n x := by
  rw [h, List.append_assoc, List.append_assoc]
  exact mid_of p _ _ a n hp (beBytes_length _ _)
/-- Each field's own place. -/
theorem cook_places (c : CookD) (m : List UInt8) :
    ((c.body ++ m).drop 0).take 8 = beBytes 8 (bornN c.born) ∧ ((c.body ++ m).drop 8).take 4 = beBytes 4 c.ot ∧ ((c.body ++ m).drop 12).take 4 = beBytes 4 c.pt ∧ ((c.body ++ m).drop 16).take 4 = beBytes 4 c.otsn ∧
    ((c.body ++ m).drop 20).take 4 = beBytes 4 c.ptsn ∧ ((c.body ++ m).drop 24).take 4 = beBytes 4 c.rw ∧ ((c.body ++ m).drop 28).take 2 = beBytes 2 c.out ∧ ((c.body ++ m).drop 30).take 2 = beBytes 2 c.in_ := by
  have e := c.body.eq_nil_or_concat
  clear e
  refine ⟨cook_at c m [] _ 0 8 _ rfl rfl, cook_at c m (beBytes 8 (bornN c.born)) _ 8 4 _ rfl (beBytes_length _ _), ?_, ?_, ?_, ?_, ?_, ?_⟩
  · exact cook_at c m (beBytes 8 (bornN c.born) ++ beBytes 4 c.ot) (beBytes 4 c.otsn ++ (beBytes 4 c.ptsn ++ (beBytes 4 c.rw ++ (beBytes 2 c.out ++ beBytes 2 c.in_)))) 12 4 _ (by simp [CookD.body]) (by simp [beBytes_length])
  · exact cook_at c m (beBytes 8 (bornN c.born) ++ (beBytes 4 c.ot ++ beBytes 4 c.pt)) (beBytes 4 c.ptsn ++ (beBytes 4 c.rw ++ (beBytes 2 c.out ++ beBytes 2 c.in_))) 16 4 _ (by simp [CookD.body]) (by simp [beBytes_length])
  · exact cook_at c m (beBytes 8 (bornN c.born) ++ (beBytes 4 c.ot ++ (beBytes 4 c.pt ++ beBytes 4 c.otsn))) (beBytes 4 c.rw ++ (beBytes 2 c.out ++ beBytes 2 c.in_)) 20 4 _ (by simp [CookD.body]) (by simp [beBytes_length])
  · exact cook_at c m (beBytes 8 (bornN c.born) ++ (beBytes 4 c.ot ++ (beBytes 4 c.pt ++ (beBytes 4 c.otsn ++ beBytes 4 c.ptsn)))) (beBytes 2 c.out ++ beBytes 2 c.in_) 24 4 _ (by simp [CookD.body]) (by simp [beBytes_length])
  · exact cook_at c m (beBytes 8 (bornN c.born) ++ (beBytes 4 c.ot ++ (beBytes 4 c.pt ++ (beBytes 4 c.otsn ++ (beBytes 4 c.ptsn ++ beBytes 4 c.rw))))) (beBytes 2 c.in_) 28 2 _ (by simp [CookD.body]) (by simp [beBytes_length])
  · exact cook_at c m (beBytes 8 (bornN c.born) ++ (beBytes 4 c.ot ++ (beBytes 4 c.pt ++ (beBytes 4 c.otsn ++ (beBytes 4 c.ptsn ++ (beBytes 4 c.rw ++ beBytes 2 c.out)))))) [] 30 2 _ (by simp [CookD.body]) (by simp [beBytes_length])
theorem numAt_piece (l : List UInt8) (a n x : Nat) (h : a + n ≤ l.length) (hx : x < 256 ^ n) (he : (l.drop a).take n = beBytes n x) : numAt l a n = x := by
  rw [numAt, if_pos h, he, beVal_of n x hx]
theorem cook_back (c : CookD) (h : c.wf) (m : List UInt8) : cookOf (c.body ++ m) = c := by
  obtain ⟨h0, h1, h2, h3, h4, h5, h6, h7⟩ := h
  obtain ⟨e0, e1, e2, e3, e4, e5, e6, e7⟩ := cook_places c m
  have hl : 32 ≤ (c.body ++ m).length := by simp [CookD.body_length]
  apply CookD.ext'
  · show bornI (numAt _ 0 8) = c.born
    rw [numAt_piece _ 0 8 _ (by omega) (bornN_lt _) e0, bornI_N _ h0]
  · exact numAt_piece _ 8 4 _ (by omega) h1 e1
  · exact numAt_piece _ 12 4 _ (by omega) h2 e2
  · exact numAt_piece _ 16 4 _ (by omega) h3 e3
  · exact numAt_piece _ 20 4 _ (by omega) h4 e4
  · exact numAt_piece _ 24 4 _ (by omega) h5 e5
  · exact numAt_piece _ 28 2 _ (by omega) h6 e6
  · exact numAt_piece _ 30 2 _ (by omega) h7 e7
def CookD.may (c : CookD) : Prop := 0 ≤ c.born ∧ c.ot ≠ 0 ∧ c.pt ≠ 0 ∧ c.out ≠ 0 ∧ c.in_ ≠ 0
instance (c : CookD) : Decidable c.may := by unfold CookD.may; infer_instance
/-- What a reader tells of bytes: the error's number and the cookie. -/
def cookTells (key l : List UInt8) : Int × CookD :=
  if l.length ≠ 64 then (7, .zero) else if macSum key (l.take 32) ≠ l.drop 32 then (10, .zero) else if (cookOf l).may then (0, cookOf l) else (7, .zero)
theorem cookTells_back (key : List UInt8) (c : CookD) (h : c.wf) : cookTells key (cookBytes key c) = if c.may then (0, c) else (7, .zero) := by
  have h1 : (cookBytes key c).take 32 = c.body := List.take_left' c.body_length
  have h2 : (cookBytes key c).drop 32 = macSum key c.body := List.drop_left' c.body_length
  rw [cookTells, if_neg (by simp [cookBytes_length]), h1, h2, if_neg (by simp), cookBytes, cook_back c h]
theorem beBytes_inj (n x y : Nat) (hx : x < 256 ^ n) (hy : y < 256 ^ n) : beBytes n x = beBytes n y ↔ x = y := by
  constructor
  · intro h
    have := congrArg beVal h
    rwa [beVal_of n x hx, beVal_of n y hy] at this
  · rintro rfl
    rfl
end Go.FL



namespace Go.FL

/-- A chunk: its kind, its flags, its body. -/
structure Chk where
  k : UInt8
  f : UInt8
  b : List UInt8
theorem Chk.ext' {c d : Chk} (h1 : c.k = d.k) (h2 : c.f = d.f) (h3 : c.b = d.b) : c = d := by
  cases c; cases d; simp_all
def Chk.zero : Chk := ⟨0, 0, []⟩
def Chk.head (c : Chk) : List UInt8 := [c.k, c.f] ++ beBytes 2 (4 + c.b.length)
def Chk.raw (c : Chk) : List UInt8 := c.head ++ c.b
def Chk.bytes (c : Chk) : List UInt8 := if 65531 < c.b.length then [] else padded c.raw
theorem Chk.head_length (c : Chk) : c.head.length = 4 := by simp [Chk.head, beBytes_length]
theorem Chk.raw_length (c : Chk) : c.raw.length = 4 + c.b.length := by simp [Chk.raw, Chk.head_length]
theorem Chk.bytes_length (c : Chk) (h : c.b.length ≤ 65531) : c.bytes.length = roundN (4 + c.b.length) := by
  rw [Chk.bytes, if_neg (by omega), padded_length, Chk.raw_length]
theorem Chk.bytes_pos (c : Chk) (h : c.b.length ≤ 65531) : 4 + c.b.length ≤ c.bytes.length ∧ c.bytes.length ≤ 7 + c.b.length ∧ c.bytes.length % 4 = 0 := by
  rw [c.bytes_length h]
  have := roundN_le (4 + c.b.length)
  have := roundN_lt (4 + c.b.length)
  exact ⟨by omega, by omega, roundN_mod _⟩
theorem Chk.bytes_big (c : Chk) (h : 65531 < c.b.length) : c.bytes = [] := by rw [Chk.bytes, if_pos h]

/-- What the length of a chunk says. -/
def chkLen (l : List UInt8) : Nat := beVal ((l.drop 2).take 2)
theorem chkLen_lt (l : List UInt8) : chkLen l < 65536 := by
  have h := beVal_lt ((l.drop 2).take 2)
  have h1 : ((l.drop 2).take 2).length ≤ 2 := List.length_take_le _ _
  exact Nat.lt_of_lt_of_le h (Nat.pow_le_pow_right (by decide) h1)
def chkPad (l : List UInt8) : List UInt8 := (l.drop (chkLen l)).take (roundN (chkLen l) - chkLen l)
/-- Does a chunk stand at the head of these bytes? -/
def chkOk (l : List UInt8) : Bool := decide (4 ≤ l.length ∧ 4 ≤ chkLen l ∧ roundN (chkLen l) ≤ l.length ∧ ∀ b ∈ chkPad l, b = 0)
def chkOf (l : List UInt8) : Chk := ⟨l.getD 0 0, l.getD 1 0, (l.drop 4).take (chkLen l - 4)⟩
/-- How many bytes it has. -/
def chkSize (l : List UInt8) : Nat := roundN (chkLen l)
theorem chkOf_len (l : List UInt8) (h4 : 4 ≤ chkLen l) (hl : chkLen l ≤ l.length) : (chkOf l).b.length = chkLen l - 4 := by
  simp [chkOf]
  omega
theorem chkOf_raw (l : List UInt8) (h4 : 4 ≤ chkLen l) (hl : chkLen l ≤ l.length) : (chkOf l).raw = l.take (chkLen l) := by
  have hb := chkOf_len l h4 hl
  have h2 : beBytes 2 (4 + (chkOf l).b.length) = (l.drop 2).take 2 := by
    rw [hb, show 4 + (chkLen l - 4) = chkLen l by omega]
    exact beBytes_val 2 _ (by simp; omega)
  rw [Chk.raw, Chk.head, h2]
  have h0 : [(chkOf l).k, (chkOf l).f] = l.take 2 := by
    match l, hl with
    | a :: b :: r, _ => rfl
    | [a], h => simp at h; omega
    | [], h => simp at h; omega
  have h6 : l.take 2 ++ (l.drop 2).take 2 = l.take 4 := by rw [← List.take_add]
  have h7 : l.take 4 ++ (l.drop 4).take (chkLen l - 4) = l.take (chkLen l) := by rw [← List.take_add, show 4 + (chkLen l - 4) = chkLen l by omega]
  rw [h0, h6]
  exact h7
theorem pad_all (l : List UInt8) (h : ∀ b ∈ l, b = 0) : l = List.replicate l.length 0 := List.eq_replicate_of_mem h
theorem take_more {α : Type} (l : List α) (n r : Nat) (h : n ≤ r) : l.take r = l.take n ++ (l.drop n).take (r - n) := by
  rw [← List.take_add, show n + (r - n) = r by omega]
/-- What a chunk's bytes are, if its length is within. -/
theorem chkOf_bytes (l : List UInt8) (h4 : 4 ≤ chkLen l) (hl : chkLen l ≤ l.length) : (chkOf l).bytes = l.take (chkLen l) ++ List.replicate (chkSize l - chkLen l) 0 := by
  have hlt := chkLen_lt l
  have hb := chkOf_len l h4 hl
  have hlen : (l.take (chkLen l)).length = chkLen l := by simp; omega
  rw [Chk.bytes, if_neg (by omega), padded, chkOf_raw l h4 hl, hlen]
  rfl
/-- A chunk that is read is the one whose bytes these are. -/
theorem chkOk_bytes (l : List UInt8) (h : chkOk l = true) : (chkOf l).bytes = l.take (chkSize l) ∧ chkSize l ≤ l.length ∧ (chkOf l).b.length ≤ 65531 := by
  simp only [chkOk, decide_eq_true_eq] at h
  obtain ⟨h1, h2, h3, h4⟩ := h
  have hr := roundN_le (chkLen l)
  have hlt := chkLen_lt l
  have hpl : (chkPad l).length = chkSize l - chkLen l := by
    simp only [chkPad, List.length_take, List.length_drop, chkSize]
    omega
  refine ⟨?_, h3, by rw [chkOf_len l h2 (by omega)]; omega⟩
  rw [chkOf_bytes l h2 (by omega), take_more l (chkLen l) (chkSize l) hr]
  congr 1
  have := pad_all _ h4
  rw [hpl] at this
  exact this.symm
/-- The document's way to read. -/
theorem chkOk_ref (l : List UInt8) (h1 : 4 ≤ l.length) (h2 : 4 ≤ chkLen l) (h3 : chkLen l ≤ l.length) : chkOk l = true ↔ (chkOf l).bytes.length ≤ l.length ∧ (chkOf l).bytes = l.take (chkOf l).bytes.length := by
  have hb := chkOf_bytes l h2 h3
  have hr : chkLen l ≤ chkSize l := roundN_le (chkLen l)
  have hlen : (chkOf l).bytes.length = chkSize l := by
    rw [hb]
    simp
    omega
  rw [hlen]
  constructor
  · intro h
    have := chkOk_bytes l h
    exact ⟨this.2.1, this.1⟩
  · rintro ⟨h5, h6⟩
    rw [hb, take_more l (chkLen l) (chkSize l) hr] at h6
    have h7 := List.append_cancel_left h6
    simp only [chkOk, decide_eq_true_eq]
    refine ⟨h1, h2, h5, ?_⟩
    intro b hbm
    have : chkPad l = List.replicate (chkSize l - chkLen l) 0 := h7.symm
    rw [this] at hbm
    exact (List.mem_replicate.1 hbm).2
/-- The head of a chunk's bytes, whatever stands behind. -/
theorem chkLen_head (c : Chk) (m : List UInt8) (h : c.b.length ≤ 65531) : chkLen (c.head ++ m) = 4 + c.b.length := by
  have : ((c.head ++ m).drop 2).take 2 = beBytes 2 (4 + c.b.length) := by
    rw [Chk.head, List.append_assoc]
    exact mid_of [c.k, c.f] _ m 2 2 rfl (beBytes_length _ _)
  rw [chkLen, this]
  exact beVal_of 2 _ (by omega)
theorem Chk.bytes_head (c : Chk) (h : c.b.length ≤ 65531) : c.bytes = c.head ++ (c.b ++ List.replicate (roundN (4 + c.b.length) - (4 + c.b.length)) 0) := by
  rw [Chk.bytes, if_neg (by omega), padded, Chk.raw_length, Chk.raw, List.append_assoc]
/-- A chunk that is written is read, whatever stands behind it. -/
theorem chk_back (c : Chk) (m : List UInt8) (h : c.b.length ≤ 65531) : chkOk (c.bytes ++ m) = true ∧ chkOf (c.bytes ++ m) = c ∧ chkSize (c.bytes ++ m) = c.bytes.length := by
  have hh := c.head_length
  have hlen := c.bytes_length h
  have hp := c.bytes_pos h
  have hbh := c.bytes_head h
  have hl : chkLen (c.bytes ++ m) = 4 + c.b.length := by
    rw [hbh, List.append_assoc]
    exact chkLen_head c _ h
  have hsz : chkSize (c.bytes ++ m) = c.bytes.length := by rw [chkSize, hl, hlen]
  refine ⟨?_, ?_, hsz⟩
  · simp only [chkOk, decide_eq_true_eq]
    refine ⟨by simp; omega, by omega, by rw [hl, ← hlen]; simp, ?_⟩
    have : chkPad (c.bytes ++ m) = List.replicate (roundN (4 + c.b.length) - (4 + c.b.length)) 0 := by
      rw [chkPad, hl, hbh, ← List.append_assoc, List.append_assoc (c.head ++ c.b)]
      exact mid_of (c.head ++ c.b) _ m _ _ (by simp; omega) (by simp)
    rw [this]
    intro b hb
    exact (List.mem_replicate.1 hb).2
  · have hb : (((c.bytes ++ m).drop 4).take (4 + c.b.length - 4)) = c.b := by
      rw [hbh, List.append_assoc, List.append_assoc]
      exact mid_of c.head c.b _ _ _ hh (by omega)
    have h0 : (c.bytes ++ m).getD 0 0 = c.k := by rw [hbh]; rfl
    have h1 : (c.bytes ++ m).getD 1 0 = c.f := by rw [hbh]; rfl
    apply Chk.ext'
    · exact h0
    · exact h1
    · show ((c.bytes ++ m).drop 4).take (chkLen (c.bytes ++ m) - 4) = c.b
      rw [hl, hb]
/-- A chunk that is cut is none. -/
theorem chk_cut (c : Chk) (k : Nat) (h : c.b.length ≤ 65531) (hk : k < c.bytes.length) : chkOk (c.bytes.take k) = false := by
  rw [Bool.eq_false_iff]
  intro ht
  simp only [chkOk, decide_eq_true_eq] at ht
  obtain ⟨h1, h2, h3, _⟩ := ht
  have hlen : (c.bytes.take k).length = k := by simp; omega
  rw [hlen] at h1 h3
  have hl : chkLen (c.bytes.take k) = 4 + c.b.length := by
    have e : c.bytes.take k = c.head ++ (c.b ++ List.replicate (roundN (4 + c.b.length) - (4 + c.b.length)) 0).take (k - 4) := by
      rw [c.bytes_head h, List.take_append, c.head_length, List.take_of_length_le (by rw [c.head_length]; omega)]
    rw [e]
    exact chkLen_head c _ h
  rw [hl, ← c.bytes_length h] at h3
  omega
end Go.FL



namespace Go.FL

/-- Data. -/
structure DataD where
  tsn : Nat
  st : Nat
  ssn : Nat
  un : Bool
  fi : Bool
  la : Bool
  b : List UInt8
def DataD.wf (d : DataD) : Prop := d.tsn < 4294967296 ∧ d.st < 65536 ∧ d.ssn < 65536
def bitIf (x : UInt8) (c : Bool) : UInt8 := if c then x else 0
def dataFlags (un fi la : Bool) : UInt8 := bitIf 4 un ||| bitIf 2 fi ||| bitIf 1 la
def DataD.body (d : DataD) : List UInt8 := beBytes 4 d.tsn ++ (beBytes 2 d.st ++ (beBytes 2 d.ssn ++ (beBytes 4 0 ++ d.b)))
def DataD.chk (d : DataD) : Chk := ⟨0, dataFlags d.un d.fi d.la, d.body⟩
def dataOf (c : Chk) : DataD := ⟨numAt c.b 0 4, numAt c.b 4 2, numAt c.b 6 2, c.f &&& 4 != 0, c.f &&& 2 != 0, c.f &&& 1 != 0, c.b.drop 12⟩
def DataD.zero : DataD := ⟨0, 0, 0, false, false, false, []⟩
theorem DataD.ext' {a b : DataD} (h1 : a.tsn = b.tsn) (h2 : a.st = b.st) (h3 : a.ssn = b.ssn) (h4 : a.un = b.un) (h5 : a.fi = b.fi) (h6 : a.la = b.la) (h7 : a.b = b.b) : a = b := by
  cases a; cases b; simp_all
theorem DataD.body_length (d : DataD) : d.body.length = 12 + d.b.length := by simp [DataD.body, beBytes_length]; omega
theorem dataFlags_at (un fi la : Bool) : (dataFlags un fi la &&& 4 != 0) = un ∧ (dataFlags un fi la &&& 2 != 0) = fi ∧ (dataFlags un fi la &&& 1 != 0) = la ∧ dataFlags un fi la < 8 := by
  cases un <;> cases fi <;> cases la <;> decide
theorem dataFlags_of : ∀ f : UInt8, f < 8 → dataFlags (f &&& 4 != 0) (f &&& 2 != 0) (f &&& 1 != 0) = f := by
  intro f hf
  have h : ∀ n : Nat, n < 8 → dataFlags (UInt8.ofNat n &&& 4 != 0) (UInt8.ofNat n &&& 2 != 0) (UInt8.ofNat n &&& 1 != 0) = UInt8.ofNat n := by decide
  have h1 := h f.toNat (UInt8.lt_iff_toNat_lt.1 hf)
  rwa [UInt8.ofNat_toNat] at h1
def dataOk (c : Chk) : Prop := 12 < c.b.length ∧ (dataOf c).chk = c
theorem data_back (d : DataD) (h : d.wf) : dataOf d.chk = d := by
  obtain ⟨h1, h2, h3⟩ := h
  have hf := dataFlags_at d.un d.fi d.la
  have e4 : (beBytes 4 d.tsn).length = 4 := beBytes_length _ _
  apply DataD.ext'
  · exact numAt_be [] (beBytes 2 d.st ++ (beBytes 2 d.ssn ++ (beBytes 4 0 ++ d.b))) 0 4 _ rfl h1
  · exact numAt_be (beBytes 4 d.tsn) (beBytes 2 d.ssn ++ (beBytes 4 0 ++ d.b)) 4 2 _ e4 h2
  · show numAt d.body 6 2 = d.ssn
    rw [DataD.body, ← List.append_assoc]
    exact numAt_be _ _ 6 2 _ (by simp [beBytes_length]) h3
  · exact hf.1
  · exact hf.2.1
  · exact hf.2.2.1
  · show d.body.drop 12 = d.b
    rw [DataD.body, ← List.append_assoc, ← List.append_assoc, ← List.append_assoc]
    exact List.drop_left' (by simp [beBytes_length])
theorem data_ok (d : DataD) (h : d.wf) : dataOk d.chk ↔ 0 < d.b.length := by
  unfold dataOk
  rw [data_back d h]
  show 12 < d.body.length ∧ d.chk = d.chk ↔ _
  rw [d.body_length]
  simp

/-- Beginnings. -/
structure InitD where
  tag : Nat
  rwnd : Nat
  out : Nat
  in_ : Nat
  tsn : Nat
  ck : List UInt8
def InitD.zero : InitD := ⟨0, 0, 0, 0, 0, []⟩
theorem InitD.ext' {a b : InitD} (h1 : a.tag = b.tag) (h2 : a.rwnd = b.rwnd) (h3 : a.out = b.out) (h4 : a.in_ = b.in_) (h5 : a.tsn = b.tsn) (h6 : a.ck = b.ck) : a = b := by
  cases a; cases b; simp_all
def InitD.wf (i : InitD) : Prop := i.tag < 4294967296 ∧ i.rwnd < 4294967296 ∧ i.out < 65536 ∧ i.in_ < 65536 ∧ i.tsn < 4294967296
def InitD.head (i : InitD) : List UInt8 := beBytes 4 i.tag ++ (beBytes 4 i.rwnd ++ (beBytes 2 i.out ++ (beBytes 2 i.in_ ++ beBytes 4 i.tsn)))
theorem InitD.head_length (i : InitD) : i.head.length = 16 := by simp [InitD.head, beBytes_length]
def InitD.more (i : InitD) : List UInt8 := i.head ++ (beBytes 2 7 ++ (beBytes 2 (4 + i.ck.length) ++ i.ck))
theorem InitD.more_length (i : InitD) : i.more.length = 20 + i.ck.length := by simp [InitD.more, beBytes_length, InitD.head_length]; omega
def InitD.body (kind : UInt8) (i : InitD) : List UInt8 := if kind = 2 then padded i.more else i.head
def InitD.chk (kind : UInt8) (i : InitD) : Chk := ⟨kind, 0, i.body kind⟩
theorem InitD.body_ge (kind : UInt8) (i : InitD) : 16 ≤ (i.body kind).length := by
  unfold InitD.body
  split
  · rw [padded_length, i.more_length]
    have := roundN_le (20 + i.ck.length)
    omega
  · rw [i.head_length]
    exact Nat.le_refl _
def cutAt (l : List UInt8) (a : Nat) (n : Int) : List UInt8 := if 0 ≤ n ∧ (a : Int) + n ≤ l.length then (l.drop a).take n.toNat else []
def initCk (l : List UInt8) : List UInt8 := cutAt l 20 ((numAt l 18 2 : Int) - 4)
def initOf (c : Chk) : InitD := ⟨numAt c.b 0 4, numAt c.b 4 4, numAt c.b 8 2, numAt c.b 10 2, numAt c.b 12 4, if c.k = 2 then initCk c.b else []⟩
def InitD.may (i : InitD) : Prop := i.tag ≠ 0 ∧ i.out ≠ 0 ∧ i.in_ ≠ 0
def initOk (c : Chk) : Prop := (c.k = 1 ∨ (c.k = 2 ∧ 0 < (initOf c).ck.length)) ∧ (initOf c).may ∧ (initOf c).chk c.k = c
theorem init_head (i : InitD) (h : i.wf) (m : List UInt8) : numAt (i.head ++ m) 0 4 = i.tag ∧ numAt (i.head ++ m) 4 4 = i.rwnd ∧ numAt (i.head ++ m) 8 2 = i.out ∧ numAt (i.head ++ m) 10 2 = i.in_ ∧ numAt (i.head ++ m) 12 4 = i.tsn := by
  obtain ⟨h1, h2, h3, h4, h5⟩ := h
  have e : i.head ++ m = beBytes 4 i.tag ++ (beBytes 4 i.rwnd ++ (beBytes 2 i.out ++ (beBytes 2 i.in_ ++ (beBytes 4 i.tsn ++ m)))) := by simp [InitD.head]
  rw [e]
  refine ⟨numAt_be [] _ 0 4 _ rfl h1, numAt_be _ _ 4 4 _ (beBytes_length _ _) h2, ?_, ?_, ?_⟩
  · rw [← List.append_assoc]
    exact numAt_be _ _ 8 2 _ (by simp [beBytes_length]) h3
  · rw [← List.append_assoc, ← List.append_assoc]
    exact numAt_be _ _ 10 2 _ (by simp [beBytes_length]) h4
  · rw [← List.append_assoc, ← List.append_assoc, ← List.append_assoc]
    exact numAt_be _ _ 12 4 _ (by simp [beBytes_length]) h5
theorem initCk_more (i : InitD) (m : List UInt8) (h : i.ck.length ≤ 65531) : initCk (i.more ++ m) = i.ck := by
  have e : i.more ++ m = (i.head ++ beBytes 2 7) ++ (beBytes 2 (4 + i.ck.length) ++ (i.ck ++ m)) := by simp [InitD.more]
  have hl : (i.head ++ beBytes 2 7).length = 18 := by simp [InitD.head_length, beBytes_length]
  have hn : numAt (i.more ++ m) 18 2 = 4 + i.ck.length := by
    rw [e]
    exact numAt_be _ _ 18 2 _ hl (by omega)
  rw [initCk, hn, show ((4 + i.ck.length : Nat) : Int) - 4 = (i.ck.length : Int) by omega, cutAt, if_pos (by simp [i.more_length]; omega), Int.toNat_natCast, e, ← List.append_assoc]
  exact mid_of _ i.ck m 20 _ (by simp [InitD.head_length, beBytes_length]) rfl
theorem init_back (kind : UInt8) (i : InitD) (h : i.wf) (hc : i.ck.length ≤ 65531) (hk : kind ≠ 2 → i.ck = []) : initOf (i.chk kind) = i := by
  by_cases h2 : kind = 2
  · subst h2
    have e : (i.chk 2).b = i.more ++ List.replicate (roundN i.more.length - i.more.length) 0 := rfl
    have e2 : (i.chk 2).b = i.head ++ ((beBytes 2 7 ++ (beBytes 2 (4 + i.ck.length) ++ i.ck)) ++ List.replicate (roundN i.more.length - i.more.length) 0) := by
      rw [e, InitD.more, List.append_assoc]
    have hh := init_head i h ((beBytes 2 7 ++ (beBytes 2 (4 + i.ck.length) ++ i.ck)) ++ List.replicate (roundN i.more.length - i.more.length) 0)
    rw [← e2] at hh
    apply InitD.ext'
    · exact hh.1
    · exact hh.2.1
    · exact hh.2.2.1
    · exact hh.2.2.2.1
    · exact hh.2.2.2.2
    · show (if (i.chk 2).k = 2 then initCk (i.chk 2).b else []) = i.ck
      rw [if_pos (show (InitD.chk 2 i).k = 2 from rfl), e]
      exact initCk_more i _ hc
  · have e : (i.chk kind).b = i.head ++ [] := by
      show i.body kind = _
      rw [InitD.body, if_neg h2, List.append_nil]
    have hh := init_head i h []
    rw [← e] at hh
    apply InitD.ext'
    · exact hh.1
    · exact hh.2.1
    · exact hh.2.2.1
    · exact hh.2.2.2.1
    · exact hh.2.2.2.2
    · show (if (i.chk kind).k = 2 then initCk (i.chk kind).b else []) = i.ck
      rw [if_neg (show ¬ (i.chk kind).k = 2 from h2), hk h2]

/-- Acknowledgements. -/
structure SackD where
  cum : Nat
  rwnd : Nat
  gaps : List (Nat × Nat)
  dups : List Nat
def SackD.zero : SackD := ⟨0, 0, [], []⟩
def gapBytes (g : Nat × Nat) : List UInt8 := beBytes 2 g.1 ++ beBytes 2 g.2
def gapsBytes (l : List (Nat × Nat)) : List UInt8 := (l.map gapBytes).flatten
theorem gapsBytes_cons (g : Nat × Nat) (l : List (Nat × Nat)) : gapsBytes (g :: l) = gapBytes g ++ gapsBytes l := rfl
theorem gapsBytes_append (l m : List (Nat × Nat)) : gapsBytes (l ++ m) = gapsBytes l ++ gapsBytes m := by simp [gapsBytes]
theorem gapBytes_length (g : Nat × Nat) : (gapBytes g).length = 4 := by simp [gapBytes, beBytes_length]
theorem gapsBytes_length : ∀ l : List (Nat × Nat), (gapsBytes l).length = 4 * l.length
  | [] => rfl
  | g :: l => by rw [gapsBytes_cons, List.length_append, gapBytes_length, gapsBytes_length l, List.length_cons]; omega
def SackD.head (s : SackD) : List UInt8 := beBytes 4 s.cum ++ (beBytes 4 s.rwnd ++ (beBytes 2 s.gaps.length ++ beBytes 2 s.dups.length))
theorem SackD.head_length (s : SackD) : s.head.length = 12 := by simp [SackD.head, beBytes_length]
def SackD.body (s : SackD) : List UInt8 := s.head ++ (gapsBytes s.gaps ++ catBE 4 s.dups)
theorem SackD.body_length (s : SackD) : s.body.length = 12 + 4 * s.gaps.length + 4 * s.dups.length := by
  simp [SackD.body, SackD.head_length, gapsBytes_length, catBE_length]
  omega
def SackD.chk (s : SackD) : Chk := ⟨3, 0, s.body⟩
/-- Forward. -/
structure FwdD where
  cum : Nat
  skips : List (Nat × Nat)
def FwdD.zero : FwdD := ⟨0, []⟩
def FwdD.body (f : FwdD) : List UInt8 := beBytes 4 f.cum ++ gapsBytes f.skips
theorem FwdD.body_length (f : FwdD) : f.body.length = 4 + 4 * f.skips.length := by simp [FwdD.body, beBytes_length, gapsBytes_length]
def FwdD.chk (f : FwdD) : Chk := ⟨192, 0, f.body⟩
/-- Pairs at a place. -/
def pairAt (l : List UInt8) (a : Nat) : Nat × Nat := (numAt l a 2, numAt l (a + 2) 2)
def pairsAt (l : List UInt8) (a n : Nat) : List (Nat × Nat) := (List.range n).map fun i => pairAt l (a + 4 * i)
def numsAt (l : List UInt8) (a n : Nat) : List Nat := (List.range n).map fun i => numAt l (a + 4 * i) 4
theorem pairsAt_length (l : List UInt8) (a n : Nat) : (pairsAt l a n).length = n := by simp [pairsAt]
theorem numsAt_length (l : List UInt8) (a n : Nat) : (numsAt l a n).length = n := by simp [numsAt]
theorem pairsAt_succ (l : List UInt8) (a n : Nat) : pairsAt l a (n + 1) = pairsAt l a n ++ [pairAt l (a + 4 * n)] := by simp [pairsAt, List.range_succ]
theorem numsAt_succ (l : List UInt8) (a n : Nat) : numsAt l a (n + 1) = numsAt l a n ++ [numAt l (a + 4 * n) 4] := by simp [numsAt, List.range_succ]
def pairsWf (l : List (Nat × Nat)) : Prop := ∀ g ∈ l, g.1 < 65536 ∧ g.2 < 65536
def numsWf (l : List Nat) : Prop := ∀ x ∈ l, x < 4294967296
theorem pairsAt_of : ∀ (g : List (Nat × Nat)) (p s : List UInt8) (a : Nat), p.length = a → pairsWf g → pairsAt (p ++ (gapsBytes g ++ s)) a g.length = g := by
  intro g
  induction g with
  | nil => intro p s a _ _; rfl
  | cons x g ih =>
    intro p s a hp hw
    obtain ⟨h1, h2⟩ := hw x (by simp)
    have ih' := ih (p ++ gapBytes x) s (a + 4) (by simp [gapBytes_length, hp]) (fun y hy => hw y (by simp [hy]))
    have e : p ++ (gapsBytes (x :: g) ++ s) = p ++ gapBytes x ++ (gapsBytes g ++ s) := by rw [gapsBytes_cons]; simp
    rw [e]
    have e0 : pairAt (p ++ gapBytes x ++ (gapsBytes g ++ s)) a = x := by
      have e1 : p ++ gapBytes x ++ (gapsBytes g ++ s) = p ++ (beBytes 2 x.1 ++ (beBytes 2 x.2 ++ (gapsBytes g ++ s))) := by simp [gapBytes]
      have e2 : p ++ gapBytes x ++ (gapsBytes g ++ s) = (p ++ beBytes 2 x.1) ++ (beBytes 2 x.2 ++ (gapsBytes g ++ s)) := by simp [gapBytes]
      apply Prod.ext
      · show numAt _ a 2 = x.1
        rw [e1]
        exact numAt_be p _ a 2 _ hp h1
      · show numAt _ (a + 2) 2 = x.2
        rw [e2]
        exact numAt_be _ _ (a + 2) 2 _ (by simp [beBytes_length, hp]) h2
    rw [pairsAt, List.length_cons, List.range_succ_eq_map, List.map_cons, List.map_map]
    rw [Nat.mul_zero, Nat.add_zero, e0]
    congr 1
    refine Eq.trans ?_ ih'
    rw [pairsAt]
    apply List.map_congr_left
    intro i _
    show pairAt _ (a + 4 * (i + 1)) = _
    rw [show a + 4 * (i + 1) = a + 4 + 4 * i by omega]
theorem numsAt_of : ∀ (g : List Nat) (p s : List UInt8) (a : Nat), p.length = a → numsWf g → numsAt (p ++ (catBE 4 g ++ s)) a g.length = g := by
  intro g
  induction g with
  | nil => intro p s a _ _; rfl
  | cons x g ih =>
    intro p s a hp hw
    have h1 := hw x (by simp)
    have ih' := ih (p ++ beBytes 4 x) s (a + 4) (by simp [beBytes_length, hp]) (fun y hy => hw y (by simp [hy]))
    have e : p ++ (catBE 4 (x :: g) ++ s) = p ++ beBytes 4 x ++ (catBE 4 g ++ s) := by rw [catBE_cons]; simp
    rw [e]
    have e0 : numAt (p ++ beBytes 4 x ++ (catBE 4 g ++ s)) a 4 = x := by
      rw [List.append_assoc]
      exact numAt_be p _ a 4 _ hp h1
    rw [numsAt, List.length_cons, List.range_succ_eq_map, List.map_cons, List.map_map]
    rw [Nat.mul_zero, Nat.add_zero, e0]
    congr 1
    refine Eq.trans ?_ ih'
    rw [numsAt]
    apply List.map_congr_left
    intro i _
    show numAt _ (a + 4 * (i + 1)) 4 = _
    rw [show a + 4 * (i + 1) = a + 4 + 4 * i by omega]
end Go.FL



namespace Go.FL

def timeN (b : Int) : Nat := (b % 18446744073709551616).toNat
def timeI (n : Nat) : Int := if n < 9223372036854775808 then (n : Int) else (n : Int) - 18446744073709551616
theorem timeN_lt (b : Int) : timeN b < 18446744073709551616 := by unfold timeN; omega
theorem timeI_N (b : Int) (h : -9223372036854775808 ≤ b ∧ b < 9223372036854775808) : timeI (timeN b) = b := by
  unfold timeI timeN
  split <;> omega
theorem timeI_bounds (n : Nat) (h : n < 18446744073709551616) : -9223372036854775808 ≤ timeI n ∧ timeI n < 9223372036854775808 := by
  unfold timeI
  split <;> omega
theorem wrap_time (b : Int) : IntKind.u64.wrap b = (timeN b : Int) := by
  simp only [IntKind.wrap, IntKind.signed, IntKind.bits, timeN]
  simp
  omega
theorem wrap_timeI (n : Nat) (h : n < 18446744073709551616) : IntKind.i64.wrap (n : Int) = timeI n := by
  simp only [IntKind.wrap, IntKind.signed, IntKind.bits, timeI]
  simp
  split <;> omega
def timeBody (a : Int) : List UInt8 := beBytes 2 1 ++ (beBytes 2 12 ++ beBytes 8 (timeN a))
theorem timeBody_length (a : Int) : (timeBody a).length = 12 := by simp [timeBody, beBytes_length]
def timeChk (k : UInt8) (a : Int) : Chk := ⟨k, 0, timeBody a⟩
def cumChk (c : Nat) : Chk := ⟨7, 0, beBytes 4 c⟩
end Go.FL




namespace Go.FL

theorem xor_self_zero (x y : UInt8) (h : x ^^^ y = x) : y = 0 := by
  have h2 : x ^^^ (x ^^^ y) = x ^^^ x := by rw [h]
  rw [← UInt8.xor_assoc] at h2
  simpa using h2
theorem cookTells_len (key l : List UInt8) (h : l.length ≠ 64) : cookTells key l = (7, .zero) := by rw [cookTells, if_pos h]
theorem cookTells_turned (key : List UInt8) (c : CookD) (k : Nat) (y : UInt8) (hk1 : 32 ≤ k) (hk2 : k < (cookBytes key c).length) (hy : y ≠ 0) :
    cookTells key ((cookBytes key c).set k ((cookBytes key c)[k] ^^^ y)) = (10, .zero) := by
  have h1 : ((cookBytes key c).set k ((cookBytes key c)[k] ^^^ y)).take 32 = c.body := by
    rw [List.take_set_of_le hk1]
    exact List.take_left' c.body_length
  rw [cookTells, if_neg (by simp [cookBytes_length]), h1, if_pos]
  intro h
  have h2 : (cookBytes key c).drop 32 = macSum key c.body := List.drop_left' c.body_length
  have h3 : ((cookBytes key c).set k ((cookBytes key c)[k] ^^^ y)).drop 32 = (cookBytes key c).drop 32 := by rw [← h, h2]
  have h4 := congrArg (fun l => l[k - 32]?) h3
  simp only [List.getElem?_drop, show 32 + (k - 32) = k by omega, List.getElem?_set_self hk2, List.getElem?_eq_getElem hk2, Option.some.injEq] at h4
  exact hy (xor_self_zero _ _ h4)
theorem bornN_inj {a b : Int} (ha : -9223372036854775808 ≤ a ∧ a < 9223372036854775808) (hb : -9223372036854775808 ≤ b ∧ b < 9223372036854775808) : bornN a = bornN b ↔ a = b := by
  constructor
  · intro h
    rw [← bornI_N a ha, ← bornI_N b hb, h]
  · rintro rfl
    rfl
def cfroms : List Nat := [0, 8, 12, 16, 20, 24, 28, 30, 32]
def cfrom (i : Nat) : Nat := cfroms.getD i 0
def cones (c d : CookD) : List Bool := [decide (c.born = d.born), decide (c.ot = d.ot), decide (c.pt = d.pt), decide (c.otsn = d.otsn), decide (c.ptsn = d.ptsn), decide (c.rw = d.rw), decide (c.out = d.out), decide (c.in_ = d.in_)]
theorem cones_at (c d : CookD) (hc : c.wf) (hd : d.wf) (m m2 : List UInt8) (i : Nat) (hi : i < 8) :
    decide (((c.body ++ m).drop (cfrom i)).take (cfrom (i + 1) - cfrom i) = ((d.body ++ m2).drop (cfrom i)).take (cfrom (i + 1) - cfrom i)) = (cones c d)[i]'hi := by
  obtain ⟨h0, h1, h2, h3, h4, h5, h6, h7⟩ := hc
  obtain ⟨g0, g1, g2, g3, g4, g5, g6, g7⟩ := hd
  obtain ⟨e0, e1, e2, e3, e4, e5, e6, e7⟩ := cook_places c m
  obtain ⟨f0, f1, f2, f3, f4, f5, f6, f7⟩ := cook_places d m2
  have b4 : (256 : Nat) ^ 4 = 4294967296 := by decide
  have b2 : (256 : Nat) ^ 2 = 65536 := by decide
  match i, hi with
  | 0, _ => exact decide_eq_decide.2 (by rw [show ((c.body ++ m).drop (cfrom 0)).take (cfrom (0 + 1) - cfrom 0) = _ from e0, show ((d.body ++ m2).drop (cfrom 0)).take (cfrom (0 + 1) - cfrom 0) = _ from f0, beBytes_inj 8 _ _ (bornN_lt _) (bornN_lt _), bornN_inj h0 g0])
  | 1, _ => exact decide_eq_decide.2 (by rw [show ((c.body ++ m).drop (cfrom 1)).take (cfrom (1 + 1) - cfrom 1) = _ from e1, show ((d.body ++ m2).drop (cfrom 1)).take (cfrom (1 + 1) - cfrom 1) = _ from f1, beBytes_inj 4 _ _ (by omega) (by omega)])
  | 2, _ => exact decide_eq_decide.2 (by rw [show ((c.body ++ m).drop (cfrom 2)).take (cfrom (2 + 1) - cfrom 2) = _ from e2, show ((d.body ++ m2).drop (cfrom 2)).take (cfrom (2 + 1) - cfrom 2) = _ from f2, beBytes_inj 4 _ _ (by omega) (by omega)])
  | 3, _ => exact decide_eq_decide.2 (by rw [show ((c.body ++ m).drop (cfrom 3)).take (cfrom (3 + 1) - cfrom 3) = _ from e3, show ((d.body ++ m2).drop (cfrom 3)).take (cfrom (3 + 1) - cfrom 3) = _ from f3, beBytes_inj 4 _ _ (by omega) (by omega)])
  | 4, _ => exact decide_eq_decide.2 (by rw [show ((c.body ++ m).drop (cfrom 4)).take (cfrom (4 + 1) - cfrom 4) = _ from e4, show ((d.body ++ m2).drop (cfrom 4)).take (cfrom (4 + 1) - cfrom 4) = _ from f4, beBytes_inj 4 _ _ (by omega) (by omega)])
  | 5, _ => exact decide_eq_decide.2 (by rw [show ((c.body ++ m).drop (cfrom 5)).take (cfrom (5 + 1) - cfrom 5) = _ from e5, show ((d.body ++ m2).drop (cfrom 5)).take (cfrom (5 + 1) - cfrom 5) = _ from f5, beBytes_inj 4 _ _ (by omega) (by omega)])
  | 6, _ => exact decide_eq_decide.2 (by rw [show ((c.body ++ m).drop (cfrom 6)).take (cfrom (6 + 1) - cfrom 6) = _ from e6, show ((d.body ++ m2).drop (cfrom 6)).take (cfrom (6 + 1) - cfrom 6) = _ from f6, beBytes_inj 2 _ _ (by omega) (by omega)])
  | 7, _ => exact decide_eq_decide.2 (by rw [show ((c.body ++ m).drop (cfrom 7)).take (cfrom (7 + 1) - cfrom 7) = _ from e7, show ((d.body ++ m2).drop (cfrom 7)).take (cfrom (7 + 1) - cfrom 7) = _ from f7, beBytes_inj 2 _ _ (by omega) (by omega)])
theorem cfrom_le (i : Nat) (hi : i < 8) : cfrom i ≤ cfrom (i + 1) ∧ cfrom (i + 1) ≤ 32 := by
  match i, hi with
  | 0, _ => decide
  | 1, _ => decide
  | 2, _ => decide
  | 3, _ => decide
  | 4, _ => decide
  | 5, _ => decide
  | 6, _ => decide
  | 7, _ => decide
end Go.FL

/- SHA-256 of bytes: words, rounds, blocks, padding. Conditions: none. No program in sight. -/
import Derived.Test.YtjpemfciiakphaaDoorOctMath
namespace Go.FL

def rr (x : BitVec 32) (n : Nat) : BitVec 32 := (x >>> n) ||| (x <<< (32 - n))
def sigA (x : BitVec 32) : BitVec 32 := rr x 7 ^^^ rr x 18 ^^^ x >>> 3
def sigB (x : BitVec 32) : BitVec 32 := rr x 17 ^^^ rr x 19 ^^^ x >>> 10
def sumA (x : BitVec 32) : BitVec 32 := rr x 2 ^^^ rr x 13 ^^^ rr x 22
def sumE (x : BitVec 32) : BitVec 32 := rr x 6 ^^^ rr x 11 ^^^ rr x 25
def shaCh (e f g : BitVec 32) : BitVec 32 := (e &&& f) ||| (~~~ e &&& g)
def shaMaj (a b c : BitVec 32) : BitVec 32 := (a &&& b) ||| (c &&& (a ||| b))

structure Sha where
  a : BitVec 32
  b : BitVec 32
  c : BitVec 32
  d : BitVec 32
  e : BitVec 32
  f : BitVec 32
  g : BitVec 32
  h : BitVec 32

def Sha.list (s : Sha) : List (BitVec 32) := [s.a, s.b, s.c, s.d, s.e, s.f, s.g, s.h]
def shaH : Sha := ⟨0x6a09e667#32, 0xbb67ae85#32, 0x3c6ef372#32, 0xa54ff53a#32, 0x510e527f#32, 0x9b05688c#32, 0x1f83d9ab#32, 0x5be0cd19#32⟩
def shaK : List (BitVec 32) := [
  0x428a2f98#32, 0x71374491#32, 0xb5c0fbcf#32, 0xe9b5dba5#32, 0x3956c25b#32, 0x59f111f1#32, 0x923f82a4#32, 0xab1c5ed5#32,
  0xd807aa98#32, 0x12835b01#32, 0x243185be#32, 0x550c7dc3#32, 0x72be5d74#32, 0x80deb1fe#32, 0x9bdc06a7#32, 0xc19bf174#32,
  0xe49b69c1#32, 0xefbe4786#32, 0x0fc19dc6#32, 0x240ca1cc#32, 0x2de92c6f#32, 0x4a7484aa#32, 0x5cb0a9dc#32, 0x76f988da#32,
  0x983e5152#32, 0xa831c66d#32, 0xb00327c8#32, 0xbf597fc7#32, 0xc6e00bf3#32, 0xd5a79147#32, 0x06ca6351#32, 0x14292967#32,
  0x27b70a85#32, 0x2e1b2138#32, 0x4d2c6dfc#32, 0x53380d13#32, 0x650a7354#32, 0x766a0abb#32, 0x81c2c92e#32, 0x92722c85#32,
  0xa2bfe8a1#32, 0xa81a664b#32, 0xc24b8b70#32, 0xc76c51a3#32, 0xd192e819#32, 0xd6990624#32, 0xf40e3585#32, 0x106aa070#32,
  0x19a4c116#32, 0x1e376c08#32, 0x2748774c#32, 0x34b0bcb5#32, 0x391c0cb3#32, 0x4ed8aa4a#32, 0x5b9cca4f#32, 0x682e6ff3#32,
  0x748f82ee#32, 0x78a5636f#32, 0x84c87814#32, 0x8cc70208#32, 0x90befffa#32, 0xa4506ceb#32, 0xbef9a3f7#32, 0xc67178f2#32]

/-- The words of a block, the first t of them. -/
def shaWord (l : List UInt8) (t : Nat) : BitVec 32 := BitVec.ofNat 32 (beVal ((l.drop (4 * t)).take 4))
def shaMix (ws : List (BitVec 32)) : BitVec 32 := ws.getD (ws.length - 16) 0#32 + sigA (ws.getD (ws.length - 15) 0#32) + ws.getD (ws.length - 7) 0#32 + sigB (ws.getD (ws.length - 2) 0#32)
def shaMore (l : List UInt8) (ws : List (BitVec 32)) : List (BitVec 32) := ws ++ [if ws.length < 16 then shaWord l ws.length else shaMix ws]
def shaSched (l : List UInt8) : Nat → List (BitVec 32)
  | 0 => []
  | t + 1 => shaMore l (shaSched l t)
theorem shaSched_length (l : List UInt8) : ∀ t, (shaSched l t).length = t
  | 0 => rfl
  | t + 1 => by simp [shaSched, shaMore, shaSched_length l t]
theorem shaSched_low (l : List UInt8) (t : Nat) (h : t < 16) : shaSched l (t + 1) = shaSched l t ++ [shaWord l t] := by
  simp [shaSched, shaMore, shaSched_length, h]
theorem shaSched_high (l : List UInt8) (t : Nat) (h : 16 ≤ t) : shaSched l (t + 1) = shaSched l t ++ [shaMix (shaSched l t)] := by
  simp [shaSched, shaMore, shaSched_length, show ¬ t < 16 by omega]
theorem shaSched_get (l : List UInt8) (t : Nat) : ∀ n, t < n → (shaSched l n).getD t 0#32 = (shaSched l (t + 1)).getD t 0#32
  | 0, h => by omega
  | n + 1, h => by
    by_cases e : t = n
    · rw [e]
    · have h1 : t < n := by omega
      rw [← shaSched_get l t n h1]
      have hl := shaSched_length l n
      simp only [shaSched, shaMore, List.getD_eq_getElem?_getD]
      rw [List.getElem?_append_left (by omega)]

/-- One round. -/
def shaStep (s : Sha) (k w : BitVec 32) : Sha :=
  let p := s.h + sumE s.e + shaCh s.e s.f s.g + k + w
  let q := sumA s.a + shaMaj s.a s.b s.c
  ⟨p + q, s.a, s.b, s.c, s.d + p, s.e, s.f, s.g⟩
def shaRounds (ws : List (BitVec 32)) (s : Sha) : Nat → Sha
  | 0 => s
  | t + 1 => shaStep (shaRounds ws s t) (shaK.getD t 0#32) (ws.getD t 0#32)
def Sha.add (s r : Sha) : Sha := ⟨s.a + r.a, s.b + r.b, s.c + r.c, s.d + r.d, s.e + r.e, s.f + r.f, s.g + r.g, s.h + r.h⟩
def shaBlock (s : Sha) (l : List UInt8) : Sha := s.add (shaRounds (shaSched l 64) s 64)
def shaChain (l : List UInt8) : Nat → Sha
  | 0 => shaH
  | j + 1 => shaBlock (shaChain l j) ((l.drop (64 * j)).take 64)
theorem shaChain_append (l m : List UInt8) : ∀ j, 64 * j ≤ l.length → shaChain (l ++ m) j = shaChain l j
  | 0, _ => rfl
  | j + 1, h => by
    rw [shaChain, shaChain, shaChain_append l m j (by omega), List.drop_append_of_le_length (by omega), List.take_append_of_le_length (by simp; omega)]

def shaPad (l : List UInt8) : List UInt8 := l ++ (128 :: (List.replicate ((119 - l.length % 64) % 64) 0 ++ beBytes 8 (8 * l.length)))
theorem shaPad_length (l : List UInt8) : (shaPad l).length = 64 * ((l.length + 72) / 64) := by
  simp [shaPad, beBytes_length]
  omega
/-- Byte number i of a sum. -/
def shaByte (s : List (BitVec 32)) (i : Nat) : UInt8 := UInt8.ofNat ((s.getD (i / 4) 0#32).toNat / 2 ^ (24 - 8 * (i % 4)))
def shaBytes (s : Sha) : List UInt8 := (List.range 32).map (shaByte s.list)
theorem shaBytes_length (s : Sha) : (shaBytes s).length = 32 := by simp [shaBytes]
def shaSum (l : List UInt8) : List UInt8 := shaBytes (shaChain (shaPad l) ((l.length + 72) / 64))
theorem shaSum_length (l : List UInt8) : (shaSum l).length = 32 := shaBytes_length _

/-- The document's way of the two mixings. -/
theorem shaCh_xor (e f g : BitVec 32) : (e &&& f) ^^^ ((e ^^^ 0xffffffff#32) &&& g) = shaCh e f g := by
  have h : (0xffffffff#32) = BitVec.allOnes 32 := rfl
  unfold shaCh
  rw [h]
  apply BitVec.eq_of_getLsbD_eq
  intro i hi
  simp only [BitVec.getLsbD_xor, BitVec.getLsbD_and, BitVec.getLsbD_or, BitVec.getLsbD_not, BitVec.getLsbD_allOnes, hi, decide_true]
  cases e.getLsbD i <;> cases f.getLsbD i <;> cases g.getLsbD i <;> rfl
theorem shaMaj_xor (a b c : BitVec 32) : (a &&& b) ^^^ (a &&& c) ^^^ (b &&& c) = shaMaj a b c := by
  unfold shaMaj
  apply BitVec.eq_of_getLsbD_eq
  intro i hi
  simp only [BitVec.getLsbD_xor, BitVec.getLsbD_and, BitVec.getLsbD_or]
  cases a.getLsbD i <;> cases b.getLsbD i <;> cases c.getLsbD i <;> rfl

/-- Sums on 32 bits. -/
theorem add32 (x y : BitVec 32) : ((x.toNat : Int) + (y.toNat : Int)) % 4294967296 = ((x + y).toNat : Int) := by
  rw [BitVec.toNat_add]
  omega
theorem shl32 (x : BitVec 32) (k : Nat) : ((x.toNat : Int) * (2 : Int) ^ k) % 4294967296 = ((x <<< k).toNat : Int) := by
  rw [BitVec.toNat_shiftLeft, Nat.shiftLeft_eq]
  have : ((x.toNat : Int) * (2 : Int) ^ k) = ((x.toNat * 2 ^ k : Nat) : Int) := by simp
  rw [this]
  omega
/-- A word out of its bytes, one more. -/
theorem word_byte (x : Nat) (c : UInt8) (h : x < 16777216) : bits .or .u32 ((x : Int) * 256) (c.toNat : Int) = ((x * 256 + c.toNat : Nat) : Int) := by
  have hb := c.toNat_lt
  have h1 : (x : Int) * 256 = (((BitVec.ofNat 32 (x * 256)).toNat : Nat) : Int) := by simp; omega
  have h2 : (c.toNat : Int) = (((BitVec.ofNat 32 c.toNat).toNat : Nat) : Int) := by simp
  rw [h1, h2, bits_or32, BitVec.toNat_or, BitVec.toNat_ofNat, BitVec.toNat_ofNat, Nat.mod_eq_of_lt (show x * 256 < 2 ^ 32 by omega), Nat.mod_eq_of_lt (show c.toNat < 2 ^ 32 by omega)]
  have := Nat.shiftLeft_add_eq_or_of_lt (show c.toNat < 2 ^ 8 from hb) x
  rw [Nat.shiftLeft_eq] at this
  rw [← this]
end Go.FL

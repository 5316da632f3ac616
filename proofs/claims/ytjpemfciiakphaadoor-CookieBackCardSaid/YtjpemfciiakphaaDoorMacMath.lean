/- HMAC over SHA-256 of bytes. Conditions: none. No program in sight. -/
import Derived.Test.YtjpemfciiakphaaDoorShaMath
namespace Go.FL
/-- The key's block: 64 bytes. -/
def macKey (key : List UInt8) : List UInt8 := if 64 < key.length then shaSum key else key
def macBlock (key : List UInt8) : List UInt8 := macKey key ++ List.replicate (64 - (macKey key).length) 0
def macTurn (key : List UInt8) (by' : UInt8) : List UInt8 := (macBlock key).map (· ^^^ by')
def macSum (key text : List UInt8) : List UInt8 := shaSum (macTurn key 0x5c ++ shaSum (macTurn key 0x36 ++ text))
theorem macKey_le (key : List UInt8) : (macKey key).length ≤ 64 := by
  unfold macKey
  split
  · rw [shaSum_length]; omega
  · omega
theorem macBlock_length (key : List UInt8) : (macBlock key).length = 64 := by
  have := macKey_le key
  simp [macBlock]
  omega
theorem macTurn_length (key : List UInt8) (b : UInt8) : (macTurn key b).length = 64 := by simp [macTurn, macBlock_length]
theorem macSum_length (key text : List UInt8) : (macSum key text).length = 32 := shaSum_length _
/-- A long key is as good as its sum. -/
theorem macKey_sum (key : List UInt8) (h : 64 < key.length) : macBlock (shaSum key) = macBlock key := by
  have h1 : macKey (shaSum key) = macKey key := by
    have h2 : ¬ 64 < (shaSum key).length := by rw [shaSum_length]; omega
    rw [macKey, if_neg h2, macKey, if_pos h]
  rw [macBlock, h1, macBlock]
/-- A short key is as good as that with noughts behind it. -/
theorem macKey_noughts (key : List UInt8) (n : Nat) (h : key.length + n ≤ 64) : macBlock (key ++ List.replicate n 0) = macBlock key := by
  have h1 : macKey (key ++ List.replicate n 0) = key ++ List.replicate n 0 := if_neg (by simp; omega)
  have h2 : macKey key = key := if_neg (by omega)
  rw [macBlock, h1, macBlock, h2, List.append_assoc, List.replicate_append_replicate]
  congr 2
  simp
  omega
theorem macSum_sum (key text : List UInt8) (h : 64 < key.length) : macSum (shaSum key) text = macSum key text := by
  simp only [macSum, macTurn, macKey_sum key h]
theorem macSum_noughts (key text : List UInt8) (n : Nat) (h : key.length + n ≤ 64) : macSum (key ++ List.replicate n 0) text = macSum key text := by
  simp only [macSum, macTurn, macKey_noughts key n h]
/-- The sum that everybody knows. -/
def jefe : List UInt8 := [74, 101, 102, 101]
def wants : List UInt8 := [119, 104, 97, 116, 32, 100, 111, 32, 121, 97, 32, 119, 97, 110, 116, 32, 102, 111, 114, 32, 110, 111, 116, 104, 105, 110, 103, 63]
theorem mac_jefe0 : (macSum jefe wants)[0]? = some 0x5b := by decide +kernel
theorem mac_jefe1 : (macSum jefe wants)[1]? = some 0xdc := by decide +kernel
theorem mac_jefe31 : (macSum jefe wants)[31]? = some 0x43 := by decide +kernel
end Go.FL

/- Go's operations on 32 bits as bit vectors. Conditions: none. No program in sight. -/
import Derived.WalkKit
namespace Go.FL

theorem wrap_u32_lt (n : Nat) (h : n < 4294967296) : IntKind.u32.wrap (n : Int) = (n : Int) := by
  rw [IntKind.wrap_u32]; omega

theorem ofInt_toNat (x : BitVec 32) : BitVec.ofInt 32 (x.toNat : Int) = x := by simp

theorem bits_xor32 (x y : BitVec 32) : bits .xor .u32 (x.toNat : Int) (y.toNat : Int) = ((x ^^^ y).toNat : Int) := by
  show IntKind.u32.wrap (((BitVec.ofInt 32 (x.toNat : Int)) ^^^ (BitVec.ofInt 32 (y.toNat : Int))).toNat : Int) = _
  rw [ofInt_toNat, ofInt_toNat]
  exact wrap_u32_lt _ (x ^^^ y).isLt
theorem bits_and32 (x y : BitVec 32) : bits .and .u32 (x.toNat : Int) (y.toNat : Int) = ((x &&& y).toNat : Int) := by
  show IntKind.u32.wrap (((BitVec.ofInt 32 (x.toNat : Int)) &&& (BitVec.ofInt 32 (y.toNat : Int))).toNat : Int) = _
  rw [ofInt_toNat, ofInt_toNat]
  exact wrap_u32_lt _ (x &&& y).isLt
theorem bits_or32 (x y : BitVec 32) : bits .or .u32 (x.toNat : Int) (y.toNat : Int) = ((x ||| y).toNat : Int) := by
  show IntKind.u32.wrap (((BitVec.ofInt 32 (x.toNat : Int)) ||| (BitVec.ofInt 32 (y.toNat : Int))).toNat : Int) = _
  rw [ofInt_toNat, ofInt_toNat]
  exact wrap_u32_lt _ (x ||| y).isLt
theorem not32 (x : BitVec 32) : bits .xor .u32 IntKind.u32.max (x.toNat : Int) = ((~~~ x).toNat : Int) := by
  have h : IntKind.u32.max = (((BitVec.allOnes 32).toNat : Nat) : Int) := by decide
  rw [h, bits_xor32]
  have : BitVec.allOnes 32 ^^^ x = ~~~ x := by
    apply BitVec.eq_of_getLsbD_eq
    intro i hi
    rw [BitVec.getLsbD_xor, BitVec.getLsbD_not, BitVec.getLsbD_allOnes]
    simp [-BitVec.getLsbD_eq_getElem, hi]
  rw [this]
theorem shr32 (x : BitVec 32) (k : Nat) : (x.toNat : Int) / (2 : Int) ^ k = ((x >>> k).toNat : Int) := by
  simp [BitVec.toNat_ushiftRight, Nat.shiftRight_eq_div_pow]
theorem and1_u32 (n : Nat) (h : n < 4294967296) : bits .and .u32 (n : Int) 1 = ((n % 2 : Nat) : Int) := by
  have h1 : (1 : Int) = (((1#32).toNat : Nat) : Int) := rfl
  have h2 : (n : Int) = (((BitVec.ofNat 32 n).toNat : Nat) : Int) := by simp; omega
  rw [h1, h2, bits_and32, BitVec.toNat_and, show (1#32).toNat = 1 from rfl, Nat.and_one_is_mod, BitVec.toNat_ofNat, Nat.mod_eq_of_lt h]
theorem half32 (x : BitVec 32) : (x.toNat : Int) / (2 : Int) = ((x >>> 1).toNat : Int) := by
  have := shr32 x 1
  simpa using this
theorem u32_of (a : Int) (h : (Lit.int .u32 a).wf = true) : ∃ s : BitVec 32, a = (s.toNat : Int) := by
  simp [Lit.wf, IntKind.min, IntKind.max, IntKind.signed, IntKind.bits] at h
  refine ⟨BitVec.ofNat 32 a.toNat, ?_⟩
  simp
  omega
theorem wrap_u8_lt (n : Nat) (h : n < 256) : IntKind.u8.wrap (n : Int) = (n : Int) := by
  rw [IntKind.wrap_u8]; omega
theorem ofInt_byte (x : UInt8) : BitVec.ofInt 8 (x.toNat : Int) = x.toBitVec := by
  rw [BitVec.ofInt_natCast]
  exact BitVec.ofNat_toNat 8 x.toBitVec
theorem bits_xor8 (x y : UInt8) : bits .xor .u8 (x.toNat : Int) (y.toNat : Int) = ((x ^^^ y).toNat : Int) := by
  show IntKind.u8.wrap (((BitVec.ofInt 8 (x.toNat : Int)) ^^^ (BitVec.ofInt 8 (y.toNat : Int))).toNat : Int) = _
  rw [ofInt_byte, ofInt_byte]
  exact wrap_u8_lt _ (x.toBitVec ^^^ y.toBitVec).isLt
theorem bits_or8 (x y : UInt8) : bits .or .u8 (x.toNat : Int) (y.toNat : Int) = ((x ||| y).toNat : Int) := by
  show IntKind.u8.wrap (((BitVec.ofInt 8 (x.toNat : Int)) ||| (BitVec.ofInt 8 (y.toNat : Int))).toNat : Int) = _
  rw [ofInt_byte, ofInt_byte]
  exact wrap_u8_lt _ (x.toBitVec ||| y.toBitVec).isLt
theorem bits_and8 (x y : UInt8) : bits .and .u8 (x.toNat : Int) (y.toNat : Int) = ((x &&& y).toNat : Int) := by
  show IntKind.u8.wrap (((BitVec.ofInt 8 (x.toNat : Int)) &&& (BitVec.ofInt 8 (y.toNat : Int))).toNat : Int) = _
  rw [ofInt_byte, ofInt_byte]
  exact wrap_u8_lt _ (x.toBitVec &&& y.toBitVec).isLt
theorem u8_of (a : Int) (h : (Lit.int .u8 a).wf = true) : ∃ s : UInt8, a = (s.toNat : Int) := by
  simp [Lit.wf, IntKind.min, IntKind.max, IntKind.signed, IntKind.bits] at h
  refine ⟨UInt8.ofNat a.toNat, ?_⟩
  simp [UInt8.toNat_ofNat']
  omega
theorem or_zero (x y : UInt8) : x ||| y = 0 ↔ x = 0 ∧ y = 0 := by
  constructor
  · intro h
    have hb : x.toBitVec ||| y.toBitVec = 0#8 := congrArg UInt8.toBitVec h
    constructor
    · apply UInt8.toBitVec_inj.1
      apply BitVec.eq_of_getLsbD_eq
      intro i hi
      have := congrArg (fun b : BitVec 8 => b.getLsbD i) hb
      simp [-BitVec.getLsbD_eq_getElem] at this
      simp [-BitVec.getLsbD_eq_getElem, this.1]
    · apply UInt8.toBitVec_inj.1
      apply BitVec.eq_of_getLsbD_eq
      intro i hi
      have := congrArg (fun b : BitVec 8 => b.getLsbD i) hb
      simp [-BitVec.getLsbD_eq_getElem] at this
      simp [-BitVec.getLsbD_eq_getElem, this.2]
  · rintro ⟨rfl, rfl⟩; rfl
theorem xor_zero8 (x y : UInt8) : x ^^^ y = 0 ↔ x = y := by
  constructor
  · intro h
    have : (x ^^^ y) ^^^ y = 0 ^^^ y := by rw [h]
    rw [UInt8.xor_assoc] at this
    simpa using this
  · rintro rfl; simp
end Go.FL

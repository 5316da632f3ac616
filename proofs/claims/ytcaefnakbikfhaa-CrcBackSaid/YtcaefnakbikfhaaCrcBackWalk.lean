/- CrcBack: the walk of the law, and of its helper behind. Conditions: none but what the row reads. -/
import Derived.Test.YtcaefnakbikfhaaCrcWorks
import Derived.Test.YtcaefnakbikfhaaBits
namespace Go.Proofs.Ytcaefnakbikfhaa
open Go.RowKit Go.FL

/-- The register, so many bits taken back. -/
def unreg (f : Nat → Bool) : Nat → BitVec 32 → BitVec 32
  | 0, x => x
  | n + 1, x => unreg f n (crcBack x ^^^ b2v (f n))

theorem xor_back (a b : BitVec 32) : (a ^^^ b) ^^^ b = a := by rw [BitVec.xor_assoc]; simp

theorem regAt_unreg (f : Nat → Bool) : ∀ (n : Nat) (x : BitVec 32), regAt f (unreg f n x) n = x := by
  intro n
  induction n with
  | zero => intro x; rfl
  | succ n ih =>
    intro x
    show crcStep (regAt f (unreg f n (crcBack x ^^^ b2v (f n))) n ^^^ b2v (f n)) = x
    rw [ih, xor_back, crcStep_back]
theorem unreg_regAt (f : Nat → Bool) : ∀ (n : Nat) (x : BitVec 32), unreg f n (regAt f x n) = x := by
  intro n
  induction n with
  | zero => intro x; rfl
  | succ n ih =>
    intro x
    show unreg f n (crcBack (crcStep (regAt f x n ^^^ b2v (f n))) ^^^ b2v (f n)) = x
    rw [crcBack_step, xor_back, ih]

def behindOf (s : BitVec 32) (l : List UInt8) : BitVec 32 := ~~~ unreg (bitAt l) (8 * l.length) (~~~ s)
theorem back_ahead (s : BitVec 32) (l : List UInt8) : crcExt (behindOf s l) l = s := by
  unfold crcExt behindOf
  rw [BitVec.not_not, crcReg_all_bits, regAt_unreg, BitVec.not_not]
theorem back_behind (s : BitVec 32) (l : List UInt8) : behindOf (crcExt s l) l = s := by
  unfold crcExt behindOf
  rw [BitVec.not_not, crcReg_all_bits, unreg_regAt, BitVec.not_not]

theorem msb_bit (r : BitVec 32) : (r.toNat : Int) / 2147483648 = ((b2v (r.getLsbD 31)).toNat : Int) := by
  have h : r.getLsbD 31 = decide (r.toNat / 2 ^ 31 % 2 = 1) := by
    rw [BitVec.getLsbD, Nat.testBit_eq_decide_div_mod_eq]
  have hr := r.isLt
  have h2 : r.toNat / 2147483648 < 2 := by omega
  have h1 : r.toNat / 2 ^ 31 % 2 = r.toNat / 2147483648 := by
    show r.toNat / 2147483648 % 2 = _
    omega
  rw [h, h1]
  have hc : r.toNat / 2147483648 = 0 ∨ r.toNat / 2147483648 = 1 := by omega
  rcases hc with hc | hc
  · rw [hc]
    show _ = ((0 : Nat) : Int)
    omega
  · rw [hc]
    show _ = ((1 : Nat) : Int)
    omega
theorem and1_u8 (n : Nat) (h : n < 256) : bits .and .u8 (n : Int) 1 = ((n % 2 : Nat) : Int) := by
  have h1 : (1 : Int) = (((1 : UInt8).toNat : Nat) : Int) := rfl
  have h2 : (n : Int) = (((UInt8.ofNat n).toNat : Nat) : Int) := by rw [UInt8.toNat_ofNat']; omega
  rw [h1, h2, bits_and8, UInt8.toNat_and, show (1 : UInt8).toNat = 1 from rfl, Nat.and_one_is_mod, UInt8.toNat_ofNat', Nat.mod_eq_of_lt (show n < 2 ^ 8 from h)]
theorem byte_bit (c : UInt8) (j : Nat) : bits .and .u8 ((c.toNat : Int) / 2 ^ j) 1 % 4294967296 = ((b2v (c.toNat.testBit j)).toNat : Int) := by
  have h1 : (c.toNat : Int) / 2 ^ j = ((c.toNat / 2 ^ j : Nat) : Int) := by simp
  have hd : c.toNat / 2 ^ j < 256 := Nat.lt_of_le_of_lt (Nat.div_le_self _ _) c.toNat_lt
  rw [h1, and1_u8 _ hd, Nat.testBit_eq_decide_div_mod_eq]
  rcases Nat.mod_two_eq_zero_or_one (c.toNat / 2 ^ j) with h | h <;> rw [h] <;> rfl
theorem twice32 (z : BitVec 32) : (z.toNat : Int) * (2 : Int) % (4294967296 : Int) = ((z <<< 1).toNat : Int) := by
  rw [BitVec.toNat_shiftLeft, Nat.shiftLeft_eq]
  simp
theorem back_bits (z : BitVec 32) (a b : Bool) : (z <<< 1) ||| (b2v a ^^^ b2v b) = ((z <<< 1) ||| b2v a) ^^^ b2v b := by
  apply BitVec.eq_of_getLsbD_eq
  intro i hi
  simp only [BitVec.getLsbD_or, BitVec.getLsbD_xor]
  rcases Nat.eq_zero_or_pos i with rfl | hp
  · rw [shl_low]
    simp
  · have h0 : ∀ t, (b2v t).getLsbD i = false := by
      intro t
      unfold b2v
      cases t
      · simp
      · simp [-BitVec.getLsbD_eq_getElem, BitVec.getLsbD_one]; omega
    rw [h0, h0]
    simp
theorem back_one (r : BitVec 32) (c : UInt8) (j : Nat) (h : ((r.toNat : Int) / 2147483648 == 1) = true) :
    bits .or .u32 (bits .xor .u32 (r.toNat : Int) 2197175160 * 2 % 4294967296) (bits .xor .u32 ((r.toNat : Int) / 2147483648) (bits .and .u8 ((c.toNat : Int) / 2 ^ j) 1 % 4294967296)) = ((crcBack r ^^^ b2v (c.toNat.testBit j)).toNat : Int) := by
  have h31 : r.getLsbD 31 = true := by
    rw [msb_bit] at h
    cases hb : r.getLsbD 31
    · rw [hb] at h; exact absurd h (by decide)
    · rfl
  have h1 : (2197175160 : Int) = ((crcPoly.toNat : Nat) : Int) := rfl
  rw [h1, bits_xor32, twice32, msb_bit, byte_bit, bits_xor32, bits_or32, back_bits]
  unfold crcBack
  rw [h31, if_pos rfl]
  rfl
theorem back_nil (r : BitVec 32) (c : UInt8) (j : Nat) (h : ((r.toNat : Int) / 2147483648 == 1) = false) :
    bits .or .u32 ((r.toNat : Int) * 2 % 4294967296) (bits .xor .u32 ((r.toNat : Int) / 2147483648) (bits .and .u8 ((c.toNat : Int) / 2 ^ j) 1 % 4294967296)) = ((crcBack r ^^^ b2v (c.toNat.testBit j)).toNat : Int) := by
  have h31 : r.getLsbD 31 = false := by
    rw [msb_bit] at h
    cases hb : r.getLsbD 31
    · rfl
    · rw [hb] at h; exact absurd h (by decide)
  rw [twice32, msb_bit, byte_bit, bits_xor32, bits_or32, back_bits]
  unfold crcBack
  rw [h31, if_neg (by simp)]
  simp [b2v]
theorem bitAt_get (l : List UInt8) (m : Nat) (h : m / 8 < l.length) : bitAt l m = l[m / 8].toNat.testBit (m % 8) := by
  unfold bitAt
  simp [List.getD, h]

set_option maxRecDepth 20000 in
set_option maxHeartbeats 400000 in
theorem behind_any (s : BitVec 32) (v : Value) (l : List UInt8) (w : World) (h : Rd w v l) (hlen : l.length ≤ 4096) :
    Calls Try.prog 15 #[.int .u32 (s.toNat : Int), v] w fun e w' => e = .returned (.int .u32 ((behindOf s l).toNat : Int)) ∧ w = w' := by
  obtain ⟨p, c, rfl, hlc, hcm, hpn, hcell⟩ := h
  unfold maxLen at hcm
  go_enter Try.func15, Try.ntmps15
  go_wp2
  go_loop [5, 6] (fun x i => ∃ (k : Nat) (r : BitVec 32), k ≤ 8 * l.length ∧ i = .int .i64 ((k : Int) - 1) ∧ x = .int .u32 (r.toNat : Int) ∧ Hid (unreg (bitAt l) k r = unreg (bitAt l) (8 * l.length) (~~~ s))) (fun _ i => (intOf i + 1).toNat)
  case atStart => exact ⟨8 * l.length, ~~~ s, Nat.le_refl _, by go_num, by rw [not32], rfl⟩
  case round =>
    obtain ⟨k, r, hk, rfl, rfl, hu⟩ := hrel
    cases k with
    | zero =>
      go_wp2
      go_ret
      exact ⟨by show Ending.returned (Value.int .u32 (bits BinOp.xor IntKind.u32 IntKind.u32.max (r.toNat : Int))) = _; rw [not32, behindOf, ← hu.out]; rfl, rfl⟩
    | succ m =>
      have e : (((m + 1 : Nat) : Int) - 1) = (m : Int) := by omega
      rw [e]
      obtain ⟨b, off, rfl, hc⟩ := hcell (m / 8) (by omega)
      have HU := hid (show unreg (bitAt l) m (crcBack r ^^^ b2v (l[m / 8].toNat.testBit (m % 8))) = unreg (bitAt l) (8 * l.length) (~~~ s) by rw [← hu.out, ← bitAt_get l m (by omega)]; rfl)
      clear hcell e hu
      go_wp2
      all_goals
        go_round
        case rel => exact ⟨m, crcBack r ^^^ b2v (l[m / 8].toNat.testBit (m % 8)), by omega, rfl, by first | rw [back_one _ _ _ ‹_›] | rw [back_nil _ _ _ ‹_›], HU.out⟩
        case measure => simp [intOf]

set_option maxRecDepth 20000 in
set_option maxHeartbeats 400000 in
theorem crcBack_walk {w : World} (a : Int) (ha : (Lit.int .u32 a).wf = true) {v : Value} (l : List UInt8) (hv : Rd w v l) :
    Calls Try.prog 7 #[.int .u32 a, v] w fun e w' => e = .returned (.bool true) ∧ Below w.heap.size w w' := by
  obtain ⟨s, rfl⟩ := u32_of a ha
  clear ha
  by_cases hbig : 4096 < l.length
  · obtain ⟨p, c, rfl, hlc, hcm, hpn, hcell⟩ := hv
    unfold maxLen at hcm
    clear hcell
    go_enter Try.func7, Try.ntmps7
    go_wp2_with (go_at_call 9; refine (works_any _).mono ?_; rintro e w' ⟨rfl, hb⟩)
    go_ret
    exact ⟨rfl, hb⟩
  · have HV := hid hv
    obtain ⟨p, c, rfl, hlc, hcm, hpn, hcell⟩ := hv
    unfold maxLen at hcm
    clear hcell
    go_enter Try.func7, Try.ntmps7
    go_wp2_with fail
    refine (behind_any s _ l _ HV.out (by omega)).mono ?_
    rintro e w1 ⟨rfl, rfl⟩
    go_wp2_with fail
    refine (crcExtend_any _ _ l _ HV.out).mono ?_
    rintro e w1 ⟨rfl, rfl⟩
    rw [back_ahead]
    go_wp2_with fail
    refine (crcExtend_any _ _ l _ HV.out).mono ?_
    rintro e w1 ⟨rfl, rfl⟩
    go_wp2_with fail
    refine (behind_any _ _ l _ HV.out (by omega)).mono ?_
    rintro e w1 ⟨rfl, rfl⟩
    rw [back_behind]
    go_wp2_with fail
    refine (works_any _).mono ?_
    rintro e w9 ⟨rfl, hb9⟩
    go_wp2_with fail
    go_ret
    exact ⟨rfl, hb9⟩
end Go.Proofs.Ytcaefnakbikfhaa

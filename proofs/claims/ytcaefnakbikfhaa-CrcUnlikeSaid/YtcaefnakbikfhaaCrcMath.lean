/- Plain facts on the CRC-32C register: no program in sight. Conditions: none. -/
namespace Go.FL

def crcPoly : BitVec 32 := 0x82f63b78#32
/-- One step of the register. -/
def crcStep (x : BitVec 32) : BitVec 32 := if x.getLsbD 0 = true then (x >>> 1) ^^^ crcPoly else x >>> 1
def crcSteps : Nat → BitVec 32 → BitVec 32
  | 0, x => x
  | n + 1, x => crcStep (crcSteps n x)
def ext8 (c : UInt8) : BitVec 32 := BitVec.ofNat 32 c.toNat
def crcByte (x : BitVec 32) (c : UInt8) : BitVec 32 := crcSteps 8 (x ^^^ ext8 c)
def crcReg (x : BitVec 32) (l : List UInt8) : BitVec 32 := l.foldl crcByte x
def crcExt (s : BitVec 32) (l : List UInt8) : BitVec 32 := ~~~ crcReg (~~~ s) l

theorem crcReg_nil (x : BitVec 32) : crcReg x [] = x := rfl
theorem crcReg_snoc (x : BitVec 32) (l : List UInt8) (c : UInt8) : crcReg x (l ++ [c]) = crcByte (crcReg x l) c := by simp [crcReg]
theorem crcReg_append (x : BitVec 32) (l m : List UInt8) : crcReg x (l ++ m) = crcReg (crcReg x l) m := by simp [crcReg]
theorem crcExt_append (s : BitVec 32) (l m : List UInt8) : crcExt (crcExt s l) m = crcExt s (l ++ m) := by
  simp [crcExt, crcReg_append]

theorem xor_cancel (a b p : BitVec 32) : (a ^^^ p) ^^^ (b ^^^ p) = a ^^^ b := by
  apply BitVec.eq_of_getLsbD_eq
  intro i _
  simp only [BitVec.getLsbD_xor]
  cases a.getLsbD i <;> cases b.getLsbD i <;> cases p.getLsbD i <;> rfl

theorem crcStep_xor (x y : BitVec 32) : crcStep (x ^^^ y) = crcStep x ^^^ crcStep y := by
  have hs : (x ^^^ y) >>> 1 = x >>> 1 ^^^ y >>> 1 := by
    apply BitVec.eq_of_getLsbD_eq
    intro i _
    simp
  unfold crcStep
  rw [BitVec.getLsbD_xor, hs]
  generalize x >>> 1 = a
  generalize y >>> 1 = b
  generalize crcPoly = p
  cases x.getLsbD 0 <;> cases y.getLsbD 0 <;> simp [xor_cancel]
  · exact BitVec.xor_assoc a b p
  · apply BitVec.eq_of_getLsbD_eq
    intro i _
    simp only [BitVec.getLsbD_xor]
    cases a.getLsbD i <;> cases b.getLsbD i <;> cases p.getLsbD i <;> rfl

theorem crcSteps_xor (n : Nat) (x y : BitVec 32) : crcSteps n (x ^^^ y) = crcSteps n x ^^^ crcSteps n y := by
  induction n with
  | zero => rfl
  | succ n ih => simp only [crcSteps, ih, crcStep_xor]

theorem crcSteps_add (m n : Nat) (x : BitVec 32) : crcSteps (m + n) x = crcSteps m (crcSteps n x) := by
  induction m with
  | zero => simp [crcSteps]
  | succ m ih => rw [Nat.add_right_comm]; simp only [crcSteps, ih]

theorem shl_low (y : BitVec 32) : (y <<< 1).getLsbD 0 = false := by simp

/-- The step, back. -/
def crcBack (y : BitVec 32) : BitVec 32 := if y.getLsbD 31 = true then ((y ^^^ crcPoly) <<< 1) ||| 1#32 else y <<< 1

theorem crcBack_step (x : BitVec 32) : crcBack (crcStep x) = x := by
  unfold crcStep
  cases h : x.getLsbD 0
  · have h31 : (x >>> 1).getLsbD 31 = false := by simp
    simp only [Bool.false_eq_true, if_false, crcBack, h31]
    apply BitVec.eq_of_getLsbD_eq
    intro i hi
    rcases Nat.eq_zero_or_pos i with rfl | hp
    · rw [h]; exact shl_low _
    · simp [-BitVec.getLsbD_eq_getElem, hi, show ¬ i < 1 by omega, show 1 + (i - 1) = i by omega]
  · have hp31 : crcPoly.getLsbD 31 = true := by decide
    have h31 : (x >>> 1 ^^^ crcPoly).getLsbD 31 = true := by rw [BitVec.getLsbD_xor, hp31]; simp
    have hc : (x >>> 1 ^^^ crcPoly) ^^^ crcPoly = x >>> 1 := by rw [BitVec.xor_assoc]; simp
    simp only [if_true, crcBack, h31, hc]
    apply BitVec.eq_of_getLsbD_eq
    intro i hi
    rcases Nat.eq_zero_or_pos i with rfl | hp
    · rw [h]; simp
    · have h1 : (1#32).getLsbD i = false := by simp [-BitVec.getLsbD_eq_getElem, BitVec.getLsbD_one]; omega
      simp [-BitVec.getLsbD_eq_getElem, hi, h1, show ¬ i < 1 by omega, show 1 + (i - 1) = i by omega]

theorem shl_shr (y : BitVec 32) (h : y.getLsbD 31 = false) : (y <<< 1) >>> 1 = y := by
  apply BitVec.eq_of_getLsbD_eq
  intro i hi
  rcases Nat.lt_or_ge i 31 with h1 | h1
  · simp [-BitVec.getLsbD_eq_getElem, show 1 + i < 32 by omega]
  · obtain rfl : i = 31 := by omega
    rw [h]; simp

theorem shl_or_shr (y : BitVec 32) (h : y.getLsbD 31 = false) : ((y <<< 1) ||| 1#32) >>> 1 = y := by
  have : ((y <<< 1) ||| 1#32) >>> 1 = (y <<< 1) >>> 1 := by
    apply BitVec.eq_of_getLsbD_eq
    intro i hi
    simp [BitVec.getLsbD_one]
  rw [this, shl_shr y h]

theorem crcStep_back (y : BitVec 32) : crcStep (crcBack y) = y := by
  unfold crcBack
  cases h : y.getLsbD 31
  · simp only [Bool.false_eq_true, if_false, crcStep, shl_low, shl_shr y h]
  · have hp31 : crcPoly.getLsbD 31 = true := by decide
    have h31 : (y ^^^ crcPoly).getLsbD 31 = false := by rw [BitVec.getLsbD_xor, hp31, h]; rfl
    have hl : (((y ^^^ crcPoly) <<< 1) ||| 1#32).getLsbD 0 = true := by simp
    simp only [if_true, crcStep, hl, shl_or_shr _ h31]
    rw [BitVec.xor_assoc]; simp

theorem crcStep_inj {x y : BitVec 32} (h : crcStep x = crcStep y) : x = y := by
  rw [← crcBack_step x, ← crcBack_step y, h]

theorem crcSteps_inj (n : Nat) {x y : BitVec 32} (h : crcSteps n x = crcSteps n y) : x = y := by
  induction n with
  | zero => exact h
  | succ n ih => exact ih (crcStep_inj h)

theorem crcStep_zero : crcStep 0#32 = 0#32 := by decide
theorem crcSteps_zero (n : Nat) : crcSteps n 0#32 = 0#32 := by
  induction n with
  | zero => rfl
  | succ n ih => simp only [crcSteps, ih, crcStep_zero]

/-- How two registers differ behind the same bytes. -/
theorem crcReg_xor (l : List UInt8) : ∀ x y : BitVec 32, crcReg x l ^^^ crcReg y l = crcSteps (8 * l.length) (x ^^^ y) := by
  induction l with
  | nil => intro x y; rfl
  | cons c l ih =>
    intro x y
    have h : crcByte x c ^^^ crcByte y c = crcSteps 8 (x ^^^ y) := by
      simp only [crcByte, crcSteps_xor]
      exact xor_cancel _ _ _
    show crcReg (crcByte x c) l ^^^ crcReg (crcByte y c) l = _
    rw [ih, h, ← crcSteps_add]
    rfl

theorem not_xor_not (a b : BitVec 32) : ~~~a ^^^ ~~~b = a ^^^ b := by
  apply BitVec.eq_of_getLsbD_eq
  intro i hi
  simp [hi]

theorem crcExt_xor (s t : BitVec 32) (l : List UInt8) : crcExt s l ^^^ crcExt t l = crcSteps (8 * l.length) (s ^^^ t) := by
  simp only [crcExt, not_xor_not, crcReg_xor]

theorem xor_eq_zero (a b : BitVec 32) : a ^^^ b = 0#32 ↔ a = b := by
  constructor
  · intro h
    have : (a ^^^ b) ^^^ b = 0#32 ^^^ b := by rw [h]
    rw [BitVec.xor_assoc] at this
    simpa using this
  · rintro rfl; simp

theorem crcSteps_eq_zero (n : Nat) (x : BitVec 32) : crcSteps n x = 0#32 ↔ x = 0#32 := by
  constructor
  · intro h
    exact crcSteps_inj n (h.trans (crcSteps_zero n).symm)
  · rintro rfl; exact crcSteps_zero n

/-- A bit as a register. -/
def b2v (b : Bool) : BitVec 32 := if b then 1#32 else 0#32

/-- The register over bits, the bit number n being 'f n'. -/
def regAt (f : Nat → Bool) (x : BitVec 32) : Nat → BitVec 32
  | 0 => x
  | n + 1 => crcStep (regAt f x n ^^^ b2v (f n))

/-- Bit number i of bytes, each byte's lowest one first. -/
def bitAt (l : List UInt8) (i : Nat) : Bool := (l.getD (i / 8) 0).toNat.testBit (i % 8)

theorem getLsbD_ext8 (c : UInt8) (i : Nat) : (ext8 c).getLsbD i = c.toNat.testBit i := by
  unfold ext8
  rw [BitVec.getLsbD_ofNat]
  by_cases h : i < 32
  · simp [h]
  · have : c.toNat < 2 ^ i := Nat.lt_of_lt_of_le (Nat.lt_of_lt_of_le c.toNat_lt (by decide)) (Nat.pow_le_pow_right (by decide) (show 8 ≤ i by omega))
    simp [h, Nat.testBit_lt_two_pow this]

theorem byte_bits (x : BitVec 32) (c : UInt8) (f : Nat → Bool) (hf : ∀ k, k < 8 → f k = c.toNat.testBit k) : ∀ k, k ≤ 8 →
    crcSteps k (x ^^^ ext8 c) = regAt f x k ^^^ (ext8 c >>> k) := by
  intro k
  induction k with
  | zero => intro _; simp [crcSteps, regAt]
  | succ k ih =>
    intro hk
    simp only [crcSteps, regAt, ih (by omega)]
    have hsplit : ext8 c >>> k = b2v (f k) ^^^ ((ext8 c >>> (k + 1)) <<< 1) := by
      apply BitVec.eq_of_getLsbD_eq
      intro i hi
      rcases Nat.eq_zero_or_pos i with rfl | hp
      · simp only [BitVec.getLsbD_xor, BitVec.getLsbD_ushiftRight, getLsbD_ext8, Nat.add_zero]
        rw [← hf k (by omega)]
        unfold b2v
        cases f k <;> simp
      · have h0 : (b2v (f k)).getLsbD i = false := by
          unfold b2v
          cases f k
          · simp
          · simp [-BitVec.getLsbD_eq_getElem, BitVec.getLsbD_one]; omega
        simp [-BitVec.getLsbD_eq_getElem, getLsbD_ext8, h0, hi, show ¬ i < 1 by omega, show k + 1 + (i - 1) = k + i by omega]
    have htop : (ext8 c >>> (k + 1)).getLsbD 31 = false := by
      simp only [BitVec.getLsbD_ushiftRight, getLsbD_ext8]
      apply Nat.testBit_lt_two_pow
      exact Nat.lt_of_lt_of_le c.toNat_lt (Nat.le_trans (by decide : 2 ^ 8 ≤ 2 ^ 31) (Nat.pow_le_pow_right (by decide) (by omega)))
    have hstep : crcStep ((ext8 c >>> (k + 1)) <<< 1) = ext8 c >>> (k + 1) := by
      simp only [crcStep, shl_low, Bool.false_eq_true, if_false, shl_shr _ htop]
    rw [hsplit, ← BitVec.xor_assoc, crcStep_xor, hstep]

theorem regAt_congr {f g : Nat → Bool} (x : BitVec 32) : ∀ n, (∀ i, i < n → f i = g i) → regAt f x n = regAt g x n := by
  intro n
  induction n with
  | zero => intro _; rfl
  | succ n ih => intro h; simp only [regAt, ih (fun i hi => h i (by omega)), h n (by omega)]

theorem regAt_add (f : Nat → Bool) (x : BitVec 32) (m : Nat) : ∀ n, regAt f x (m + n) = regAt (fun i => f (m + i)) (regAt f x m) n := by
  intro n
  induction n with
  | zero => rfl
  | succ n ih => rw [← Nat.add_assoc]; simp only [regAt, ih]

theorem crcByte_bits (x : BitVec 32) (c : UInt8) (f : Nat → Bool) (hf : ∀ k, k < 8 → f k = c.toNat.testBit k) : crcByte x c = regAt f x 8 := by
  unfold crcByte
  rw [byte_bits x c f hf 8 (by omega)]
  have : ext8 c >>> 8 = 0#32 := by
    apply BitVec.eq_of_getLsbD_eq
    intro i _
    simp only [BitVec.getLsbD_ushiftRight, getLsbD_ext8, BitVec.getLsbD_zero]
    apply Nat.testBit_lt_two_pow
    exact Nat.lt_of_lt_of_le c.toNat_lt (Nat.pow_le_pow_right (by decide) (by omega))
  rw [this]
  simp

/-- The register over bytes is that over their bits. -/
theorem crcReg_bits (x : BitVec 32) (l : List UInt8) : ∀ m, m ≤ l.length → crcReg x (l.take m) = regAt (bitAt l) x (8 * m) := by
  intro m
  induction m with
  | zero => intro _; rfl
  | succ m ih =>
    intro h
    have ht : l.take (m + 1) = l.take m ++ [l[m]] := by rw [List.take_succ_eq_append_getElem (by omega)]
    rw [ht, crcReg_snoc, ih (by omega), show 8 * (m + 1) = 8 * m + 8 from rfl, regAt_add]
    apply crcByte_bits
    intro k hk
    unfold bitAt
    rw [show (8 * m + k) / 8 = m by omega, show (8 * m + k) % 8 = k by omega]
    simp [List.getD, List.getElem?_eq_getElem (show m < l.length by omega)]

theorem crcReg_all_bits (x : BitVec 32) (l : List UInt8) : crcReg x l = regAt (bitAt l) x (8 * l.length) := by
  have := crcReg_bits x l l.length (Nat.le_refl _)
  rwa [List.take_length] at this

theorem crcStep_bit (y : BitVec 32) (t : Bool) : crcStep (y ^^^ b2v t) = if (y.getLsbD 0 ^^ t) = true then (y >>> 1) ^^^ crcPoly else y >>> 1 := by
  have hl : (y ^^^ b2v t).getLsbD 0 = (y.getLsbD 0 ^^ t) := by
    rw [BitVec.getLsbD_xor]
    cases t <;> rfl
  have hs : (y ^^^ b2v t) >>> 1 = y >>> 1 := by
    apply BitVec.eq_of_getLsbD_eq
    intro i hi
    simp only [BitVec.getLsbD_ushiftRight, BitVec.getLsbD_xor]
    have : (b2v t).getLsbD (1 + i) = false := by
      unfold b2v; cases t
      · simp
      · simp [-BitVec.getLsbD_eq_getElem, BitVec.getLsbD_one]
    rw [this, Bool.xor_false]
  unfold crcStep
  rw [hl, hs]
theorem lsb_mod (y : BitVec 32) : y.getLsbD 0 = decide (y.toNat % 2 = 1) := by
  rw [BitVec.getLsbD, Nat.testBit_zero]

theorem b2v_xor (a b : Bool) : b2v a ^^^ b2v b = b2v (a ^^ b) := by cases a <;> cases b <;> rfl

theorem regAt_xor (f g : Nat → Bool) (x y : BitVec 32) : ∀ n, regAt f x n ^^^ regAt g y n = regAt (fun i => f i ^^ g i) (x ^^^ y) n := by
  intro n
  induction n with
  | zero => rfl
  | succ n ih =>
    simp only [regAt, ← crcStep_xor, ← ih, ← b2v_xor]
    congr 1
    generalize regAt f x n = a
    generalize regAt g y n = b
    generalize b2v (f n) = c
    generalize b2v (g n) = d
    apply BitVec.eq_of_getLsbD_eq
    intro i _
    simp only [BitVec.getLsbD_xor]
    cases a.getLsbD i <;> cases b.getLsbD i <;> cases c.getLsbD i <;> cases d.getLsbD i <;> rfl

theorem regAt_noughts (f : Nat → Bool) : ∀ n, (∀ i, i < n → f i = false) → regAt f 0#32 n = 0#32 := by
  intro n
  induction n with
  | zero => intro _; rfl
  | succ n ih =>
    intro h
    simp [regAt, ih (fun i hi => h i (by omega)), h n (by omega), b2v, crcStep_zero]

/-- Noughts turn no register to nought. -/
theorem regAt_stays (f : Nat → Bool) (x : BitVec 32) (hx : x ≠ 0#32) : ∀ n, (∀ i, i < n → f i = false) → regAt f x n ≠ 0#32 := by
  intro n
  induction n with
  | zero => intro _; exact hx
  | succ n ih =>
    intro h h0
    have hb : b2v (f n) = 0#32 := by rw [h n (by omega)]; rfl
    simp only [regAt, hb, BitVec.xor_zero] at h0
    exact ih (fun i hi => h i (by omega)) (crcStep_inj (h0.trans crcStep_zero.symm))

theorem lt_two_pow_bits (x : BitVec 32) (k : Nat) (h : x.toNat < 2 ^ k) (i : Nat) (hi : k ≤ i) : x.getLsbD i = false := by
  rw [BitVec.getLsbD]
  exact Nat.testBit_lt_two_pow (Nat.lt_of_lt_of_le h (Nat.pow_le_pow_right (by decide) hi))

/-- A burst of at most 32 bits, the first of them turned, leaves no nought. -/
theorem burst_back (f : Nat → Bool) (x : BitVec 32) : ∀ (j n : Nat), j ≤ n → j ≤ 31 → regAt f x n = 0#32 → (regAt f x (n - j)).toNat < 2 ^ j := by
  intro j
  induction j with
  | zero => intro n _ _ h; simp [h]
  | succ j ih =>
    intro n hn hj h
    have h1 := ih n (by omega) (by omega) h
    have e : n - j = (n - (j + 1)) + 1 := by omega
    rw [e] at h1
    generalize n - (j + 1) = m at *
    simp only [regAt] at h1
    generalize regAt f x m = r at *
    have hb : crcBack (crcStep (r ^^^ b2v (f m))) = r ^^^ b2v (f m) := crcBack_step _
    generalize crcStep (r ^^^ b2v (f m)) = y at *
    have h31 : y.getLsbD 31 = false := lt_two_pow_bits y j h1 31 (by omega)
    simp only [crcBack, h31, Bool.false_eq_true, if_false] at hb
    have hr : r = (y <<< 1) ^^^ b2v (f m) := by
      rw [hb, BitVec.xor_assoc]; simp
    rw [hr]
    apply Nat.lt_pow_two_of_testBit
    intro k hk
    show ((y <<< 1) ^^^ b2v (f m)).getLsbD k = false
    have hy : y.getLsbD (k - 1) = false := lt_two_pow_bits y j h1 (k - 1) (by omega)
    have h0 : (b2v (f m)).getLsbD k = false := by
      unfold b2v; cases f m
      · simp
      · simp [-BitVec.getLsbD_eq_getElem, BitVec.getLsbD_one]; omega
    simp [-BitVec.getLsbD_eq_getElem, h0, hy]

theorem burst (f : Nat → Bool) (first n : Nat) (h0 : ∀ i, i < first → f i = false) (h1 : f first = true) (hf : first < n) (hn : n ≤ first + 32) : regAt f 0#32 n ≠ 0#32 := by
  intro h
  have hb := burst_back f 0#32 (n - (first + 1)) n (by omega) (by omega) h
  rw [show n - (n - (first + 1)) = first + 1 by omega] at hb
  simp only [regAt, regAt_noughts f first h0, h1, b2v, if_true] at hb
  have hp : (crcStep (0#32 ^^^ 1#32)).toNat = 2197175160 := by decide
  rw [hp] at hb
  have : 2 ^ (n - (first + 1)) ≤ 2 ^ 31 := Nat.pow_le_pow_right (by decide) (by omega)
  omega

/-- Two rows of bits whose unlike ones stand within 32 in a row, and which are unlike somewhere, have unlike registers. -/
theorem burst_unlike (f g : Nat → Bool) (x : BitVec 32) (first last n : Nat) (h0 : ∀ i, i < first → f i = g i) (h1 : f first ≠ g first) (h2 : ∀ i, last < i → i < n → f i = g i) (hf : first ≤ last) (hl : last < n) (h32 : last < first + 32) :
    regAt f x n ≠ regAt g x n := by
  intro h
  have hx := regAt_xor f g x x n
  rw [h] at hx
  simp only [BitVec.xor_self] at hx
  have hm := burst (fun i => f i ^^ g i) first (last + 1) (fun i hi => by simp [h0 i hi]) (by cases e : f first <;> cases e' : g first <;> simp_all) (by omega) (by omega)
  have hs := regAt_stays (fun i => f (last + 1 + i) ^^ g (last + 1 + i)) _ hm (n - (last + 1)) (fun i hi => by simp [h2 (last + 1 + i) (by omega) (by omega)])
  have ha := regAt_add (fun i => f i ^^ g i) 0#32 (last + 1) (n - (last + 1))
  rw [show last + 1 + (n - (last + 1)) = n by omega] at ha
  exact hs (ha.symm.trans hx.symm)

/-- A number's bytes, the lowest first. -/
def le4 (n : BitVec 32) : List UInt8 := [UInt8.ofNat n.toNat, UInt8.ofNat (n.toNat / 256), UInt8.ofNat (n.toNat / 65536), UInt8.ofNat (n.toNat / 16777216)]

end Go.FL

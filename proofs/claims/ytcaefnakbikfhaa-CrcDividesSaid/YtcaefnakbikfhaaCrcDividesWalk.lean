/- CrcDivides: the walk of the law. Conditions: none but what the row reads. -/
import Derived.Test.YtcaefnakbikfhaaCrcWorks
import Derived.Test.YtcaefnakbikfhaaBits
import Derived.BigQuiet
import Derived.Deep.QuietTactic
import Derived.RegionTactic
import Derived.BigRegion
namespace Go.Proofs.Ytcaefnakbikfhaa
open Go.RowKit Go.FL

/-- A row of bits, a byte each. -/
def bitRow (g : Nat → Bool) (n : Nat) : List UInt8 := (List.range n).map fun i => bif g i then 1 else 0
theorem bitRow_length (g : Nat → Bool) (n : Nat) : (bitRow g n).length = n := by simp [bitRow]
theorem bitRow_get (g : Nat → Bool) (n i : Nat) (h : i < (bitRow g n).length) : (bitRow g n)[i] = bif g i then 1 else 0 := by simp [bitRow]
theorem bitRow_set (g : Nat → Bool) (n i : Nat) (b : Bool) : (bitRow g n).set i (bif b then 1 else 0) = bitRow (fun j => if j = i then b else g j) n := by
  apply List.ext_getElem
  · simp [bitRow]
  · intro j h1 h2
    rw [List.getElem_set]
    by_cases e : i = j
    · subst e; simp [bitRow]
    · have e' : ¬ j = i := fun h => e h.symm
      simp [bitRow, e, e']
theorem bitRow_congr {g h : Nat → Bool} (n : Nat) (hgh : ∀ i, i < n → g i = h i) : bitRow g n = bitRow h n := by
  apply List.ext_getElem
  · simp [bitRow]
  · intro j h1 h2
    simp [bitRow] at h1
    simp [bitRow, hgh j h1]
theorem bitRow_zero (n : Nat) : List.replicate n (0 : UInt8) = bitRow (fun _ => false) n := by
  apply List.ext_getElem
  · simp [bitRow]
  · intro j h1 h2
    simp [bitRow]

theorem bitAt_none (l : List UInt8) (i : Nat) (h : 8 * l.length ≤ i) : bitAt l i = false := by
  unfold bitAt
  have : l.length ≤ i / 8 := by omega
  simp [List.getD, List.getElem?_eq_none this]
theorem bitAt_get'' (l : List UInt8) (m : Nat) (h : m / 8 < l.length) : bitAt l m = l[m / 8].toNat.testBit (m % 8) := by
  unfold bitAt
  simp [List.getD, h]
theorem and1_u8'' (n : Nat) (h : n < 256) : bits .and .u8 (n : Int) 1 = ((n % 2 : Nat) : Int) := by
  have h1 : (1 : Int) = (((1 : UInt8).toNat : Nat) : Int) := rfl
  have h2 : (n : Int) = (((UInt8.ofNat n).toNat : Nat) : Int) := by rw [UInt8.toNat_ofNat']; omega
  rw [h1, h2, bits_and8, UInt8.toNat_and, show (1 : UInt8).toNat = 1 from rfl, Nat.and_one_is_mod, UInt8.toNat_ofNat', Nat.mod_eq_of_lt (show n < 2 ^ 8 from h)]
theorem bit_byte (c : UInt8) (j : Nat) : bits .and .u8 ((c.toNat : Int) / 2 ^ j) 1 = (((bif c.toNat.testBit j then 1 else 0 : UInt8).toNat : Nat) : Int) := by
  have h1 : (c.toNat : Int) / 2 ^ j = ((c.toNat / 2 ^ j : Nat) : Int) := by simp
  have hd : c.toNat / 2 ^ j < 256 := Nat.lt_of_le_of_lt (Nat.div_le_self _ _) c.toNat_lt
  rw [h1, and1_u8'' _ hd, Nat.testBit_eq_decide_div_mod_eq]
  rcases Nat.mod_two_eq_zero_or_one (c.toNat / 2 ^ j) with h | h <;> rw [h] <;> rfl

/-- The divisor, laid over the bits behind place k, as far as k + m. -/
def polyUpd (k m : Nat) (g : Nat → Bool) (j : Nat) : Bool := g j ^^ (decide (k < j) && decide (j < k + m) && crcPoly.getLsbD (j - k - 1))
theorem polyUpd_zero (k : Nat) (g : Nat → Bool) : polyUpd k 0 g = g := by
  funext j
  unfold polyUpd
  have h : (decide (k < j) && decide (j < k + 0)) = false := by simp; omega
  rw [h]
  simp
theorem polyUpd_one (k : Nat) (g : Nat → Bool) : polyUpd k 1 g = polyUpd k 0 g := by
  funext j
  unfold polyUpd
  have h : (decide (k < j) && decide (j < k + 0)) = false := by simp; omega
  have h' : (decide (k < j) && decide (j < k + 1)) = false := by simp; omega
  rw [h, h']
theorem polyUpd_at (k m : Nat) (g : Nat → Bool) : polyUpd k m g k = g k := by simp [polyUpd]
theorem polyUpd_next (k m : Nat) (g : Nat → Bool) : polyUpd k m g (k + m) = g (k + m) := by simp [polyUpd]
theorem polyUpd_step (k m : Nat) (hm : 0 < m) (g : Nat → Bool) : (fun j => if j = k + m then (g (k + m) ^^ crcPoly.getLsbD (m - 1)) else polyUpd k m g j) = polyUpd k (m + 1) g := by
  funext j
  by_cases e : j = k + m
  · subst e
    simp [polyUpd, hm, show k + m - k - 1 = m - 1 by omega]
  · simp only [e, if_false, polyUpd]
    by_cases h : j < k + m
    · simp [h, show j < k + (m + 1) by omega]
    · simp [h, show ¬ j < k + (m + 1) by omega]

/-- What the bits behind place k are: the text's, and the register's over them. -/
def BitsAt (l : List UInt8) (k : Nat) (g : Nat → Bool) : Prop := ∀ j, k ≤ j → g j = (bitAt l j ^^ (regAt (bitAt l) (~~~ 0#32) k).getLsbD (j - k))
theorem bitsAt_start (l : List UInt8) : BitsAt l 0 (fun j => decide (j < 32) ^^ bitAt l j) := by
  intro j _
  have : (regAt (bitAt l) (~~~ 0#32) 0).getLsbD (j - 0) = decide (j < 32) := by
    show (~~~ 0#32).getLsbD j = _
    rw [BitVec.getLsbD_not]
    simp
  rw [this, Bool.xor_comm]
theorem bitsAt_lsb {l : List UInt8} {k : Nat} {g : Nat → Bool} (h : BitsAt l k g) : g k = ((regAt (bitAt l) (~~~ 0#32) k).getLsbD 0 ^^ bitAt l k) := by
  rw [h k (Nat.le_refl _), Nat.sub_self, Bool.xor_comm]
theorem bitsAt_nil {l : List UInt8} {k : Nat} {g : Nat → Bool} (h : BitsAt l k g) (hk : g k = false) : BitsAt l (k + 1) g := by
  intro j hj
  rw [h j (by omega)]
  have hr : regAt (bitAt l) (~~~ 0#32) (k + 1) = regAt (bitAt l) (~~~ 0#32) k >>> 1 := by
    show crcStep (_ ^^^ b2v (bitAt l k)) = _
    rw [crcStep_bit, ← bitsAt_lsb h, hk, if_neg (by simp)]
  rw [hr, BitVec.getLsbD_ushiftRight, show 1 + (j - (k + 1)) = j - k by omega]
theorem bitsAt_one {l : List UInt8} {k : Nat} {g : Nat → Bool} (h : BitsAt l k g) (hk : g k = true) : BitsAt l (k + 1) (polyUpd k 33 g) := by
  intro j hj
  have hr : regAt (bitAt l) (~~~ 0#32) (k + 1) = (regAt (bitAt l) (~~~ 0#32) k >>> 1) ^^^ crcPoly := by
    show crcStep (_ ^^^ b2v (bitAt l k)) = _
    rw [crcStep_bit, ← bitsAt_lsb h, hk, if_pos rfl]
  rw [hr, BitVec.getLsbD_xor, BitVec.getLsbD_ushiftRight, show 1 + (j - (k + 1)) = j - k by omega]
  unfold polyUpd
  rw [h j (by omega), ← Bool.xor_assoc]
  congr 1
  rw [show j - (k + 1) = j - k - 1 by omega]
  by_cases h1 : j < k + 33
  · simp [-BitVec.getLsbD_eq_getElem, h1, show k < j by omega]
  · rw [BitVec.getLsbD_of_ge crcPoly (j - k - 1) (by omega)]
    simp

theorem div_bits : ∀ m, m < 33 → 0 < m → 4812730177 / 2 ^ (32 - m) % 2 = (bif crcPoly.getLsbD (m - 1) then 1 else 0) := by decide +kernel

theorem and1_u64 (n : Nat) (h : n < 18446744073709551616) : bits .and .u64 (n : Int) 1 = ((n % 2 : Nat) : Int) := by
  show IntKind.u64.wrap (((BitVec.ofInt 64 (n : Int)) &&& (BitVec.ofInt 64 1)).toNat : Int) = _
  have h1 : (BitVec.ofInt 64 (n : Int)) &&& (BitVec.ofInt 64 1) = BitVec.ofNat 64 (n % 2) := by
    apply BitVec.eq_of_toNat_eq
    rw [BitVec.toNat_and, BitVec.ofInt_natCast, BitVec.toNat_ofNat, BitVec.toNat_ofNat, Nat.mod_eq_of_lt (show n < 2 ^ 64 from h), Nat.mod_eq_of_lt (show n % 2 < 2 ^ 64 by omega), ← Nat.and_one_is_mod]
    rfl
  rw [h1, BitVec.toNat_ofNat, Nat.mod_eq_of_lt (show n % 2 < 2 ^ 64 by omega)]
  have : n % 2 < 2 := Nat.mod_lt _ (by decide)
  simp only [IntKind.wrap, IntKind.bits, IntKind.signed]
  simp
  omega
theorem new_bit (b : Bool) (m : Nat) (hm : m < 33) (h0 : 0 < m) :
    bits .xor .u8 (((bif b then 1 else 0 : UInt8).toNat : Nat) : Int) (bits .and .u64 (4812730177 / 2 ^ (32 - m)) 1 % 256) = (((bif (b ^^ crcPoly.getLsbD (m - 1)) then 1 else 0 : UInt8).toNat : Nat) : Int) := by
  have h1 : (4812730177 : Int) / 2 ^ (32 - m) = ((4812730177 / 2 ^ (32 - m) : Nat) : Int) := by simp
  have h2 : 4812730177 / 2 ^ (32 - m) < 18446744073709551616 := Nat.lt_of_le_of_lt (Nat.div_le_self _ _) (by decide)
  rw [h1, and1_u64 _ h2, div_bits m hm h0]
  have h3 : (((bif crcPoly.getLsbD (m - 1) then 1 else 0 : Nat) : Nat) : Int) % 256 = (((bif crcPoly.getLsbD (m - 1) then 1 else 0 : UInt8).toNat : Nat) : Int) := by
    cases crcPoly.getLsbD (m - 1) <;> rfl
  rw [h3, bits_xor8]
  cases b <;> cases crcPoly.getLsbD (m - 1) <;> rfl
theorem sum_bit (r : BitVec 32) (b : Bool) (i : Nat) (hi : i < 32) : bits .or .u32 (r.toNat : Int) (((bif b then 0 else 1 : Nat) : Int) * 2 ^ i % 4294967296) = ((r ||| (b2v (!b) <<< i)).toNat : Int) := by
  have h : ((bif b then 0 else 1 : Nat) : Int) * 2 ^ i % 4294967296 = (((b2v (!b) <<< i).toNat : Nat) : Int) := by
    rw [BitVec.toNat_shiftLeft, Nat.shiftLeft_eq]
    cases b <;> simp [b2v]
  rw [h, bits_or32]

theorem sum_one (r : BitVec 32) (i : Nat) (hi : i < 32) : bits .or .u32 (r.toNat : Int) (2 ^ i % 4294967296) = ((r ||| (b2v (!false) <<< i)).toNat : Int) := by
  have := sum_bit r false i hi
  simpa using this
theorem sum_nil (r : BitVec 32) (i : Nat) (hi : i < 32) : bits .or .u32 (r.toNat : Int) 0 = ((r ||| (b2v (!true) <<< i)).toNat : Int) := by
  have := sum_bit r true i hi
  simpa using this

/-- The sum's bits, so many of them. -/
def sumBits (g : Nat → Bool) (n : Nat) : Nat → BitVec 32
  | 0 => 0#32
  | k + 1 => sumBits g n k ||| (b2v (!g (n + k)) <<< k)
theorem sumBits_get (g : Nat → Bool) (n : Nat) : ∀ (k i : Nat), k ≤ 32 → (sumBits g n k).getLsbD i = (decide (i < k) && !g (n + i)) := by
  intro k
  induction k with
  | zero => intro i _; simp [sumBits]
  | succ k ih =>
    intro i hk
    rw [sumBits, BitVec.getLsbD_or, ih i (by omega), BitVec.getLsbD_shiftLeft]
    by_cases h1 : i < k
    · simp [h1, show i < k + 1 by omega]
    · by_cases h2 : i = k
      · subst h2
        have : (b2v (!g (n + i))).getLsbD 0 = !g (n + i) := by
          unfold b2v
          cases g (n + i) <;> rfl
        simp [-BitVec.getLsbD_eq_getElem, this, show i < 32 by omega]
      · have h3 : (b2v (!g (n + k))).getLsbD (i - k) = false := by
          unfold b2v
          cases g (n + k)
          · simp [-BitVec.getLsbD_eq_getElem, BitVec.getLsbD_one]; omega
          · simp
        simp [-BitVec.getLsbD_eq_getElem, h1, h3, show ¬ i < k + 1 by omega]
theorem sumBits_all {l : List UInt8} {g : Nat → Bool} (h : BitsAt l (8 * l.length) g) : sumBits g (8 * l.length) 32 = crcExt 0#32 l := by
  unfold crcExt
  rw [crcReg_all_bits]
  apply BitVec.eq_of_getLsbD_eq
  intro i hi
  rw [sumBits_get g _ 32 i (Nat.le_refl _), h (8 * l.length + i) (by omega), bitAt_none l _ (by omega), Nat.add_sub_cancel_left, BitVec.getLsbD_not]
  simp

set_option maxRecDepth 20000 in
set_option maxHeartbeats 1000000 in
theorem crcDivides_walk {w : World} {v : Value} (l : List UInt8) (hv : Rd w v l) :
    Calls Try.prog 4 #[v] w fun e w' => e = .returned (.bool true) ∧ Below w.heap.size w w' := by
  have HV := hid hv
  obtain ⟨p, c, rfl, hlc, hcm, hpn, hcell⟩ := hv
  unfold maxLen at hcm
  by_cases hbig : 600 < l.length
  · clear hcell
    go_enter Try.func4, Try.ntmps4
    go_wp2_with (go_at_call 9; refine (works_any _).mono ?_; rintro e w' ⟨rfl, hb⟩)
    go_ret
    exact ⟨rfl, hb⟩
  · have hmk := run_make_u8 (P := Try.prog) 22 5 Try.underlying22 infoU8w .i64 .i64 (8 * l.length + 32) (by omega)
    have ec : ((8 * l.length + 32 : Nat) : Int) = 8 * (l.length : Int) + 32 := by omega
    rw [ec] at hmk
    clear ec
    go_enter Try.func4, Try.ntmps4
    go_wp2_with fail
    go_loopw [5] (fun i wr => ∃ k : Nat, k ≤ 8 * l.length ∧ i = .int .i64 k ∧ Row wr w.heap.size 5 (bitRow (fun j => decide (j < k) && bitAt l j) (8 * l.length + 32)) ∧ Below w.heap.size w wr) (fun i _ => 8 * l.length - (intOf i).toNat)
    case atStart => exact ⟨0, Nat.zero_le _, rfl, by rw [bitRow_congr (h := fun _ => false) _ (by simp), ← bitRow_zero]; exact Row.new w 5 _, (Below.refl _ _).alloc (Nat.le_refl _) _⟩
    case round =>
      clear hmk
      obtain ⟨k, hk, rfl, hrow, hb⟩ := hrel
      by_cases hlt : k < 8 * l.length
      · obtain ⟨b, off, rfl, hc⟩ := hcell (k / 8) (by omega)
        have hcs := cell?_of_below hb hc
        have hcd := hrow.cell k (by rw [bitRow_length]; omega)
        have hcf := hrow.frozen k
        have HR := hid (hrow.store k (bif l[k / 8].toNat.testBit (k % 8) then 1 else 0))
        have HB := hid (hb.setCell (p := ⟨w.heap.size, k, none⟩) (Nat.le_refl _) (.int .u8 (((bif l[k / 8].toNat.testBit (k % 8) then 1 else 0 : UInt8).toNat : Nat) : Int)))
        have hbb := bit_byte l[k / 8] (k % 8)
        have HE := hid (show (bitRow (fun j => decide (j < k) && bitAt l j) (8 * l.length + 32)).set k (bif l[k / 8].toNat.testBit (k % 8) then 1 else 0) = bitRow (fun j => decide (j < k + 1) && bitAt l j) (8 * l.length + 32) by
          rw [bitRow_set]
          apply bitRow_congr
          intro i _
          by_cases e : i = k
          · subst e; simp [bitAt_get'' l i (by omega)]
          · simp only [e, if_false]
            by_cases e2 : i < k
            · simp [e2, show i < k + 1 by omega]
            · simp [e2, show ¬ i < k + 1 by omega])
        clear hcell hrow hb hc
        go_wp2
        go_roundw
        case rel => exact ⟨k + 1, by omega, by go_num, by rw [← HE.out]; exact HR.out, HB.out⟩
        case measure => simp [intOf]; omega
      · obtain rfl : k = 8 * l.length := by omega
        have hrow' : Row wr w.heap.size 5 (bitRow (fun j => decide (j < 0) ^^ bitAt l j) (8 * l.length + 32)) := by
          rwa [bitRow_congr (g := fun j => decide (j < 8 * l.length) && bitAt l j) (h := fun j => decide (j < 0) ^^ bitAt l j)] at hrow
          intro i _
          by_cases e : i < 8 * l.length
          · simp [e]
          · simp [e, bitAt_none l i (by omega)]
        clear hrow hcell
        rw [show ((8 * l.length : Nat) : Int) = 8 * (l.length : Int) by omega]
        go_wp2
        go_loopw [6] (fun i wr => ∃ k : Nat, k ≤ 32 ∧ i = .int .i64 k ∧ Row wr w.heap.size 5 (bitRow (fun j => decide (j < k) ^^ bitAt l j) (8 * l.length + 32)) ∧ Below w.heap.size w wr) (fun i _ => 32 - (intOf i).toNat)
        case atStart => exact ⟨0, Nat.zero_le _, rfl, hrow', hb⟩
        case round =>
          clear hrow' hb
          obtain ⟨k, hk, rfl, hrow, hb⟩ := hrel
          by_cases hlt : k < 32
          · have hcd := hrow.cell k (by rw [bitRow_length]; omega)
            rw [bitRow_get] at hcd
            have hcf := hrow.frozen k
            cases hbit : bitAt l k
            · simp [hbit] at hcd
              have HR := hid (hrow.store k 1)
              have HB := hid (hb.setCell (p := ⟨w.heap.size, k, none⟩) (Nat.le_refl _) (.int .u8 1))
              have HE := hid (show (bitRow (fun j => decide (j < k) ^^ bitAt l j) (8 * l.length + 32)).set k 1 = bitRow (fun j => decide (j < k + 1) ^^ bitAt l j) (8 * l.length + 32) by
                refine (bitRow_set _ _ k true).trans (bitRow_congr _ fun i _ => ?_)
                by_cases e : i = k
                · subst e; simp [hbit]
                · simp only [e, if_false]
                  by_cases e2 : i < k
                  · simp [e2, show i < k + 1 by omega]
                  · simp [e2, show ¬ i < k + 1 by omega])
              clear hrow hb hbit
              go_wp2
              go_roundw
              case rel => exact ⟨k + 1, by omega, by go_num, by rw [← HE.out]; exact HR.out, HB.out⟩
              case measure => simp [intOf]; omega
            · simp [hbit] at hcd
              have HR := hid (hrow.store k 0)
              have HB := hid (hb.setCell (p := ⟨w.heap.size, k, none⟩) (Nat.le_refl _) (.int .u8 0))
              have HE := hid (show (bitRow (fun j => decide (j < k) ^^ bitAt l j) (8 * l.length + 32)).set k 0 = bitRow (fun j => decide (j < k + 1) ^^ bitAt l j) (8 * l.length + 32) by
                refine (bitRow_set _ _ k false).trans (bitRow_congr _ fun i _ => ?_)
                by_cases e : i = k
                · subst e; simp [hbit]
                · simp only [e, if_false]
                  by_cases e2 : i < k
                  · simp [e2, show i < k + 1 by omega]
                  · simp [e2, show ¬ i < k + 1 by omega])
              clear hrow hb hbit
              go_wp2
              go_roundw
              case rel => exact ⟨k + 1, by omega, by go_num, by rw [← HE.out]; exact HR.out, HB.out⟩
              case measure => simp [intOf]; omega
          · obtain rfl : k = 32 := by omega
            rw [show ((32 : Nat) : Int) = 32 from rfl]
            go_wp2
            go_loopw [8, 9] (fun i _ wr => ∃ (k : Nat) (g : Nat → Bool), k ≤ 8 * l.length ∧ i = .int .i64 k ∧ Row wr w.heap.size 5 (bitRow g (8 * l.length + 32)) ∧ Hid (BitsAt l k g) ∧ Below w.heap.size w wr) (fun i _ _ => 8 * l.length - (intOf i).toNat)
            case atStart => exact ⟨0, _, Nat.zero_le _, rfl, hrow, bitsAt_start l, hb⟩
            case round =>
              clear hrow hb
              obtain ⟨k, g, hk, rfl, hrow, hba, hb⟩ := hrel
              by_cases hlt : k < 8 * l.length
              · have hdt : decide ((k : Int) < 8 * (l.length : Int)) = true := by simp; omega
                cases hg : g k
                · have HN := hid (bitsAt_nil hba.out hg)
                  have hck := hrow.cell k (by rw [bitRow_length]; omega)
                  rw [bitRow_get, hg] at hck
                  simp at hck
                  clear hg hba
                  go_wp2
                  go_loopw [9] (fun y wi => y = .int .i64 0 ∧ wi = wr) (fun _ _ => 0)
                  case atStart => exact ⟨rfl, rfl⟩
                  case round =>
                    obtain ⟨rfl, rfl⟩ := hrel
                    go_wp2
                    go_roundw
                    case rel => exact ⟨k + 1, g, by omega, by go_num, hrow, HN.out, hb⟩
                    case measure => simp [intOf]; omega
                · have HG := hid hg
                  have HN := hid (bitsAt_one hba.out hg)
                  clear hg
                  rw [← polyUpd_zero k g] at hrow
                  go_wp2
                  go_loopw [9] (fun y wr => ∃ m : Nat, m ≤ 33 ∧ y = .int .i64 m ∧ Row wr w.heap.size 5 (bitRow (polyUpd k m g) (8 * l.length + 32)) ∧ Below w.heap.size w wr) (fun y _ => 33 - (intOf y).toNat)
                  case atStart => exact ⟨0, Nat.zero_le _, rfl, hrow, hb⟩
                  case round =>
                    clear hrow hb
                    obtain ⟨m, hm, rfl, hrow, hb⟩ := hrel
                    have hck := hrow.cell k (by rw [bitRow_length]; omega)
                    rw [bitRow_get, polyUpd_at, HG.out] at hck
                    simp at hck
                    by_cases hm33 : m < 33
                    · by_cases hm0 : m = 0
                      · subst hm0
                        rw [← polyUpd_one k g] at hrow
                        go_wp2
                        go_roundw
                        case rel => exact ⟨1, by omega, by go_num, hrow, hb⟩
                        case measure => simp [intOf]
                      · have hcn := hrow.cell (k + m) (by rw [bitRow_length]; omega)
                        rw [bitRow_get, polyUpd_next] at hcn
                        have hcf := hrow.frozen (k + m)
                        have HR := hid (hrow.store (k + m) (bif (g (k + m) ^^ crcPoly.getLsbD (m - 1)) then 1 else 0))
                        have HB := hid (hb.setCell (p := ⟨w.heap.size, k + m, none⟩) (Nat.le_refl _) (.int .u8 (((bif (g (k + m) ^^ crcPoly.getLsbD (m - 1)) then 1 else 0 : UInt8).toNat : Nat) : Int)))
                        have HE := hid (show (bitRow (polyUpd k m g) (8 * l.length + 32)).set (k + m) (bif (g (k + m) ^^ crcPoly.getLsbD (m - 1)) then 1 else 0) = bitRow (polyUpd k (m + 1) g) (8 * l.length + 32) by
                          rw [bitRow_set, polyUpd_step k m (by omega)])
                        have HX := hid (new_bit (g (k + m)) m hm33 (by omega))
                        clear hrow hb
                        go_wp2_with fail
                        go_region
                        rw [HX.out]
                        go_wp2
                        go_roundw
                        case rel => first | exact ⟨m + 1, by omega, by go_num, by rw [← HE.out]; exact HR.out, HB.out.drew⟩ | ((repeat apply Exists.intro); refine ⟨⟨m + 1, by omega, ?_, ?_, ?_⟩, rfl⟩; go_num; (rw [← HE.out]; exact HR.out); exact HB.out.drew)
                        case measure => simp [intOf]; omega
                    · obtain rfl : m = 33 := by omega
                      go_wp2
                      go_roundw
                      case rel => exact ⟨k + 1, _, by omega, by go_num, hrow, HN.out, hb⟩
                      case measure => simp [intOf]; omega
              · obtain rfl : k = 8 * l.length := by omega
                have HS := hid (sumBits_all hba.out)
                go_wp2
                go_loopw [10, 11] (fun x i wi => ∃ k : Nat, k ≤ 32 ∧ i = .int .i64 k ∧ x = .int .u32 ((sumBits g (8 * l.length) k).toNat : Int) ∧ wi = wr) (fun _ i _ => 32 - (intOf i).toNat)
                case atStart => exact ⟨0, Nat.zero_le _, rfl, rfl, rfl⟩
                case round =>
                  obtain ⟨k, hk, rfl, rfl, rfl⟩ := hrel
                  by_cases hlt : k < 32
                  · have hcn := hrow.cell (8 * l.length + k) (by rw [bitRow_length]; omega)
                    rw [bitRow_get] at hcn
                    have HC := hid (show sumBits g (8 * l.length) (k + 1) = sumBits g (8 * l.length) k ||| (b2v (!g (8 * l.length + k)) <<< k) from rfl)
                    generalize sumBits g (8 * l.length) k = r at *
                    generalize g (8 * l.length + k) = bt at *
                    cases bt
                    · simp at hcn
                      clear hrow hba
                      go_wp2
                      go_roundw
                      case rel => exact ⟨k + 1, by omega, by go_num, by rw [HC.out, sum_one r k hlt], trivial⟩
                      case measure => simp [intOf]; omega
                    · simp at hcn
                      clear hrow hba
                      go_wp2
                      go_roundw
                      case rel => exact ⟨k + 1, by omega, by go_num, by rw [HC.out, ← sum_nil r k hlt], trivial⟩
                      case measure => simp [intOf]; omega
                  · obtain rfl : k = 32 := by omega
                    have HVr := hid (HV.out.ext ⟨hb, fun q u hq => (by rw [hb.cell (World.block_lt_of_cell? w q hq)]; exact hq)⟩)
                    go_wp2_with fail
                    refine (crcSum_any _ l _ HVr.out).mono ?_
                    rintro e w8 ⟨rfl, rfl⟩
                    rw [← HS.out]
                    go_wp2_with fail
                    refine (works_any _).mono ?_
                    rintro e w9 ⟨rfl, hb9⟩
                    go_wp2_with fail
                    go_ret
                    exact ⟨rfl, hb.trans (hb9.mono hb.size)⟩
end Go.Proofs.Ytcaefnakbikfhaa

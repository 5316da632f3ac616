/- CrcUnlike: the walk of the law. Conditions: none but what the row reads. -/
import Derived.Test.YtcaefnakbikfhaaCrcWorks
import Derived.Test.YtcaefnakbikfhaaBits
import Derived.BigQuiet
import Derived.Deep.QuietTactic
namespace Go.Proofs.Ytcaefnakbikfhaa
open Go.RowKit Go.FL

/-- The first and the last place, below k, of which d holds. -/
def FirstLast (d : Nat → Bool) (k : Nat) (x y : Int) : Prop :=
  (x = -1 ∧ y = -1 ∧ ∀ i, i < k → d i = false) ∨
  ∃ f l : Nat, x = (f : Int) ∧ y = (l : Int) ∧ f ≤ l ∧ l < k ∧ d f = true ∧ (∀ i, i < f → d i = false) ∧ (∀ i, l < i → i < k → d i = false)

theorem fl_start (d : Nat → Bool) : FirstLast d 0 (-1) (-1) := .inl ⟨rfl, rfl, fun i h => by omega⟩
theorem fl_miss {d : Nat → Bool} {k : Nat} {x y : Int} (h : FirstLast d k x y) (hk : d k = false) : FirstLast d (k + 1) x y := by
  rcases h with ⟨rfl, rfl, h⟩ | ⟨f, l, rfl, rfl, h1, h2, h3, h4, h5⟩
  · refine .inl ⟨rfl, rfl, fun i hi => ?_⟩
    by_cases e : i = k
    · subst e; exact hk
    · exact h i (by omega)
  · refine .inr ⟨f, l, rfl, rfl, h1, by omega, h3, h4, fun i h6 h7 => ?_⟩
    by_cases e : i = k
    · subst e; exact hk
    · exact h5 i h6 (by omega)
theorem fl_first {d : Nat → Bool} {k : Nat} {x y : Int} (h : FirstLast d k x y) (hx : x < 0) (hk : d k = true) : FirstLast d (k + 1) (k : Int) (k : Int) := by
  rcases h with ⟨rfl, rfl, h⟩ | ⟨f, l, rfl, rfl, h1, h2, h3, h4, h5⟩
  · exact .inr ⟨k, k, rfl, rfl, Nat.le_refl _, by omega, hk, h, fun i h6 h7 => by omega⟩
  · omega
theorem fl_last {d : Nat → Bool} {k : Nat} {x y : Int} (h : FirstLast d k x y) (hx : ¬ x < 0) (hk : d k = true) : FirstLast d (k + 1) x (k : Int) := by
  rcases h with ⟨rfl, rfl, h⟩ | ⟨f, l, rfl, rfl, h1, h2, h3, h4, h5⟩
  · omega
  · exact .inr ⟨f, k, rfl, rfl, by omega, by omega, h3, h4, fun i h6 h7 => by omega⟩

theorem and1_u8' (n : Nat) (h : n < 256) : bits .and .u8 (n : Int) 1 = ((n % 2 : Nat) : Int) := by
  have h1 : (1 : Int) = (((1 : UInt8).toNat : Nat) : Int) := rfl
  have h2 : (n : Int) = (((UInt8.ofNat n).toNat : Nat) : Int) := by rw [UInt8.toNat_ofNat']; omega
  rw [h1, h2, bits_and8, UInt8.toNat_and, show (1 : UInt8).toNat = 1 from rfl, Nat.and_one_is_mod, UInt8.toNat_ofNat', Nat.mod_eq_of_lt (show n < 2 ^ 8 from h)]
theorem unlike_bit (x y : UInt8) (j : Nat) : (bits .and .u8 (bits .xor .u8 (x.toNat : Int) (y.toNat : Int) / 2 ^ j) 1 == 1) = (x.toNat.testBit j ^^ y.toNat.testBit j) := by
  rw [bits_xor8]
  have h1 : ((x ^^^ y).toNat : Int) / 2 ^ j = (((x ^^^ y).toNat / 2 ^ j : Nat) : Int) := by simp
  have hd : (x ^^^ y).toNat / 2 ^ j < 256 := Nat.lt_of_le_of_lt (Nat.div_le_self _ _) (x ^^^ y).toNat_lt
  rw [h1, and1_u8' _ hd, ← Nat.testBit_xor, ← UInt8.toNat_xor, Nat.testBit_eq_decide_div_mod_eq]
  rcases Nat.mod_two_eq_zero_or_one ((x ^^^ y).toNat / 2 ^ j) with h | h <;> rw [h] <;> rfl
theorem bitAt_get' (l : List UInt8) (m : Nat) (h : m / 8 < l.length) : bitAt l m = l[m / 8].toNat.testBit (m % 8) := by
  unfold bitAt
  simp [List.getD, h]

theorem alike_sums (l m : List UInt8) (hl : l.length = m.length) (h : ∀ i, i < 8 * l.length → (bitAt l i ^^ bitAt m i) = false) : crcExt 0#32 l = crcExt 0#32 m := by
  unfold crcExt
  rw [crcReg_all_bits, crcReg_all_bits, ← hl]
  congr 1
  apply regAt_congr
  intro i hi
  have := h i hi
  revert this
  cases bitAt l i <;> cases bitAt m i <;> simp
theorem unlike_sums (l m : List UInt8) (hl : l.length = m.length) (f g : Nat) (h1 : f ≤ g) (h2 : g < 8 * l.length) (h3 : (bitAt l f ^^ bitAt m f) = true) (h4 : ∀ i, i < f → (bitAt l i ^^ bitAt m i) = false)
    (h5 : ∀ i, g < i → i < 8 * l.length → (bitAt l i ^^ bitAt m i) = false) (h6 : g < f + 32) : (crcExt 0#32 l).toNat ≠ (crcExt 0#32 m).toNat := by
  intro he
  have he' := BitVec.eq_of_toNat_eq he
  unfold crcExt at he'
  rw [crcReg_all_bits, crcReg_all_bits, ← hl] at he'
  have heq : ∀ a b : Bool, (a ^^ b) = false → a = b := by decide
  refine burst_unlike (bitAt l) (bitAt m) (~~~0#32) f g (8 * l.length) (fun i hi => heq _ _ (h4 i hi)) ?_ (fun i hi hi' => heq _ _ (h5 i hi hi')) h1 h2 h6 ?_
  · intro e
    rw [e] at h3
    simp at h3
  · have := congrArg (fun x : BitVec 32 => ~~~ x) he'
    simpa using this

set_option maxRecDepth 20000 in
set_option maxHeartbeats 400000 in
theorem crcUnlike_walk {w : World} {v : Value} (l : List UInt8) (hv : Rd w v l) {u : Value} (m : List UInt8) (hu : Rd w u m) :
    Calls Try.prog 5 #[v, u] w fun e w' => e = .returned (.bool true) ∧ Below w.heap.size w w' := by
  have HV := hid hv
  have HU := hid hu
  obtain ⟨p, c, rfl, hlc, hcm, hpn, hcell⟩ := hv
  obtain ⟨p', c', rfl, hlc', hcm', hpn', hcell'⟩ := hu
  unfold maxLen at hcm hcm'
  by_cases hbig : 4096 < l.length
  · clear hcell hcell'
    go_enter Try.func5, Try.ntmps5
    go_wp2_with (go_at_call 9; refine (works_any _).mono ?_; rintro e w' ⟨rfl, hb⟩)
    go_ret
    exact ⟨rfl, hb⟩
  · by_cases hlen : l.length = m.length
    · have HL := hid hlen
      have hne : ((l.length : Int) != (m.length : Int)) = false := by simp [hlen]
      have hle : l.length ≤ m.length := by omega
      clear hlen
      go_enter Try.func5, Try.ntmps5
      go_wp2_with fail
      go_loopw [5, 6, 7] (fun x y i wr => ∃ (k : Nat) (a b : Int), k ≤ 8 * l.length ∧ i = .int .i64 k ∧ x = .int .i64 a ∧ y = .int .i64 b ∧ Hid (FirstLast (fun i => bitAt l i ^^ bitAt m i) k a b) ∧ ∃ n, wr = w.drewN n) (fun _ _ i _ => 8 * l.length - (intOf i).toNat)
      case atStart => exact ⟨0, -1, -1, Nat.zero_le _, rfl, rfl, rfl, fl_start _, 0, rfl⟩
      case round =>
        obtain ⟨k, a, b, hk, rfl, rfl, rfl, hfl, n, rfl⟩ := hrel
        by_cases hlt : k < 8 * l.length
        · obtain ⟨bl, off, rfl, hc⟩ := hcell (k / 8) (by omega)
          obtain ⟨bl', off', rfl, hc'⟩ := hcell' (k / 8) (by omega)
          have i1 : (0 : Int) ≤ (k : Int) / 8 := by omega
          have i2 : (k : Int) / 8 < (l.length : Int) := by omega
          have i3 : (k : Int) / 8 < (m.length : Int) := by omega
          have HD := hid (show ∀ t, (bits .and .u8 (bits .xor .u8 (l[k / 8].toNat : Int) (m[k / 8].toNat : Int) / 2 ^ (k % 8)) 1 == 1) = t → (bitAt l k ^^ bitAt m k) = t by
            intro t ht
            rw [unlike_bit, ← bitAt_get' l k (by omega), ← bitAt_get' m k (by omega)] at ht
            exact ht)
          clear hcell hcell'
          go_wp2_with fail
          go_quiet (fail)
          go_wp2
          · go_roundw
            case rel => exact ⟨k + 1, _, _, by omega, by go_num, rfl, rfl, fl_first hfl.out ‹_› (HD.out _ ‹_›), _, rfl⟩
            case measure => simp [intOf]; omega
          · go_roundw
            case rel => exact ⟨k + 1, _, _, by omega, by go_num, rfl, rfl, fl_last hfl.out (by omega) (HD.out _ ‹_›), _, rfl⟩
            case measure => simp [intOf]; omega
          · go_roundw
            case rel => exact ⟨k + 1, _, _, by omega, by go_num, rfl, rfl, fl_miss hfl.out (HD.out _ ‹_›), _, rfl⟩
            case measure => simp [intOf]; omega
        · obtain rfl : k = 8 * l.length := by omega
          clear hcell hcell'
          rcases hfl.out with ⟨rfl, rfl, h⟩ | ⟨f, g, rfl, rfl, h1, h2, h3, h4, h5⟩
          · have HS := hid (alike_sums l m HL.out h)
            clear h hfl
            go_wp2_with fail
            refine (crcSum_any _ l _ (HV.out.drewN n)).mono ?_
            rintro e w1 ⟨rfl, rfl⟩
            go_wp2_with fail
            refine (crcSum_any _ m _ (HU.out.drewN n)).mono ?_
            rintro e w1 ⟨rfl, rfl⟩
            rw [HS.out]
            go_wp2_with fail
            refine (works_any _).mono ?_
            rintro e w9 ⟨rfl, hb9⟩
            go_wp2_with fail
            go_ret
            exact ⟨rfl, gr_trans (gr_drewN w n) hb9⟩
          · by_cases h32 : g < f + 32
            · have hs := unlike_sums l m HL.out f g h1 h2 h3 h4 h5 h32
              have hS : (((crcExt 0#32 l).toNat : Int) == ((crcExt 0#32 m).toNat : Int)) = false := by
                simp
                omega
              clear h3 h4 h5 hs hfl
              go_wp2_with fail
              refine (crcSum_any _ l _ (HV.out.drewN n)).mono ?_
              rintro e w1 ⟨rfl, rfl⟩
              go_wp2_with fail
              refine (crcSum_any _ m _ (HU.out.drewN n)).mono ?_
              rintro e w1 ⟨rfl, rfl⟩
              go_wp2_with fail
              refine (works_any _).mono ?_
              rintro e w9 ⟨rfl, hb9⟩
              go_wp2_with fail
              go_ret
              exact ⟨rfl, gr_trans (gr_drewN w n) hb9⟩
            · clear h3 h4 h5 hfl
              go_wp2_with fail
              refine (works_any _).mono ?_
              rintro e w9 ⟨rfl, hb9⟩
              go_wp2_with fail
              go_ret
              exact ⟨rfl, gr_trans (gr_drewN w n) hb9⟩
    · have hne : ((l.length : Int) != (m.length : Int)) = true := by simp; omega
      clear hlen hcell hcell'
      go_enter Try.func5, Try.ntmps5
      go_wp2_with (go_at_call 9; refine (works_any _).mono ?_; rintro e w' ⟨rfl, hb⟩)
      go_ret
      exact ⟨rfl, hb⟩
end Go.Proofs.Ytcaefnakbikfhaa

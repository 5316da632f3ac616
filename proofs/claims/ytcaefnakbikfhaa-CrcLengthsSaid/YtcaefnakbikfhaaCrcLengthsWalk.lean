/- CrcLengths: the walk of the law. Conditions: none but what the row reads. -/
import Derived.Test.YtcaefnakbikfhaaCrcWorks
import Derived.Test.YtcaefnakbikfhaaBits
namespace Go.Proofs.Ytcaefnakbikfhaa
open Go.RowKit Go.FL

theorem lengths_eq (s t : BitVec 32) (l m : List UInt8) (h : m.length = l.length) : crcExt s l ^^^ crcExt t l = crcExt s m ^^^ crcExt t m := by
  rw [crcExt_xor, crcExt_xor, h]
theorem lengths_zero (s t : BitVec 32) (l : List UInt8) : crcExt s l ^^^ crcExt t l = 0#32 ↔ s = t := by
  rw [crcExt_xor, crcSteps_eq_zero, xor_eq_zero]

set_option maxRecDepth 20000 in
set_option maxHeartbeats 400000 in
theorem crcLengths_walk {w : World} (a : Int) (ha : (Lit.int .u32 a).wf = true) (b : Int) (hb : (Lit.int .u32 b).wf = true) {v : Value} (l : List UInt8) (hv : Rd w v l) (d : Int) (hd : (Lit.int .u8 d).wf = true) :
    Calls Try.prog 6 #[.int .u32 a, .int .u32 b, v, .int .u8 d] w fun e w' => e = .returned (.bool true) ∧ Below w.heap.size w w' := by
  obtain ⟨s, rfl⟩ := u32_of a ha
  obtain ⟨t, rfl⟩ := u32_of b hb
  obtain ⟨u, rfl⟩ := u8_of d hd
  clear ha hb hd
  by_cases hbig : 8192 < l.length
  · obtain ⟨p, c, rfl, hlc, hcm, hpn, hcell⟩ := hv
    unfold maxLen at hcm
    clear hcell
    go_enter Try.func6, Try.ntmps6
    go_wp2_with (go_at_call 9; refine (works_any _).mono ?_; rintro e w' ⟨rfl, hb⟩)
    go_ret
    exact ⟨rfl, hb⟩
  · have HV := hid hv
    obtain ⟨p, c, rfl, hlc, hcm, hpn, hcell⟩ := hv
    unfold maxLen at hcm
    have hmk := run_make_u8 (P := Try.prog) 22 5 Try.underlying22 infoU8w .i64 .i64 l.length (by omega)
    go_enter Try.func6, Try.ntmps6
    go_wp2_with fail
    go_loopw [10] (fun i wr => ∃ (k : Nat) (m : List UInt8), k ≤ l.length ∧ i = .int .i64 k ∧ Hid (m.length = l.length) ∧ Row wr w.heap.size 5 m ∧ Below w.heap.size w wr) (fun i _ => l.length - (intOf i).toNat)
    case atStart => exact ⟨0, _, Nat.zero_le _, rfl, List.length_replicate .., Row.new w 5 _, (Below.refl _ _).alloc (Nat.le_refl _) _⟩
    case round =>
      obtain ⟨k, m, hk, rfl, hml, hrow, hb⟩ := hrel
      clear hmk
      by_cases hlt : k < l.length
      · obtain ⟨b, off, rfl, hc⟩ := hcell (l.length - 1 - k) (by omega)
        have hcs := cell?_of_below hb hc
        have hcd := hrow.cell k (by rw [hml.out]; exact hlt)
        have hcf := hrow.frozen k
        have HR := hid (hrow.store k (l[l.length - 1 - k] ^^^ u))
        have HB := hid (hb.setCell (p := ⟨w.heap.size, k, none⟩) (Nat.le_refl _) (.int .u8 ((l[l.length - 1 - k] ^^^ u).toNat : Int)))
        have hx := bits_xor8 l[l.length - 1 - k] u
        clear hcell hrow hb hc
        go_wp2
        go_roundw
        case rel => exact ⟨k + 1, _, by omega, by go_num, by rw [Hid, List.length_set]; exact hml.out, HR.out, HB.out⟩
        case measure => simp [intOf]; omega
      · obtain rfl : k = l.length := by omega
        have HM := hid (by have := hrow.rd l.length l.length (by rw [hml.out]; exact Nat.le_refl _) (Nat.le_refl _) (by unfold maxLen; omega); rwa [← hml.out, List.take_length, hml.out] at this : Rd wr (.slice (some ⟨w.heap.size, 0, none⟩) l.length l.length) m)
        have HV1 := hid (HV.out.ext ⟨hb, fun p v hp => (by rw [hb.cell (World.block_lt_of_cell? w p hp)]; exact hp)⟩)
        have h1 := bits_xor32 (crcExt s l) (crcExt t l)
        have h2 : bits .xor .u32 ((crcExt s m).toNat : Int) ((crcExt t m).toNat : Int) = ((crcExt s l ^^^ crcExt t l).toNat : Int) := by rw [bits_xor32, ← lengths_eq s t l m hml.out]
        have hz := lengths_zero s t l
        generalize crcExt s l ^^^ crcExt t l = D at *
        have HB := hid hb
        clear hcell hrow hb
        by_cases hst : s = t
        · subst hst
          have hD : ((D.toNat : Int) == 0) = true := by rw [hz.2 rfl]; rfl
          clear hz
          go_wp2_with fail
          refine (crcExtend_any s _ l _ HV1.out).mono ?_
          rintro e w2 ⟨rfl, rfl⟩
          go_wp2_with fail
          refine (crcExtend_any s _ l _ HV1.out).mono ?_
          rintro e w2 ⟨rfl, rfl⟩
          go_wp2_with fail
          refine (crcExtend_any s _ m _ HM.out).mono ?_
          rintro e w2 ⟨rfl, rfl⟩
          go_wp2_with fail
          refine (crcExtend_any s _ m _ HM.out).mono ?_
          rintro e w2 ⟨rfl, rfl⟩
          go_wp2_with fail
          refine (works_any _).mono ?_
          rintro e w2 ⟨rfl, hb2⟩
          go_wp2_with fail
          go_ret
          exact ⟨rfl, HB.out.trans (hb2.mono HB.out.size)⟩
        · have hD : ((D.toNat : Int) == 0) = false := by
            have : D.toNat ≠ 0 := fun h => hst (hz.1 (BitVec.eq_of_toNat_eq h))
            simp
            omega
          have hS : ((s.toNat : Int) == (t.toNat : Int)) = false := by
            have : s.toNat ≠ t.toNat := fun h => hst (BitVec.eq_of_toNat_eq h)
            simp
            omega
          clear hz hst
          go_wp2_with fail
          refine (crcExtend_any s _ l _ HV1.out).mono ?_
          rintro e w2 ⟨rfl, rfl⟩
          go_wp2_with fail
          refine (crcExtend_any t _ l _ HV1.out).mono ?_
          rintro e w2 ⟨rfl, rfl⟩
          go_wp2_with fail
          refine (crcExtend_any s _ m _ HM.out).mono ?_
          rintro e w2 ⟨rfl, rfl⟩
          go_wp2_with fail
          refine (crcExtend_any t _ m _ HM.out).mono ?_
          rintro e w2 ⟨rfl, rfl⟩
          go_wp2_with fail
          refine (works_any _).mono ?_
          rintro e w2 ⟨rfl, hb2⟩
          go_wp2_with fail
          go_ret
          exact ⟨rfl, HB.out.trans (hb2.mono HB.out.size)⟩
end Go.Proofs.Ytcaefnakbikfhaa

/- CrcTells: the walk of the law. Conditions: none but what the row reads. -/
import Derived.Test.YtcaefnakbikfhaaCrcWorks
import Derived.Test.YtcaefnakbikfhaaRoomy
namespace Go.Proofs.Ytcaefnakbikfhaa
open Go.RowKit Go.FL

theorem u16_of (a : Int) (h : (Lit.int .u16 a).wf = true) : ∃ s : Nat, a = (s : Int) ∧ s < 65536 := by
  simp [Lit.wf, IntKind.min, IntKind.max, IntKind.signed, IntKind.bits] at h
  exact ⟨a.toNat, by omega, by omega⟩

set_option maxRecDepth 20000 in
set_option maxHeartbeats 400000 in
theorem crcTells_walk {w : World} {v : Value} (l : List UInt8) (hv : Rd w v l) (a : Int) (ha : (Lit.int .u32 a).wf = true) (b : Int) (hb : (Lit.int .u16 b).wf = true) :
    Calls Try.prog 3 #[v, .int .u32 a, .int .u16 b] w fun e w' => e = .returned (.bool true) ∧ Below w.heap.size w w' := by
  obtain ⟨s, rfl⟩ := u32_of a ha
  obtain ⟨d, rfl, hd⟩ := u16_of b hb
  clear ha hb
  by_cases hbig : 32768 < l.length
  · obtain ⟨p, c, rfl, hlc, hcm, hpn, hcell⟩ := hv
    unfold maxLen at hcm
    clear hcell
    go_enter Try.func3, Try.ntmps3
    go_wp2_with (go_at_call 9; refine (works_any _).mono ?_; rintro e w' ⟨rfl, hb⟩)
    go_ret
    exact ⟨rfl, hb⟩
  · have HV := hid hv
    obtain ⟨p, c, rfl, hlc, hcm, hpn, hcell⟩ := hv
    unfold maxLen at hcm
    clear hcell
    obtain ⟨k, hk⟩ : ∃ k : Nat, d % (l.length + 1) = k := ⟨_, rfl⟩
    have hkl : k ≤ l.length := by have := Nat.mod_lt d (Nat.succ_pos l.length); rw [Nat.succ_eq_add_one, hk] at this; omega
    have hke : (d : Int) % ((l.length : Int) + 1) = (k : Int) := by rw [← hk]; simp
    clear hk
    go_enter Try.func3, Try.ntmps3
    go_wp2_with fail
    refine (roomy_any _ l _ HV.out (by omega)).mono ?_
    rintro e w1 ⟨v1, rfl, hr1, hb1⟩
    have HR := hid hr1
    obtain ⟨g, hg, rfl, hrow, hm1⟩ := hr1
    unfold maxLen at hm1
    have HB := hid hb1
    have HV1 := hid (HV.out.mono hb1)
    clear hb1 hrow
    go_wp2_with fail
    refine (crcExtend_any s _ (l.take k) _ (HR.out.rd.take k hkl)).mono ?_
    rintro e w2 ⟨rfl, rfl⟩
    go_wp2_with fail
    refine (refExtend_any s _ (l.take k) _ (HV1.out.take k hkl)).mono ?_
    rintro e w2 ⟨rfl, rfl⟩
    go_wp2_with fail
    have he : crcExt (crcExt s (l.take k)) (l.drop k) = crcExt s l := by rw [crcExt_append, List.take_append_drop]
    refine (crcExtend_any _ _ (l.drop k) _ (HR.out.rd.drop0 k hkl)).mono ?_
    rintro e w2 ⟨rfl, rfl⟩
    rw [he]
    clear he
    go_wp2_with fail
    refine (refExtend_any s _ l _ HV1.out).mono ?_
    rintro e w2 ⟨rfl, rfl⟩
    go_wp2_with fail
    refine (crcSum_any _ l _ HR.out.rd).mono ?_
    rintro e w2 ⟨rfl, rfl⟩
    go_wp2_with fail
    refine (refExtend_any 0#32 _ l _ HV1.out).mono ?_
    rintro e w2 ⟨rfl, rfl⟩
    go_wp2_with fail
    refine (kept_any _ _ l _ _ HR.out HV1.out).mono ?_
    rintro e w2 ⟨rfl, n, rfl⟩
    go_wp2_with fail
    refine (works_any _).mono ?_
    rintro e w2 ⟨rfl, hb2⟩
    go_wp2_with fail
    go_ret
    exact ⟨rfl, (below_drewN' HB.out n).trans (hb2.mono HB.out.size)⟩
end Go.Proofs.Ytcaefnakbikfhaa

/- OctetGets: the walk of the law. Conditions: none but what the row reads. -/
import Derived.Test.YtkifdhpdpblneaaOctWorks
import Derived.Test.YtkifdhpdpblneaaOctRef
import Derived.Test.YtkifdhpdpblneaaRoomy
namespace Go.Proofs.Ytkifdhpdpblneaa
open Go.RowKit Go.FL

set_option maxRecDepth 20000 in
set_option maxHeartbeats 400000 in
theorem octetGets_walk {w : World} {v : Value} (l : List UInt8) (hv : Rd w v l) (a : Int) (ha : (Lit.int .i64 a).wf = true) (n : Int) (hn : (Lit.int .i64 n).wf = true) :
    Calls Try.prog 3 #[v, .int .i64 a, .int .i64 n] w fun e w' => e = .returned (.bool true) ∧ Below w.heap.size w w' := by
  clear ha hn
  have HV := hid hv
  obtain ⟨p, c, rfl, hlc, hcm, hpn, hcell⟩ := hv
  unfold maxLen at hcm
  clear hcell
  by_cases hbig : 131072 < l.length
  · go_enter Try.func3, Try.ntmps3
    go_wp2_with (go_at_call 11; refine (works_any _).mono ?_; rintro e w' ⟨rfl, hb⟩)
    go_ret
    exact ⟨rfl, hb⟩
  · cases hok : getOk l a n
    · have HK := hid hok
      clear hok
      go_enter Try.func3, Try.ntmps3
      go_wp2_with fail
      refine (roomy_any _ l _ HV.out (by omega)).mono ?_
      rintro e w1 ⟨v1, rfl, hr1, hb1⟩
      have HR := hid hr1
      have HB := hid hb1
      have HV1 := hid (HV.out.mono hb1)
      clear hb1 hr1
      go_wp2_with fail
      refine (get_no _ l a n _ HR.out.rd HK.out).mono ?_
      rintro e w2 ⟨rfl, rfl⟩
      go_wp2_with fail
      refine (refGet_no _ l a n _ HV1.out HK.out (by omega)).mono ?_
      rintro e w2 ⟨rfl, hb2⟩
      have HR2 := hid (HR.out.mono hb2)
      have HV2 := hid (HV1.out.mono hb2)
      have HB2 := hid (HB.out.trans (hb2.mono HB.out.size))
      clear hb2
      go_wp2_with fail
      refine (kept_any _ _ l _ _ HR2.out HV2.out).mono ?_
      rintro e w3 ⟨rfl, m, rfl⟩
      go_wp2_with fail
      refine (works_any _).mono ?_
      rintro e w4 ⟨rfl, hb4⟩
      go_wp2_with fail
      go_ret
      exact ⟨rfl, (below_drewN' HB2.out m).trans (hb4.mono HB2.out.size)⟩
    · have HK := hid hok
      clear hok
      go_enter Try.func3, Try.ntmps3
      go_wp2_with fail
      refine (roomy_any _ l _ HV.out (by omega)).mono ?_
      rintro e w1 ⟨v1, rfl, hr1, hb1⟩
      have HR := hid hr1
      have HB := hid hb1
      have HV1 := hid (HV.out.mono hb1)
      clear hb1 hr1
      go_wp2_with fail
      refine (get_ok _ l a n _ HR.out.rd HK.out).mono ?_
      rintro e w2 ⟨rfl, rfl⟩
      go_wp2_with fail
      refine (refGet_ok _ l a n _ HV1.out HK.out (by omega)).mono ?_
      rintro e w2 ⟨rfl, hb2⟩
      have HR2 := hid (HR.out.mono hb2)
      have HV2 := hid (HV1.out.mono hb2)
      have HB2 := hid (HB.out.trans (hb2.mono HB.out.size))
      clear hb2
      generalize ((beVal (pieceOf l a n) : Nat) : Int) = y at *
      go_wp2_with fail
      refine (kept_any _ _ l _ _ HR2.out HV2.out).mono ?_
      rintro e w3 ⟨rfl, m, rfl⟩
      go_wp2_with fail
      refine (works_any _).mono ?_
      rintro e w4 ⟨rfl, hb4⟩
      go_wp2_with fail
      go_ret
      exact ⟨rfl, (below_drewN' HB2.out m).trans (hb4.mono HB2.out.size)⟩
end Go.Proofs.Ytkifdhpdpblneaa

/- ShaSums: the walk of the law. Conditions: the package's tables hold what its text says. -/
import Derived.Test.YtjihcjfenpemfaaDoorShaRef3
import Derived.Test.YtjihcjfenpemfaaDoorRoomy
namespace Go.Proofs.YtjihcjfenpemfaaDoor
open Go.RowKit Go.FL

set_option maxRecDepth 20000 in
set_option maxHeartbeats 1000000 in
theorem shaSums_walk {w : World} (hlaid : ShaLaid w) {v : Value} (l : List UInt8) (hv : Rd w v l) :
    Calls Tryd.prog 3 #[v] w fun e w' => e = .returned (.bool true) ∧ Below w.heap.size w w' := by
  have HL := hid hlaid
  have HV := hid hv
  obtain ⟨p, c, rfl, hlc, hcm, hpn, hcell⟩ := hv
  unfold maxLen at hcm
  clear hcell hlaid
  by_cases hbig : 16384 < l.length
  · go_enter Tryd.func3, Tryd.ntmps3
    go_wp2_with fail
    refine (works_any _ HL.out).mono ?_
    rintro e w' ⟨rfl, hb⟩
    go_wp2_with fail
    go_ret
    exact ⟨rfl, hb⟩
  · have heq := eqSame l
    obtain ⟨d, hd⟩ : ∃ d, d = shaSum l := ⟨_, rfl⟩
    rw [← hd] at heq
    have HD := hid hd
    have hlen : l.length < 576460752303423488 := by omega
    clear hd
    go_enter Tryd.func3, Tryd.ntmps3
    go_wp2_with fail
    refine (roomy_any _ l _ HV.out (by omega)).mono ?_
    rintro e w1 ⟨v1, rfl, hr1, hb1⟩
    have HR1 := hid hr1
    have G1 := hid hb1
    clear hb1 hr1
    go_wp2_with fail
    refine (shaOf_any _ l _ HR1.out.rd (HL.out.mono G1.out) hlen).mono ?_
    rw [← HD.out]
    rintro e w2 ⟨rfl, hb2⟩
    have G2 := hid hb2
    clear hb2
    go_wp2_with fail
    refine (refSum_any _ l _ (HV.out.mono (gr_trans G1.out G2.out)) (by omega)).mono ?_
    rw [← HD.out]
    rintro e w3 ⟨rfl, hb3⟩
    have G3 := hid (gr_trans G2.out hb3)
    have G13 := hid (gr_trans G1.out (gr_trans G2.out hb3))
    clear hb3
    go_wp2_with fail
    refine (kept_gr _ _ l _ _ (HR1.out.mono G3.out) (HV.out.mono G13.out)).mono ?_
    rintro e w4 ⟨rfl, hb4⟩
    have G4 := hid (gr_trans G13.out hb4)
    clear hb4
    go_wp2_with fail
    refine (works_any _ (HL.out.mono G4.out)).mono ?_
    rintro e w5 ⟨rfl, hb5⟩
    go_wp2_with fail
    go_ret
    exact ⟨rfl, gr_trans G4.out hb5⟩
end Go.Proofs.YtjihcjfenpemfaaDoor

/- MacSums: the walk of the law. Conditions: the tables of sha hold what its text says. -/
import Derived.Test.YtcjkhhhinjknhaaDoorMacWorks
import Derived.Test.YtcjkhhhinjknhaaDoorMacRef
import Derived.Test.YtcjkhhhinjknhaaDoorRoomy
namespace Go.Proofs.YtcjkhhhinjknhaaDoor
open Go.RowKit Go.FL

set_option maxRecDepth 20000 in
set_option maxHeartbeats 1000000 in
theorem macSums_walk {w : World} (hlaid : ShaLaid w) {v : Value} (key : List UInt8) (hv : Rd w v key) {u : Value} (text : List UInt8) (hu : Rd w u text) :
    Calls Tryd.prog 3 #[v, u] w fun e w' => e = .returned (.bool true) ∧ Below w.heap.size w w' := by
  have HL := hid hlaid
  have HV := hid hv
  have HU := hid hu
  obtain ⟨p, c, rfl, _, hcm, _, hcell⟩ := hv
  obtain ⟨q, cq, rfl, _, hcq, _, hcelq⟩ := hu
  unfold maxLen at hcm hcq
  clear hcell hcelq hlaid
  by_cases hbig : 4096 < key.length ∨ 8192 < text.length
  · have hcase : 4096 < key.length ∨ (key.length ≤ 4096 ∧ 8192 < text.length) := by omega
    clear hbig
    rcases hcase with h1 | ⟨h1, h2⟩
    all_goals
      go_enter Tryd.func3, Tryd.ntmps3
      go_wp2_with fail
      refine (works_any _ HL.out).mono ?_
      rintro e w' ⟨rfl, hb⟩
      go_wp2_with fail
      go_ret
      exact ⟨rfl, hb⟩
  · have hk4 : key.length ≤ 4096 := by omega
    have ht4 : text.length ≤ 8192 := by omega
    clear hbig
    obtain ⟨d, hd⟩ : ∃ d, d = macSum key text := ⟨_, rfl⟩
    have HD := hid hd
    have heq := eqSelf d (by rw [hd, macSum_length])
    clear hd
    go_enter Tryd.func3, Tryd.ntmps3
    go_wp2_with fail
    refine (roomy_any _ key _ HV.out (by omega)).mono ?_
    rintro e w1 ⟨v1, rfl, hr1, hb1⟩
    have HR1 := hid hr1
    have G1 := hid hb1
    clear hb1 hr1
    go_wp2_with fail
    refine (roomy_any _ text _ (HU.out.mono G1.out) (by omega)).mono ?_
    rintro e w2 ⟨v2, rfl, hr2, hb2⟩
    have HR2 := hid hr2
    have HR12 := hid (HR1.out.mono hb2)
    have G2 := hid (gr_trans G1.out hb2)
    clear hb2 hr2
    go_wp2_with fail
    refine (macOf_any _ _ key text _ HR12.out.rd HR2.out.rd (HL.out.mono G2.out) (by omega) (by omega)).mono ?_
    rw [← HD.out]
    rintro e w3 ⟨rfl, hb3⟩
    have HR13 := hid (HR12.out.mono hb3)
    have HR23 := hid (HR2.out.mono hb3)
    have G3 := hid (gr_trans G2.out hb3)
    clear hb3
    go_wp2_with fail
    refine (macRef_any _ _ key text _ (HV.out.mono G3.out) (HU.out.mono G3.out) (by omega) (by omega)).mono ?_
    rw [← HD.out]
    rintro e w4 ⟨rfl, hb4⟩
    have HR14 := hid (HR13.out.mono hb4)
    have HR24 := hid (HR23.out.mono hb4)
    have G4 := hid (gr_trans G3.out hb4)
    clear hb4
    go_wp2_with fail
    refine (kept_gr _ _ key _ _ HR14.out (HV.out.mono G4.out)).mono ?_
    rintro e w5 ⟨rfl, hb5⟩
    have HR25 := hid (HR24.out.mono hb5)
    have G5 := hid (gr_trans G4.out hb5)
    clear hb5
    go_wp2_with fail
    refine (kept_gr _ _ text _ _ HR25.out (HU.out.mono G5.out)).mono ?_
    rintro e w6 ⟨rfl, hb6⟩
    have G6 := hid (gr_trans G5.out hb6)
    clear hb6
    go_wp2_with fail
    refine (works_any _ (HL.out.mono G6.out)).mono ?_
    rintro e w7 ⟨rfl, hb7⟩
    go_wp2_with fail
    go_ret
    exact ⟨rfl, gr_trans G6.out hb7⟩
end Go.Proofs.YtcjkhhhinjknhaaDoor

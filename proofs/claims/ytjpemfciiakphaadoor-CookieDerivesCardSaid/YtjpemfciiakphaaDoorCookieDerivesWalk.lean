/- CookieDerives: the walk of the law. Conditions: the tables of sha hold what its text says. -/
import Derived.Test.YtjpemfciiakphaaDoorCookWorks
import Derived.Test.YtjpemfciiakphaaDoorRegGr
import Derived.OpenShut
namespace Go.FL
theorem deriveOf_ne (key text : List UInt8) : (deriveOf key text).1 ≠ 0 := by
  unfold deriveOf
  split <;> simp_all
end Go.FL
namespace Go.Proofs.YtjpemfciiakphaaDoor
open Go.RowKit Go.FL Go.ChangeShapes

set_option maxRecDepth 100000 in
set_option maxHeartbeats 4000000 in
theorem cookieDerives_walk {w : World} (hlaid : ShaLaid w) {v : Value} (key : List UInt8) (hv : Rd w v key) {u : Value} (text : List UInt8) (hu : Rd w u text) :
    Calls Tryd.prog 8 #[v, u] w fun e w' => e = .returned (.bool true) ∧ Below w.heap.size w w' := by
  have HL := hid hlaid
  have HV := hid hv
  have HU := hid hu
  obtain ⟨p, c, rfl, _, hcm, _, hcell⟩ := hv
  obtain ⟨q, cq, rfl, _, hcq, _, hcelq⟩ := hu
  unfold maxLen at hcm hcq
  clear hcell hcelq hlaid
  by_cases hbig : 4096 < key.length ∨ 4096 < text.length
  · have hcase : 4096 < key.length ∨ (key.length ≤ 4096 ∧ 4096 < text.length) := by omega
    clear hbig
    rcases hcase with h1 | ⟨h1, h2⟩
    all_goals
      go_enter Tryd.func8, Tryd.ntmps8
      go_wp2_with fail
      refine (works_any _ HL.out).mono ?_
      rintro e w' ⟨rfl, hb⟩
      go_wp2_with fail
      go_ret
      exact ⟨rfl, hb⟩
  · have hk4 : key.length ≤ 4096 := by omega
    have ht4 : text.length ≤ 4096 := by omega
    clear hbig
    have hne := deriveOf_ne key text
    obtain ⟨x, y, hxy⟩ : ∃ x y, deriveOf key text = (x, y) := ⟨_, _, rfl⟩
    have HXY := hid hxy
    rw [hxy] at hne
    have hx0 : ((x : Int) != 0) = true := by simp at hne; simp; omega
    clear hxy hne
    go_enter Tryd.func8, Tryd.ntmps8
    go_wp2_with fail
    refine (twin_any _ text _ HU.out (by omega)).mono ?_
    rintro e w1 ⟨v1, rfl, ho1, hb1⟩
    have HO1 := hid ho1
    have G1 := hid hb1
    obtain ⟨p1, c1, rfl, -, -, -, -⟩ := ho1.rd
    clear ho1 hb1
    go_wp2_with fail
    refine (twin_any _ key _ (HV.out.mono G1.out) (by omega)).mono ?_
    rintro e w2 ⟨v2, rfl, ho2, hb2⟩
    have HO2 := hid ho2
    have HO1b := hid (HO1.out.mono hb2)
    have G2 := hid (gr_trans G1.out hb2)
    obtain ⟨p2, c2, rfl, -, -, -, -⟩ := ho2.rd
    clear ho2 hb2
    go_wp2_with fail
    refine (cookDerive_any _ _ key text _ HO2.out.rd HO1b.out.rd (HL.out.mono G2.out) (by omega) (by omega)).mono ?_
    rintro e w3 ⟨rfl, hb3⟩
    rw [HXY.out]
    have HO1c := hid (HO1b.out.mono hb3)
    have G3 := hid (gr_trans G2.out hb3)
    clear hb3
    go_wp2_with fail
    refine (cookRefDerive_any _ _ key text _ (HV.out.mono G3.out) (HU.out.mono G3.out) (by omega) (by omega)).mono ?_
    rintro e w4 ⟨rfl, hb4⟩
    rw [HXY.out]
    have HO1d := hid (HO1c.out.mono hb4)
    have G4 := hid (gr_trans G3.out hb4)
    clear hb4
    go_wp2_with fail
    refine (cookDerive_any _ _ key text _ (HV.out.mono G4.out) (HU.out.mono G4.out) (HL.out.mono G4.out) (by omega) (by omega)).mono ?_
    rintro e w5 ⟨rfl, hb5⟩
    rw [HXY.out]
    have HO1e := hid (HO1d.out.mono hb5)
    have G5 := hid (gr_trans G4.out hb5)
    clear hb5
    go_wp2_with fail
    refine (sameStr_any _ _ text text _ HO1e.out.rd (HU.out.mono G5.out)).mono ?_
    rintro e w6 ⟨rfl, rfl⟩
    rw [decide_eq_true rfl]
    go_wp2_with fail
    refine (works_any _ (HL.out.mono G5.out)).mono ?_
    rintro e w7 ⟨rfl, hb7⟩
    go_wp2_with fail
    go_ret
    exact ⟨rfl, gr_trans G5.out hb7⟩
end Go.Proofs.YtjpemfciiakphaaDoor

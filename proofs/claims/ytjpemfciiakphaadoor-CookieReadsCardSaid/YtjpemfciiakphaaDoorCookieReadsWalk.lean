/- CookieReads: the walk of the law. Conditions: the tables of sha hold what its text says. -/
import Derived.Test.YtjpemfciiakphaaDoorCookWorks
import Derived.Test.YtjpemfciiakphaaDoorCookRefRead
import Derived.Test.YtjpemfciiakphaaDoorRegGr
import Derived.OpenShut
namespace Go.Proofs.YtjpemfciiakphaaDoor
open Go.RowKit Go.FL Go.ChangeShapes

set_option maxRecDepth 100000 in
set_option maxHeartbeats 4000000 in
theorem cookieReads_walk {w : World} (hlaid : ShaLaid w) {v : Value} (key : List UInt8) (hv : Rd w v key) {u : Value} (text : List UInt8) (hu : Rd w u text) :
    Calls Tryd.prog 4 #[v, u] w fun e w' => e = .returned (.bool true) ∧ Below w.heap.size w w' := by
  have HL := hid hlaid
  have HV := hid hv
  have HU := hid hu
  obtain ⟨p, c, rfl, _, hcm, _, hcell⟩ := hv
  obtain ⟨q, cq, rfl, _, hcq, _, hcelq⟩ := hu
  unfold maxLen at hcm hcq
  clear hcell hcelq hlaid
  by_cases hbig : 4096 < key.length ∨ 4096 < text.length
  · have hcase : 4096 < key.length ∨ (key.length ≤ 4096 ∧ 4096 < text.length) := by omega
    clear hbig
    rcases hcase with h1 | ⟨h1, h2⟩
    all_goals
      go_enter Tryd.func4, Tryd.ntmps4
      go_wp2_with fail
      refine (works_any _ HL.out).mono ?_
      rintro e w' ⟨rfl, hb⟩
      go_wp2_with fail
      go_ret
      exact ⟨rfl, hb⟩
  · have hk4 : key.length ≤ 4096 := by omega
    have ht4 : text.length ≤ 4096 := by omega
    clear hbig
    obtain ⟨er, ⟨born, ot, pt, otsn, ptsn, rwn, out, in_⟩, hT⟩ : ∃ er d, cookTells key text = (er, d) := ⟨_, _, rfl⟩
    have HT := hid hT
    clear hT
    go_enter Tryd.func4, Tryd.ntmps4
    go_wp2_with fail
    refine (twin_any _ key _ HV.out (by omega)).mono ?_
    rintro e w1 ⟨v1, rfl, ho1, hb1⟩
    have HO1 := hid ho1
    have G1 := hid hb1
    obtain ⟨p1, c1, rfl, -, -, -, -⟩ := ho1.rd
    clear ho1 hb1
    go_wp2_with fail
    refine (twin_any _ text _ (HU.out.mono G1.out) (by omega)).mono ?_
    rintro e w2 ⟨v2, rfl, ho2, hb2⟩
    have HO2 := hid ho2
    have HO1b := hid (HO1.out.mono hb2)
    have G2 := hid (gr_trans G1.out hb2)
    obtain ⟨p2, c2, rfl, -, -, -, -⟩ := ho2.rd
    clear ho2 hb2
    go_wp2_with fail
    refine (cookRead_any _ _ key text _ HO1b.out.rd HO2.out.rd (HL.out.mono G2.out) (by omega) (by omega)).mono ?_
    rintro e w3 ⟨rfl, hb3⟩
    rw [HT.out]
    simp only [CookD.val]
    have HO1c := hid (HO1b.out.mono hb3)
    have HO2c := hid (HO2.out.mono hb3)
    have G3 := hid (gr_trans G2.out hb3)
    obtain ⟨W3, hW3⟩ : ∃ W3, W3 = w3.alloc (.cells #[.int .i64 born, .int .u32 (ot : Int), .int .u32 (pt : Int), .int .u32 (otsn : Int), .int .u32 (ptsn : Int), .int .u32 (rwn : Int), .int .u16 (out : Int), .int .u16 (in_ : Int)] 26 (0, 0)) := ⟨_, rfl⟩
    have HC3 := hid (show RowV W3 w3.heap.size 26 [.int .i64 born, .int .u32 (ot : Int), .int .u32 (pt : Int), .int .u32 (otsn : Int), .int .u32 (ptsn : Int), .int .u32 (rwn : Int), .int .u16 (out : Int), .int .u16 (in_ : Int)] by rw [hW3]; exact RowV.new w3 26 _)
    have g3 : Below w3.heap.size w3 W3 := by rw [hW3]; exact (Below.refl _ _).alloc (Nat.le_refl _) _
    have HO1d := hid (HO1c.out.mono g3)
    have HO2d := hid (HO2c.out.mono g3)
    have GW3 := hid (gr_trans G3.out g3)
    have HE3 := hid hW3
    clear hb3 hW3 g3
    go_wp2_with fail
    rw [← HE3.out]
    refine (cookRefRead_any _ _ key text _ (HV.out.mono GW3.out) (HU.out.mono GW3.out) (by omega) (by omega)).mono ?_
    rintro e w4 ⟨rfl, hb4⟩
    rw [HT.out]
    simp only [CookD.val]
    obtain ⟨W4, hW4⟩ : ∃ W4, W4 = w4.alloc (.cells #[.int .i64 born, .int .u32 (ot : Int), .int .u32 (pt : Int), .int .u32 (otsn : Int), .int .u32 (ptsn : Int), .int .u32 (rwn : Int), .int .u16 (out : Int), .int .u16 (in_ : Int)] 26 (0, 0)) := ⟨_, rfl⟩
    have g4 : Below w4.heap.size w4 W4 := by rw [hW4]; exact (Below.refl _ _).alloc (Nat.le_refl _) _
    have g5 := gr_trans hb4 g4
    have HC4 := hid (show RowV W4 w4.heap.size 26 [.int .i64 born, .int .u32 (ot : Int), .int .u32 (pt : Int), .int .u32 (otsn : Int), .int .u32 (ptsn : Int), .int .u32 (rwn : Int), .int .u16 (out : Int), .int .u16 (in_ : Int)] by rw [hW4]; exact RowV.new w4 26 _)
    have HO1e := hid (HO1d.out.mono g5)
    have HO2e := hid (HO2d.out.mono g5)
    have HC3e := hid (HC3.out.mono g5)
    have GW4 := hid (gr_trans GW3.out g5)
    have HE4 := hid hW4
    clear hb4 hW4 g4 g5
    obtain ⟨j0, j1, j2, j3, j4, j5, j6, j7⟩ := HC3e.out.eight
    obtain ⟨i0, i1, i2, i3, i4, i5, i6, i7⟩ := HC4.out.eight
    rw [HE4.out] at j0 j1 j2 j3 j4 j5 j6 j7
    go_wp2_with fail
    rw [← HE4.out]
    refine (sameStr_any _ _ key key _ HO1e.out.rd (HV.out.mono GW4.out)).mono ?_
    rintro e w6 ⟨rfl, rfl⟩
    rw [decide_eq_true rfl]
    go_wp2_with fail
    refine (sameStr_any _ _ text text _ HO2e.out.rd (HU.out.mono GW4.out)).mono ?_
    rintro e w6 ⟨rfl, rfl⟩
    rw [decide_eq_true rfl]
    go_wp2_with fail
    refine (works_any _ (HL.out.mono GW4.out)).mono ?_
    rintro e w7 ⟨rfl, hb7⟩
    go_wp2_with fail
    go_ret
    exact ⟨rfl, gr_trans GW4.out hb7⟩
end Go.Proofs.YtjpemfciiakphaaDoor

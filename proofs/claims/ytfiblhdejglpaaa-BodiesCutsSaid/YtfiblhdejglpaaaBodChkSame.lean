/- The document's Same of two chunks. Conditions: what comes in reads as it should. -/
import Derived.Test.YtfiblhdejglpaaaBaseE
import Derived.Test.YtfiblhdejglpaaaBodGetters
import Derived.Test.YtfiblhdejglpaaaBaseC
namespace Go.FL
open Go.RowKit
def chkEq (c d : Chk) : Bool := decide (c.k = d.k) && (decide (c.f = d.f) && decide (c.b = d.b))
theorem chkEq_iff (c d : Chk) : chkEq c d = true ↔ c = d := by
  constructor
  · intro h
    simp [chkEq] at h
    exact Chk.ext' h.1 h.2.1 h.2.2
  · rintro rfl
    simp [chkEq]
/-- A chunk by value, whatever its slice. -/
def ChkF (c : Chk) : Value → World → Prop := fun v w => ∃ s, v = .agg #[.int .u8 (c.k.toNat : Int), .int .u8 (c.f.toNat : Int), s] ∧ Rd w s c.b
theorem ChkF.gr (c : Chk) : Stab GrR (ChkF c) := fun _ _ _ ⟨s, h1, h2⟩ k => ⟨s, h1, h2.mono k⟩
end Go.FL
namespace Go.Proofs.Ytfiblhdejglpaaa
open Go.RowKit Go.FL Go.ChangeShapes

set_option maxRecDepth 20000 in
set_option maxHeartbeats 1000000 in
theorem chkSame_any (v u : Value) (c d : Chk) (w : World) (h : ChkAt w v c) (k : ChkAt w u d) :
    Calls Try.prog 18 #[v, u] w fun e w' => e = .returned (.bool (chkEq c d)) ∧ Below w.heap.size w w' := by
  obtain ⟨s, rfl, hrd⟩ := h
  obtain ⟨t, rfl, hrt⟩ := k
  obtain ⟨k1, f1, b1⟩ := c
  obtain ⟨k2, f2, b2⟩ := d
  simp only at *
  have HV := hid hrd
  have HU := hid hrt
  obtain ⟨p, cp, rfl, hlc, hcm, hpn, hcell⟩ := hrd
  obtain ⟨q, cq, rfl, hlq, hcq, hqn, hcelq⟩ := hrt
  clear hcell hcelq
  have hb1 := byte_lt k1
  have hb2 := byte_lt k2
  have hb3 := byte_lt f1
  have hb4 := byte_lt f2
  obtain ⟨W, hW⟩ : ∃ W, W = (w.alloc (.cells #[.int .u8 (k1.toNat : Int), .int .u8 (f1.toNat : Int), .slice p b1.length cp] 28 (0, 0))).alloc (.cells #[.int .u8 (k2.toNat : Int), .int .u8 (f2.toNat : Int), .slice q b2.length cq] 28 (0, 0)) := ⟨_, rfl⟩
  have HW := hid (show Below w.heap.size w W by rw [hW]; exact ((Below.refl _ _).alloc (Nat.le_refl _) _).alloc (by simp) _)
  have HE := hid hW
  clear hW
  have ne8 : ∀ x y : UInt8, ((x.toNat : Int) == (y.toNat : Int)) = decide (x = y) := fun x y => by
    rw [Bool.eq_iff_iff]
    simp only [beq_iff_eq, decide_eq_true_eq]
    exact ⟨fun h => UInt8.toNat_inj.1 (by omega), fun h => by rw [h]⟩
  by_cases h1 : k1 = k2
  · subst h1
    by_cases h2 : f1 = f2
    · subst h2
      have HQ := hid (show chkEq ⟨k1, f1, b1⟩ ⟨k1, f1, b2⟩ = decide (b1 = b2) by simp [chkEq])
      clear ne8
      go_enter Try.func18, Try.ntmps18
      go_wp2_with fail
      rw [← HE.out]
      refine (eqBytes_gr _ _ b1 b2 _ (HV.out.mono HW.out) (HU.out.mono HW.out)).mono ?_
      rintro e w' ⟨rfl, hb⟩
      have HB := hid (gr_trans HW.out hb)
      clear hb
      go_wp2_with fail
      go_ret
      exact ⟨by rw [HQ.out]; rfl, HB.out⟩
    · have HQ := hid (show chkEq ⟨k1, f1, b1⟩ ⟨k1, f2, b2⟩ = false by simp [chkEq, h2])
      have hn := ne8 f1 f2
      rw [decide_eq_false h2] at hn
      clear ne8 h2
      go_enter Try.func18, Try.ntmps18
      go_wp2_with fail
      go_ret
      exact ⟨by rw [HQ.out]; rfl, by rw [← HE.out]; exact HW.out⟩
  · have HQ := hid (show chkEq ⟨k1, f1, b1⟩ ⟨k2, f2, b2⟩ = false by simp [chkEq, h1])
    have hn := ne8 k1 k2
    rw [decide_eq_false h1] at hn
    clear ne8 h1
    go_enter Try.func18, Try.ntmps18
    go_wp2_with fail
    go_ret
    exact ⟨by rw [HQ.out]; rfl, by rw [← HE.out]; exact HW.out⟩
theorem chkSame_yes (v u : Value) (c : Chk) (w : World) (h : ChkAt w v c) (k : ChkAt w u c) :
    Calls Try.prog 18 #[v, u] w fun e w' => e = .returned (.bool true) ∧ Below w.heap.size w w' := by
  refine (chkSame_any v u c c w h k).mono ?_
  rintro e w' ⟨rfl, hb⟩
  exact ⟨by rw [(chkEq_iff c c).2 rfl], hb⟩
end Go.Proofs.Ytfiblhdejglpaaa

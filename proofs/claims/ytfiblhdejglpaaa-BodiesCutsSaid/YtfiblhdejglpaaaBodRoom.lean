/- Chunks over rows that Roomy made: facts of a region. Conditions: none. -/
import Derived.Test.YtfiblhdejglpaaaBodChkSame
import Derived.Test.YtfiblhdejglpaaaBaseE
import Derived.Test.YtfiblhdejglpaaaBaseC
namespace Go.FL
open Go.RowKit
theorem run_slice_from32 {P : Program} (t e : TypeId) (ht : P.underlying t = some (.slice e)) (hz : (P.info? e).map (·.size) = some 1) (p : Option Addr) (n c i : Nat) (hi : i ≤ n) (k : IntKind) (w : World) :
    (Instr.slice t (.slice p n c) (some (.int k (i : Int))) none none).run P w = .ok (sliced p i n c 1) w := by
  cases hq : P.info? e with
  | none => simp [hq] at hz
  | some inf =>
    have hs : inf.size = 1 := by simpa [hq] using hz
    simp [Instr.slice, run_underlying ht, Instr.sliceBounds, run_sliceBound, sizeOf, typeInfo, hq, hs, hi, sliced]
theorem run_slice_to {P : Program} (t e : TypeId) (ht : P.underlying t = some (.slice e)) (p : Option Addr) (n c i : Nat) (hi : i ≤ c) (hc : 0 < c) (k : IntKind) (hz : (P.info? e).map (·.size) = some 1) (w : World) :
    (Instr.slice t (.slice p n c) none (some (.int k (i : Int))) none).run P w = .ok (.slice p i c) w := by
  cases hq : P.info? e with
  | none => simp [hq] at hz
  | some inf =>
    have hs : inf.size = 1 := by simpa [hq] using hz
    have hc0 : ¬ c = 0 := by omega
    simp [Instr.slice, run_underlying ht, Instr.sliceBounds, run_sliceBound, sizeOf, typeInfo, hq, hs, hi, hc0]
    cases p <;> simp [Addr.add]
end Go.FL
namespace Go.Proofs.Ytfiblhdejglpaaa
open Go.RowKit Go.FL Go.ChangeShapes

def RoomF (B : Nat) (l : List UInt8) : Value → World → Prop := fun v w => Roomed w B v l
theorem RoomF.gr (B : Nat) (l : List UInt8) : Stab GrR (RoomF B l) := fun _ _ _ h k => h.mono k
theorem Roomed.base {w : World} {b b' : Nat} {v : Value} {l : List UInt8} (h : Roomed w b v l) (hb : b' ≤ b) : Roomed w b' v l := by
  obtain ⟨g, h1, h2⟩ := h
  exact ⟨g, Nat.le_trans hb h1, h2⟩
theorem Roomed.keep {w w' : World} {b : Nat} {v : Value} {l : List UInt8} {r : Option Nat} (h : Roomed w b v l) (hb : w.grownBy w' r) (hr : ∀ k, v.ownBlock = some k → r ≠ some k) : Roomed w' b v l := by
  obtain ⟨g, h1, rfl, h3, h4⟩ := h
  exact ⟨g, h1, rfl, h3.grown hb (hr g rfl), h4⟩
/-- A chunk by value over such a row. -/
def QF (B : Nat) (k f : UInt8) (l : List UInt8) : Value → World → Prop := fun v w => ∃ s, v = .agg #[.int .u8 (k.toNat : Int), .int .u8 (f.toNat : Int), s] ∧ Roomed w B s l
theorem QF.gr (B : Nat) (k f : UInt8) (l : List UInt8) : Stab GrR (QF B k f l) := fun _ _ _ ⟨s, h1, h2⟩ g => ⟨s, h1, h2.mono g⟩
theorem _root_.Go.FL.Own.neV {w : World} {b e u h : Nat} {v : Value} {l : List UInt8} {m : List Value} (hv : Own w b u v l) (hr : RowV w h e m) (he : e ≠ u) : ∀ k, v.ownBlock = some k → some h ≠ some k := by
  intro k hk
  rcases hv with ⟨rfl, rfl⟩ | ⟨g, sp, h1, rfl, h3, h4⟩
  · simp [Value.ownBlock] at hk
  · simp [Value.ownBlock] at hk
    subst hk
    intro e1
    simp at e1
    subst e1
    unfold RowV at hr
    unfold Row at h3
    rw [hr] at h3
    simp at h3
    exact he h3.2
/-- Such a row is no row of another type. -/
theorem Roomed.ne {w : World} {b e h : Nat} {v : Value} {l : List UInt8} {m : List Value} (hv : Roomed w b v l) (hr : RowV w h e m) (he : e ≠ 5) : ∀ k, v.ownBlock = some k → some h ≠ some k := by
  obtain ⟨g, h1, rfl, h3, h4⟩ := hv
  intro k hk
  simp [Value.ownBlock] at hk
  subst hk
  intro e1
  simp at e1
  subst e1
  unfold RowV at hr
  unfold Row at h3
  rw [hr] at h3
  simp at h3
  exact he h3.2
end Go.Proofs.Ytfiblhdejglpaaa

/- What a slice of bools reads as when it comes in. Conditions: none. -/
import Derived.Test.YtjihcjfenpemfaaDoorRows
import Derived.Test.YtjihcjfenpemfaaDoorOpenRows
import Derived.ChangeArms
namespace Go.FL
open Go.RowKit
/-- The slice v reads as the bools ts. -/
def BoolsAt (W : World) (v : Value) (ts : List Bool) : Prop :=
  ∃ p c, v = .slice p ts.length c ∧ ts.length ≤ c ∧ c ≤ maxLen ∧ ∀ i (_ : i < ts.length), ∃ b off, p = some ⟨b, off, none⟩ ∧ W.cell? ⟨b, off + i, none⟩ = some (.bool ts[i])
theorem bool_of_trod {H : Type} {enc : TypeId × Value → H} {P : Program} {w : World} {base : Nat} {sp : Nat → Bool} {held : Bool} {fuel : Nat} {t : TypeId} {c : Value} {y : DataW H × List MemPlace}
    (ht : P.underlying t = some .bool) (h : DataW.trod enc P w base sp held fuel t [c] = some y) : ∃ b, c = .bool b := by
  cases fuel with
  | zero => simp [DataW.trod] at h
  | succ fuel =>
    cases c <;> simp [DataW.trod, ht] at h
    exact ⟨_, rfl⟩
end Go.FL
namespace Go.Proofs.YtjihcjfenpemfaaDoor
open Go.RowKit Go.FL Go.ChangeShapes Go.WideShapes
theorem boolsArg {H : Type} {enc : TypeId × Value → H} {W : World} {r : Reach} {b0 : Nat} {spare : Nat → Bool} {held : Bool} {v : Value} {d : DataW H} {p : List MemPlace}
    (hv : Value.okWide Tryd.prog W r b0 35 v) (h : DataW.Trod enc Tryd.prog W 0 spare held 35 v d p) : ∃ ts : List Bool, BoolsAt W v ts := by
  obtain ⟨a, n, c, rfl⟩ := okWide_slice Tryd.underlying35 hv
  obtain ⟨h1, h2, h3, h4⟩ := open_elems Tryd.underlying35 (by kernel_rfl) (show 0 < 1 by decide) h
  obtain ⟨ts, hl, hq⟩ := choose_list (fun i (t : Bool) => ∃ b off, a = some ⟨b, off, none⟩ ∧ W.cell? ⟨b, off + i, none⟩ = some (.bool t)) n (fun i hi => by
    obtain ⟨b, off, cs, ea, hcl, hcell, fuel, y, htr⟩ := h4 i hi
    obtain ⟨x, rfl⟩ : ∃ x, cs = [x] := by
      match cs, hcl with
      | [x], _ => exact ⟨x, rfl⟩
    obtain ⟨t, rfl⟩ := bool_of_trod Tryd.underlying4 htr
    exact ⟨t, b, off, ea, by simpa using hcell 0 (by decide)⟩)
  exact ⟨ts, a, c, by rw [hl], by omega, h2, hq⟩
end Go.Proofs.YtjihcjfenpemfaaDoor

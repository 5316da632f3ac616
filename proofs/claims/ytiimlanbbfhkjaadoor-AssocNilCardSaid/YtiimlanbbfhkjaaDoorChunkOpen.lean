/- What an argument of the type Chunk reads as. Conditions: none. -/
import Derived.Test.YtiimlanbbfhkjaaDoorRows
import Derived.Test.YtiimlanbbfhkjaaDoorBaseA
import Derived.Test.YtiimlanbbfhkjaaDoorBaseB
import Derived.Lib.SmallJoins
import Derived.ChangeArms
set_option linter.unusedSimpArgs false
set_option linter.unusedVariables false






namespace Go.FL

open Go.RowKit

/-- A chunk by value. -/
def ChkAt (W : World) (v : Value) (c : Chk) : Prop := ∃ s, v = .agg #[.int .u8 (c.k.toNat : Int), .int .u8 (c.f.toNat : Int), s] ∧ Rd W s c.b
theorem ChkAt.mono {w w' : World} {v : Value} {c : Chk} (h : ChkAt w v c) (hb : Below w.heap.size w w') : ChkAt w' v c := by
  obtain ⟨s, h1, h2⟩ := h
  exact ⟨s, h1, h2.mono hb⟩
end Go.FL

namespace Go.Proofs.YtiimlanbbfhkjaaDoor

open Go.RowKit Go.FL Go.ChangeShapes Go.WideShapes Go.ChangeAt

set_option maxRecDepth 20000 in
theorem chunk_open {H : Type} {enc : TypeId × Value → H} {W : World} {r : Reach} {b0 : Nat} {spare : Nat → Bool} {held : Bool} {v : Value} {d : DataW H} {p : List MemPlace}
    (hv : Value.okWide Tryd.prog W r b0 47 v) (h : DataW.Trod enc Tryd.prog W 0 spare held 47 v d p) : ∃ x : Chk, ChkAt W v x := by
  obtain ⟨v0, v1, v2, y0, y1, y2, n, rfl, _, _, h0, h1, h2⟩ := Joins.open_agg3 Tryd.underlying47 (by kernel_rfl) (by kernel_rfl) hv h
  obtain ⟨a, l, c, e0⟩ := Joins.slice_form Tryd.underlying25 h2
  simp at e0
  subst e0
  obtain ⟨l', hl⟩ := rd_of_trod Tryd.underlying25 Tryd.underlying5 (by kernel_rfl) ⟨n, h2⟩
  obtain ⟨n1, e1, _, w1⟩ := DataW.trod_int Tryd.underlying5 h0
  obtain ⟨n2, e2, _, w2⟩ := DataW.trod_int Tryd.underlying5 h1
  simp at e1 e2
  subst e1 e2
  obtain ⟨k, rfl⟩ := u8_of _ w1
  obtain ⟨f, rfl⟩ := u8_of _ w2
  exact ⟨⟨k, f, l'⟩, _, rfl, hl⟩
end Go.Proofs.YtiimlanbbfhkjaaDoor

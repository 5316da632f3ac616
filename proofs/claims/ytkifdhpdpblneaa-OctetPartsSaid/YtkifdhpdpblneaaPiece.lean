/- What an argument of the type Piece reads as. Conditions: none. -/
import Derived.Test.YtkifdhpdpblneaaRows
import Derived.Test.YtkifdhpdpblneaaOpen
import Derived.Lib.SmallJoins
import Derived.ChangeArms
namespace Go.Proofs.Ytkifdhpdpblneaa
open Go.RowKit Go.FL Go.ChangeShapes Go.WideShapes Go.ChangeAt

/-- A piece as it lies: its bytes, where it begins, how long it is, where it is cut. -/
def PieceAt (W : World) (v : Value) (l : List UInt8) (a n c : Int) : Prop :=
  ∃ s, v = .agg #[s, .int .i64 a, .int .i64 n, .int .i64 c] ∧ Rd W s l ∧ (Lit.int .i64 a).wf = true ∧ (Lit.int .i64 n).wf = true ∧ (Lit.int .i64 c).wf = true
structure PieceV where
  l : List UInt8
  a : Int
  n : Int
  c : Int
theorem piece_open {H : Type} {enc : TypeId × Value → H} {W : World} {r : Reach} {b0 : Nat} {spare : Nat → Bool} {held : Bool} {v : Value} {d : DataW H} {p : List MemPlace}
    (hv : Value.okWide Try.prog W r b0 45 v) (h : DataW.Trod enc Try.prog W 0 spare held 45 v d p) : ∃ x : PieceV, PieceAt W v x.l x.a x.n x.c := by
  obtain ⟨v0, v1, v2, v3, y0, y1, y2, y3, n, rfl, _, _, h0, h1, h2, h3⟩ := Joins.open_agg4 Try.underlying45 (by kernel_rfl) (by kernel_rfl) hv h
  obtain ⟨a, l, c, e0⟩ := Joins.slice_form Try.underlying22 h0
  simp at e0
  subst e0
  obtain ⟨l', hl⟩ := rd_of_trod Try.underlying22 Try.underlying5 (by kernel_rfl) ⟨n, h0⟩
  obtain ⟨n1, e1, _, w1⟩ := DataW.trod_int Try.underlying3 h1
  obtain ⟨n2, e2, _, w2⟩ := DataW.trod_int Try.underlying3 h2
  obtain ⟨n3, e3, _, w3⟩ := DataW.trod_int Try.underlying3 h3
  simp at e1 e2 e3
  subst e1 e2 e3
  exact ⟨⟨l', n1, n2, n3⟩, _, rfl, hl, w1, w2, w3⟩
end Go.Proofs.Ytkifdhpdpblneaa

/- What an argument of the type Three reads as. Conditions: none. -/
import Derived.Test.YtcjkhhhinjknhaaDoorRows
import Derived.Test.YtcjkhhhinjknhaaDoorOpen
import Derived.Lib.SmallJoins
import Derived.ChangeArms
namespace Go.Proofs.YtcjkhhhinjknhaaDoor
open Go.RowKit Go.FL Go.ChangeShapes Go.WideShapes Go.ChangeAt

structure ThreeV where
  a : List UInt8
  b : List UInt8
  c : List UInt8
  at_ : Int
def ThreeAt (W : World) (v : Value) (x : ThreeV) : Prop :=
  ∃ s t u, v = .agg #[s, t, u, .int .i64 x.at_] ∧ Rd W s x.a ∧ Rd W t x.b ∧ Rd W u x.c ∧ (Lit.int .i64 x.at_).wf = true
theorem three_open {H : Type} {enc : TypeId × Value → H} {W : World} {r : Reach} {b0 : Nat} {spare : Nat → Bool} {held : Bool} {v : Value} {d : DataW H} {p : List MemPlace}
    (hv : Value.okWide Tryd.prog W r b0 31 v) (h : DataW.Trod enc Tryd.prog W 0 spare held 31 v d p) : ∃ x : ThreeV, ThreeAt W v x := by
  obtain ⟨v0, v1, v2, v3, y0, y1, y2, y3, n, rfl, _, _, h0, h1, h2, h3⟩ := Joins.open_agg4 Tryd.underlying31 (by kernel_rfl) (by kernel_rfl) hv h
  obtain ⟨a, l, c, e0⟩ := Joins.slice_form Tryd.underlying22 h0
  obtain ⟨a2, l2, c2, e1⟩ := Joins.slice_form Tryd.underlying22 h1
  obtain ⟨a3, l3, c3, e2⟩ := Joins.slice_form Tryd.underlying22 h2
  simp at e0 e1 e2
  subst e0 e1 e2
  obtain ⟨m0, hl0⟩ := rd_of_trod Tryd.underlying22 Tryd.underlying5 (by kernel_rfl) ⟨n, h0⟩
  obtain ⟨m1, hl1⟩ := rd_of_trod Tryd.underlying22 Tryd.underlying5 (by kernel_rfl) ⟨n, h1⟩
  obtain ⟨m2, hl2⟩ := rd_of_trod Tryd.underlying22 Tryd.underlying5 (by kernel_rfl) ⟨n, h2⟩
  obtain ⟨n3, e3, _, w3⟩ := DataW.trod_int Tryd.underlying3 h3
  simp at e3
  subst e3
  exact ⟨⟨m0, m1, m2, n3⟩, _, _, _, rfl, hl0, hl1, hl2, w3⟩
end Go.Proofs.YtcjkhhhinjknhaaDoor

/- What an argument of the type Plain reads as. Conditions: none. -/
import Derived.Test.YtfiblhdejglpaaaRows
import Derived.Test.YtfiblhdejglpaaaBaseA
import Derived.Lib.SmallJoins
import Derived.ChangeArms
namespace Go.FL
structure PlainD where
  k : UInt8
  at_ : Int
  cum : Nat
def PlainD.val (x : PlainD) : Value := .agg #[.int .u8 (x.k.toNat : Int), .int .i64 x.at_, .int .u32 (x.cum : Int)]
def PlainAt (v : Value) (x : PlainD) : Prop := v = x.val ∧ x.cum < 4294967296
end Go.FL
namespace Go.Proofs.Ytfiblhdejglpaaa
open Go.RowKit Go.FL Go.ChangeShapes Go.WideShapes Go.ChangeAt

set_option maxRecDepth 20000 in
theorem plain_open {H : Type} {enc : TypeId × Value → H} {W : World} {r : Reach} {b0 : Nat} {spare : Nat → Bool} {held : Bool} {v : Value} {d : DataW H} {p : List MemPlace}
    (hv : Value.okWide Try.prog W r b0 61 v) (h : DataW.Trod enc Try.prog W 0 spare held 61 v d p) : ∃ x : PlainD, PlainAt v x := by
  obtain ⟨v0, v1, v2, y0, y1, y2, n, rfl, _, _, h0, h1, h2⟩ := Joins.open_agg3 Try.underlying61 (by kernel_rfl) (by kernel_rfl) hv h
  obtain ⟨n0, e0, _, w0⟩ := DataW.trod_int Try.underlying5 h0
  obtain ⟨n1, e1, _, w1⟩ := DataW.trod_int Try.underlying2 h1
  have z2 : Try.prog.cellsOf 22 = 1 := by kernel_rfl
  obtain ⟨n2, e2, _, w2⟩ := DataW.trod_int Try.underlying22 h2
  simp at e0 e1 e2
  subst e0 e1 e2
  obtain ⟨k, rfl⟩ := u8_of _ w0
  have := bounds_u32 w2
  obtain ⟨m, rfl⟩ : ∃ m : Nat, n2 = (m : Int) := ⟨n2.toNat, by omega⟩
  exact ⟨⟨k, n1, m⟩, rfl, by show m < _; omega⟩
end Go.Proofs.Ytfiblhdejglpaaa

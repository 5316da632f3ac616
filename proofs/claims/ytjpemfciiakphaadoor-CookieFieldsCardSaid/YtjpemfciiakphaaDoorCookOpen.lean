/- What an argument of the type Cookie reads as. Conditions: none. -/
import Derived.Test.YtjpemfciiakphaaDoorRows
import Derived.Test.YtjpemfciiakphaaDoorOpen
import Derived.Test.YtjpemfciiakphaaDoorCookSmall
import Derived.Lib.SmallJoins
import Derived.ChangeArms
namespace Go.FL
open Go.RowKit
theorem nat_of_u32 {a : Int} (h : (Lit.int .u32 a).wf = true) : ∃ n : Nat, a = (n : Int) ∧ n < 4294967296 := by
  have := bounds_u32 h
  exact ⟨a.toNat, by omega, by omega⟩
theorem nat_of_u16 {a : Int} (h : (Lit.int .u16 a).wf = true) : ∃ n : Nat, a = (n : Int) ∧ n < 65536 := by
  have := bounds_u16 h
  exact ⟨a.toNat, by omega, by omega⟩
/-- A cookie by value. -/
def CookAt (v : Value) (c : CookD) : Prop := v = c.val ∧ c.wf
end Go.FL
namespace Go.Proofs.YtjpemfciiakphaaDoor
open Go.RowKit Go.FL Go.ChangeShapes Go.WideShapes Go.ChangeAt

theorem cook_of_trod {H : Type} {enc : TypeId × Value → H} {W : World} {spare : Nat → Bool} {held : Bool} {fuel : Nat} {cs : List Value} {y : DataW H × List MemPlace}
    (hl : cs.length = 8) (h : DataW.trod enc Tryd.prog W 0 spare held fuel 26 cs = some y) : ∃ c : CookD, cs = c.cells ∧ c.wf := by
  match cs, hl with
  | [c0, c1, c2, c3, c4, c5, c6, c7], _ =>
    obtain ⟨xs, n, _, hx, _, hlen, hg⟩ := DataW.trod_struct Tryd.underlying26 h
    have za : Tryd.prog.cellsOf 2 = 1 := by kernel_rfl
    have zb : Tryd.prog.cellsOf 23 = 1 := by kernel_rfl
    have zc : Tryd.prog.cellsOf 24 = 1 := by kernel_rfl
    match xs, hlen with
    | [y0, y1, y2, y3, y4, y5, y6, y7], _ =>
      have h0 : DataW.trod enc Tryd.prog W 0 spare held n 2 [c0] = some y0 := by simpa [za, zb, zc] using hg 0 _ rfl
      have h1 : DataW.trod enc Tryd.prog W 0 spare held n 23 [c1] = some y1 := by simpa [za, zb, zc] using hg 1 _ rfl
      have h2 : DataW.trod enc Tryd.prog W 0 spare held n 23 [c2] = some y2 := by simpa [za, zb, zc] using hg 2 _ rfl
      have h3 : DataW.trod enc Tryd.prog W 0 spare held n 23 [c3] = some y3 := by simpa [za, zb, zc] using hg 3 _ rfl
      have h4 : DataW.trod enc Tryd.prog W 0 spare held n 23 [c4] = some y4 := by simpa [za, zb, zc] using hg 4 _ rfl
      have h5 : DataW.trod enc Tryd.prog W 0 spare held n 23 [c5] = some y5 := by simpa [za, zb, zc] using hg 5 _ rfl
      have h6 : DataW.trod enc Tryd.prog W 0 spare held n 24 [c6] = some y6 := by simpa [za, zb, zc] using hg 6 _ rfl
      have h7 : DataW.trod enc Tryd.prog W 0 spare held n 24 [c7] = some y7 := by simpa [za, zb, zc] using hg 7 _ rfl
      obtain ⟨n0, e0, _, w0⟩ := DataW.trod_int Tryd.underlying2 h0
      obtain ⟨n1, e1, _, w1⟩ := DataW.trod_int Tryd.underlying23 h1
      obtain ⟨n2, e2, _, w2⟩ := DataW.trod_int Tryd.underlying23 h2
      obtain ⟨n3, e3, _, w3⟩ := DataW.trod_int Tryd.underlying23 h3
      obtain ⟨n4, e4, _, w4⟩ := DataW.trod_int Tryd.underlying23 h4
      obtain ⟨n5, e5, _, w5⟩ := DataW.trod_int Tryd.underlying23 h5
      obtain ⟨n6, e6, _, w6⟩ := DataW.trod_int Tryd.underlying24 h6
      obtain ⟨n7, e7, _, w7⟩ := DataW.trod_int Tryd.underlying24 h7
      simp at e0 e1 e2 e3 e4 e5 e6 e7
      subst e0 e1 e2 e3 e4 e5 e6 e7
      have bb0 := bounds_i64 w0
      obtain ⟨m1, rfl, b1⟩ := nat_of_u32 w1
      obtain ⟨m2, rfl, b2⟩ := nat_of_u32 w2
      obtain ⟨m3, rfl, b3⟩ := nat_of_u32 w3
      obtain ⟨m4, rfl, b4⟩ := nat_of_u32 w4
      obtain ⟨m5, rfl, b5⟩ := nat_of_u32 w5
      obtain ⟨m6, rfl, b6⟩ := nat_of_u16 w6
      obtain ⟨m7, rfl, b7⟩ := nat_of_u16 w7
      exact ⟨⟨n0, m1, m2, m3, m4, m5, m6, m7⟩, rfl, ⟨bb0.1, by show n0 < _; omega⟩, b1, b2, b3, b4, b5, b6, b7⟩
theorem cook_open {H : Type} {enc : TypeId × Value → H} {W : World} {r : Reach} {b0 : Nat} {spare : Nat → Bool} {held : Bool} {v : Value} {d : DataW H} {p : List MemPlace}
    (hv : Value.okWide Tryd.prog W r b0 26 v) (h : DataW.Trod enc Tryd.prog W 0 spare held 26 v d p) : ∃ x : CookD, CookAt v x := by
  obtain ⟨cs, rfl, hsz⟩ := okWide_struct Tryd.underlying26 hv
  have hC : Tryd.prog.cellsOf 26 = 8 := by kernel_rfl
  obtain ⟨fuel, hf⟩ := h
  obtain ⟨c, hc, hw⟩ := cook_of_trod (cs := cs.toList) (by simp [hsz, hC]) hf
  refine ⟨c, ?_, hw⟩
  cases cs
  simp only at hc
  subst hc
  rfl
end Go.Proofs.YtjpemfciiakphaaDoor

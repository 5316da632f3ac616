/- What an argument of the type Op reads as. Conditions: none. -/
import Derived.Test.YtiimlanbbfhkjaaDoorChunksOpen
set_option linter.unusedSimpArgs false
set_option linter.unusedVariables false


namespace Go.FL

theorem nat_of_u32 {a : Int} (h : (Lit.int .u32 a).wf = true) : ∃ n : Nat, a = (n : Int) ∧ n < 4294967296 := by
  simp [Lit.wf, IntKind.min, IntKind.max, IntKind.signed, IntKind.bits] at h
  exact ⟨a.toNat, by omega, by omega⟩
structure OpD where
  kind : Int
  wait : Int
  act : Bool
  own : Bool
  tag : Nat
  tsn : Nat
  path : Int
  c : Chk
  ptag : Nat
  cs : List Chk
def OpAt (W : World) (v : Value) (x : OpD) : Prop :=
  ∃ sb sc, v = .agg #[.int .i64 x.kind, .int .u16 x.wait, .bool x.act, .bool x.own, .int .u32 (x.tag : Int), .int .u32 (x.tsn : Int), .int .i64 x.path, .int .u8 (x.c.k.toNat : Int), .int .u8 (x.c.f.toNat : Int), sb, .int .u32 (x.ptag : Int), sc] ∧ Rd W sb x.c.b ∧ ChunksAt W sc x.cs ∧ x.tag < 4294967296 ∧ x.tsn < 4294967296
end Go.FL

namespace Go.Proofs.YtiimlanbbfhkjaaDoor

open Go.RowKit Go.FL Go.ChangeShapes Go.WideShapes Go.ChangeAt

theorem pktA_of_trod {H : Type} {enc : TypeId × Value → H} {W : World} {spare : Nat → Bool} {held : Bool} {fuel : Nat} {cs : List Value} {y : DataW H × List MemPlace}
    (hl : cs.length = 2) (h : DataW.trod enc Tryd.prog W 0 spare held fuel 45 cs = some y) : ∃ (t : Nat) (l : List Chk) (s : Value), cs = [.int .u32 (t : Int), s] ∧ ChunksAt W s l := by
  match cs, hl with
  | [c0, c1], _ =>
    obtain ⟨xs, fu, _, hx, _, hlen, hg⟩ := DataW.trod_struct Tryd.underlying45 h
    have z0 : Tryd.prog.cellsOf 22 = 1 := by kernel_rfl
    have z1 : Tryd.prog.cellsOf 43 = 1 := by kernel_rfl
    match xs, hlen with
    | [y0, y1], _ =>
      have h0 : DataW.trod enc Tryd.prog W 0 spare held fu 22 [c0] = some y0 := by simpa [z0, z1] using hg 0 _ rfl
      obtain ⟨n0, e0, _, w0⟩ := DataW.trod_int Tryd.underlying22 h0
      simp at e0
      subst e0
      obtain ⟨m0, rfl, b0⟩ := nat_of_u32 w0
      have h1 : DataW.trod enc Tryd.prog W 0 spare held fu 43 [c1] = some y1 := by simpa [z0, z1] using hg 1 _ rfl
      obtain ⟨a1, l1, q1, e1⟩ := Joins.slice_form Tryd.underlying43 h1
      simp at e1
      subst e1
      obtain ⟨m1, r1⟩ := chunks_of_trod ⟨fu, h1⟩
      exact ⟨m0, m1, _, rfl, r1⟩
theorem op_of_trod {H : Type} {enc : TypeId × Value → H} {W : World} {spare : Nat → Bool} {held : Bool} {fuel : Nat} {cs : List Value} {y : DataW H × List MemPlace}
    (hl : cs.length = 12) (h : DataW.trod enc Tryd.prog W 0 spare held fuel 64 cs = some y) : ∃ x : OpD, OpAt W (.agg cs.toArray) x := by
  match cs, hl with
  | [c0, c1, c2, c3, c4, c5, c6, c7, c8, c9, c10, c11], _ =>
    obtain ⟨xs, fu, _, hx, _, hlen, hg⟩ := DataW.trod_struct Tryd.underlying64 h
    have z0 : Tryd.prog.cellsOf 3 = 1 := by kernel_rfl
    have z1 : Tryd.prog.cellsOf 29 = 1 := by kernel_rfl
    have z2 : Tryd.prog.cellsOf 4 = 1 := by kernel_rfl
    have z3 : Tryd.prog.cellsOf 22 = 1 := by kernel_rfl
    have z4 : Tryd.prog.cellsOf 47 = 3 := by kernel_rfl
    have z5 : Tryd.prog.cellsOf 45 = 2 := by kernel_rfl
    match xs, hlen with
    | [y0, y1, y2, y3, y4, y5, y6, y7, y8], _ =>
      have h0 : DataW.trod enc Tryd.prog W 0 spare held fu 3 [c0] = some y0 := by simpa [z0, z1, z2, z3, z4, z5] using hg 0 _ rfl
      obtain ⟨n0, e0, _, w0⟩ := DataW.trod_int Tryd.underlying3 h0
      have h1 : DataW.trod enc Tryd.prog W 0 spare held fu 29 [c1] = some y1 := by simpa [z0, z1, z2, z3, z4, z5] using hg 1 _ rfl
      obtain ⟨n1, e1, _, w1⟩ := DataW.trod_int Tryd.underlying29 h1
      have h2 : DataW.trod enc Tryd.prog W 0 spare held fu 4 [c2] = some y2 := by simpa [z0, z1, z2, z3, z4, z5] using hg 2 _ rfl
      obtain ⟨b2, e2, _⟩ := DataW.trod_bool Tryd.underlying4 h2
      have h3 : DataW.trod enc Tryd.prog W 0 spare held fu 4 [c3] = some y3 := by simpa [z0, z1, z2, z3, z4, z5] using hg 3 _ rfl
      obtain ⟨b3, e3, _⟩ := DataW.trod_bool Tryd.underlying4 h3
      have h4 : DataW.trod enc Tryd.prog W 0 spare held fu 22 [c4] = some y4 := by simpa [z0, z1, z2, z3, z4, z5] using hg 4 _ rfl
      obtain ⟨n4, e4, _, w4⟩ := DataW.trod_int Tryd.underlying22 h4
      have h5 : DataW.trod enc Tryd.prog W 0 spare held fu 22 [c5] = some y5 := by simpa [z0, z1, z2, z3, z4, z5] using hg 5 _ rfl
      obtain ⟨n5, e5, _, w5⟩ := DataW.trod_int Tryd.underlying22 h5
      have h6 : DataW.trod enc Tryd.prog W 0 spare held fu 3 [c6] = some y6 := by simpa [z0, z1, z2, z3, z4, z5] using hg 6 _ rfl
      obtain ⟨n6, e6, _, w6⟩ := DataW.trod_int Tryd.underlying3 h6
      have h7 : DataW.trod enc Tryd.prog W 0 spare held fu 47 [c7, c8, c9] = some y7 := by simpa [z0, z1, z2, z3, z4, z5] using hg 7 _ rfl
      obtain ⟨x7, s7, e7, r7⟩ := chk_of_trod rfl h7
      have h8 : DataW.trod enc Tryd.prog W 0 spare held fu 45 [c10, c11] = some y8 := by simpa [z0, z1, z2, z3, z4, z5] using hg 8 _ rfl
      obtain ⟨t8, l8, s8, e8, r8⟩ := pktA_of_trod rfl h8
      simp at e0 e1 e2 e3 e4 e5 e6 e7 e8
      obtain ⟨rfl, rfl, rfl⟩ := e7
      obtain ⟨rfl, rfl⟩ := e8
      subst e0 e1 e2 e3 e4 e5 e6
      obtain ⟨m4, rfl, g4⟩ := nat_of_u32 w4
      obtain ⟨m5, rfl, g5⟩ := nat_of_u32 w5
      exact ⟨⟨n0, n1, b2, b3, m4, m5, n6, x7, t8, l8⟩, _, _, rfl, r7, r8, g4, g5⟩
set_option maxRecDepth 20000 in
theorem op_open {H : Type} {enc : TypeId × Value → H} {W : World} {r : Reach} {b0 : Nat} {spare : Nat → Bool} {held : Bool} {v : Value} {d : DataW H} {p : List MemPlace}
    (hv : Value.okWide Tryd.prog W r b0 64 v) (h : DataW.Trod enc Tryd.prog W 0 spare held 64 v d p) : ∃ x, OpAt W v x := by
  obtain ⟨cs, rfl, hsz⟩ := okWide_struct Tryd.underlying64 hv
  have hC : Tryd.prog.cellsOf 64 = 12 := by kernel_rfl
  obtain ⟨fuel, hf⟩ := h
  obtain ⟨x, hx⟩ := op_of_trod (cs := cs.toList) (by simp [hsz, hC]) hf
  exact ⟨x, by simpa using hx⟩
end Go.Proofs.YtiimlanbbfhkjaaDoor

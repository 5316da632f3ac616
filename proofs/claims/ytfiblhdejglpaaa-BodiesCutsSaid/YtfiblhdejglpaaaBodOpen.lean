/- What the arguments of the laws of layer 9 read as. Conditions: none. -/
import Derived.Test.YtfiblhdejglpaaaBodWorks
import Derived.Test.YtfiblhdejglpaaaOpenRows
import Derived.Test.YtfiblhdejglpaaaBaseA
import Derived.Lib.SmallJoins
import Derived.ChangeArms
namespace Go.FL
open Go.RowKit
theorem nat_of_u32 {a : Int} (h : (Lit.int .u32 a).wf = true) : ∃ n : Nat, a = (n : Int) ∧ n < 4294967296 := by
  have := bounds_u32 h
  exact ⟨a.toNat, by omega, by omega⟩
theorem nat_of_u16 {a : Int} (h : (Lit.int .u16 a).wf = true) : ∃ n : Nat, a = (n : Int) ∧ n < 65536 := by
  have := bounds_u16 h
  exact ⟨a.toNat, by omega, by omega⟩
/-- What arguments by value read as, each number within its size. -/
def DataL (W : World) (cs : List Value) (d : DataD) : Prop := DataAt W (.agg cs.toArray) d ∧ d.wf
def InitL (W : World) (cs : List Value) (d : InitD) : Prop := InitAt W (.agg cs.toArray) d ∧ d.wf
def SackL (W : World) (cs : List Value) (d : SackD) : Prop := SackAt W (.agg cs.toArray) d ∧ d.wf
def FwdL (W : World) (cs : List Value) (d : FwdD) : Prop := FwdAt W (.agg cs.toArray) d ∧ d.wf
structure AllD where
  ack : Bool
  data : DataD
  init : InitD
  sack : SackD
  fwd : FwdD
  at_ : Int
  cum : Nat
def AllD.wf (a : AllD) : Prop := a.data.wf ∧ a.init.wf ∧ a.sack.wf ∧ a.fwd.wf ∧ (-9223372036854775808 ≤ a.at_ ∧ a.at_ ≤ 9223372036854775807) ∧ a.cum < 4294967296
/-- All's cells, one behind the other. -/
def AllL (W : World) (cs : List Value) (a : AllD) : Prop :=
  ∃ (s1 s2 s3 s4 s5 : Value), cs = [.bool a.ack, .int .u32 (a.data.tsn : Int), .int .u16 (a.data.st : Int), .int .u16 (a.data.ssn : Int), .bool a.data.un, .bool a.data.fi, .bool a.data.la, s1,
    .int .u32 (a.init.tag : Int), .int .u32 (a.init.rwnd : Int), .int .u16 (a.init.out : Int), .int .u16 (a.init.in_ : Int), .int .u32 (a.init.tsn : Int), s2,
    .int .u32 (a.sack.cum : Int), .int .u32 (a.sack.rwnd : Int), s3, s4, .int .u32 (a.fwd.cum : Int), s5, .int .i64 a.at_, .int .u32 (a.cum : Int)] ∧
    Rd W s1 a.data.b ∧ Rd W s2 a.init.ck ∧ RdP W s3 a.sack.gaps ∧ RdV W s4 (a.sack.dups.map fun x : Nat => Value.int .u32 (x : Int)) ∧ RdP W s5 a.fwd.skips ∧ a.wf
end Go.FL
namespace Go.Proofs.Ytfiblhdejglpaaa
open Go.RowKit Go.FL Go.ChangeShapes Go.WideShapes Go.ChangeAt Go.Joins Go.Deep

theorem pairs_of_trod {H : Type} {enc : TypeId × Value → H} {W : World} {spare : Nat → Bool} {held : Bool} {t e : TypeId} {f0 f1 : Field} {a : Option Addr} {n c : Nat} {d : DataW H} {p : List MemPlace}
    (ht : Try.prog.underlying t = some (.slice e)) (he : Try.prog.underlying e = some (.struct #[f0, f1])) (hc : Try.prog.cellsOf e = 2) (h0 : Try.prog.underlying f0.type = some (.int .u16)) (h1 : Try.prog.underlying f1.type = some (.int .u16)) (z0 : Try.prog.cellsOf f0.type = 1) (z1 : Try.prog.cellsOf f1.type = 1) (o0 : f0.offset = 0) (o1 : f1.offset = 1)
    (h : DataW.Trod enc Try.prog W 0 spare held t (.slice a n c) d p) : ∃ l, RdP W (.slice a n c) l ∧ pairsWf l := by
  obtain ⟨hn, hcm, hnone, hel⟩ := open_elems ht hc (by decide) h
  have hx : ∀ i, i < n → ∃ x : Nat × Nat, (∃ b off, a = some ⟨b, off, none⟩ ∧ W.cell? ⟨b, off + i * 2, none⟩ = some (.int .u16 (x.1 : Int)) ∧ W.cell? ⟨b, off + i * 2 + 1, none⟩ = some (.int .u16 (x.2 : Int))) ∧ x.1 < 65536 ∧ x.2 < 65536 := by
    intro i hi
    obtain ⟨b, off, cs, ha, hlen, hcell, fuel, y, htr⟩ := hel i hi
    match cs, hlen with
    | [u, v], _ =>
      obtain ⟨xs, fu, _, hx, _, hlen2, hg⟩ := DataW.trod_struct he htr
      obtain ⟨y0, y1, rfl⟩ : ∃ y0 y1, xs = [y0, y1] := by
        match xs, hlen2 with
        | [y0, y1], _ => exact ⟨_, _, rfl⟩
      have k0' : DataW.trod enc Try.prog W 0 spare held fu f0.type [u] = some y0 := by simpa [z0, z1, o0, o1] using hg 0 _ rfl
      have k1' : DataW.trod enc Try.prog W 0 spare held fu f1.type [v] = some y1 := by simpa [z0, z1, o0, o1] using hg 1 _ rfl
      obtain ⟨n0, e0, _, w0⟩ := DataW.trod_int h0 k0'
      obtain ⟨n1, e1, _, w1⟩ := DataW.trod_int h1 k1'
      simp at e0 e1
      subst e0 e1
      obtain ⟨m0, rfl, b0⟩ := nat_of_u16 w0
      obtain ⟨m1, rfl, b1⟩ := nat_of_u16 w1
      exact ⟨(m0, m1), ⟨b, off, ha, hcell 0 (by omega), hcell 1 (by omega)⟩, b0, b1⟩
  obtain ⟨l, hl, hq⟩ := choose_list _ n hx
  refine ⟨l, ⟨a, c, by rw [hl], by omega, hcm, hnone, fun j hj => (hq j hj).1⟩, fun g hg => ?_⟩
  obtain ⟨i, hi, rfl⟩ := List.mem_iff_getElem.1 hg
  exact (hq i hi).2
theorem gaps_of_trod {H : Type} {enc : TypeId × Value → H} {W : World} {spare : Nat → Bool} {held : Bool} {a : Option Addr} {n c : Nat} {d : DataW H} {p : List MemPlace}
    (h : DataW.Trod enc Try.prog W 0 spare held 42 (.slice a n c) d p) : ∃ l, RdP W (.slice a n c) l ∧ pairsWf l :=
  pairs_of_trod Try.underlying42 Try.underlying80 (by kernel_rfl) Try.underlying23 Try.underlying23 (by kernel_rfl) (by kernel_rfl) rfl rfl h
theorem skips_of_trod {H : Type} {enc : TypeId × Value → H} {W : World} {spare : Nat → Bool} {held : Bool} {a : Option Addr} {n c : Nat} {d : DataW H} {p : List MemPlace}
    (h : DataW.Trod enc Try.prog W 0 spare held 47 (.slice a n c) d p) : ∃ l, RdP W (.slice a n c) l ∧ pairsWf l :=
  pairs_of_trod Try.underlying47 Try.underlying101 (by kernel_rfl) Try.underlying23 Try.underlying23 (by kernel_rfl) (by kernel_rfl) rfl rfl h
theorem nums_of_trod {H : Type} {enc : TypeId × Value → H} {W : World} {spare : Nat → Bool} {held : Bool} {a : Option Addr} {n c : Nat} {d : DataW H} {p : List MemPlace}
    (h : DataW.Trod enc Try.prog W 0 spare held 43 (.slice a n c) d p) : ∃ l : List Nat, RdV W (.slice a n c) (l.map fun x : Nat => Value.int .u32 (x : Int)) ∧ numsWf l := by
  obtain ⟨hn, hcm, hnone, hel⟩ := open_elems Try.underlying43 (show Try.prog.cellsOf 22 = 1 by kernel_rfl) (by decide) h
  have hx : ∀ i, i < n → ∃ x : Nat, (∃ b off, a = some ⟨b, off, none⟩ ∧ W.cell? ⟨b, off + i, none⟩ = some (.int .u32 (x : Int))) ∧ x < 4294967296 := by
    intro i hi
    obtain ⟨b, off, cs, ha, hlen, hcell, fuel, y, htr⟩ := hel i hi
    match cs, hlen with
    | [u], _ =>
      obtain ⟨n0, e0, _, w0⟩ := DataW.trod_int Try.underlying22 htr
      simp at e0
      subst e0
      obtain ⟨m0, rfl, b0⟩ := nat_of_u32 w0
      exact ⟨m0, ⟨b, off, ha, by simpa using hcell 0 (by omega)⟩, b0⟩
  obtain ⟨l, hl, hq⟩ := choose_list _ n hx
  refine ⟨l, ⟨a, c, by rw [List.length_map, hl], by rw [List.length_map]; omega, hcm, hnone, fun j hj => ?_⟩, fun g hg => ?_⟩
  · obtain ⟨b, off, e, hc⟩ := (hq j (by simpa using hj)).1
    exact ⟨b, off, e, by simpa using hc⟩
  · obtain ⟨i, hi, rfl⟩ := List.mem_iff_getElem.1 hg
    exact (hq i hi).2

theorem data_of_trod {H : Type} {enc : TypeId × Value → H} {W : World} {spare : Nat → Bool} {held : Bool} {fuel : Nat} {cs : List Value} {y : DataW H × List MemPlace}
    (hl : cs.length = 7) (h : DataW.trod enc Try.prog W 0 spare held fuel 26 cs = some y) : ∃ d, DataL W cs d := by
  match cs, hl with
  | [c0, c1, c2, c3, c4, c5, c6], _ =>
    obtain ⟨xs, fu, _, hx, _, hlen, hg⟩ := DataW.trod_struct Try.underlying26 h
    have z0 : Try.prog.cellsOf 22 = 1 := by kernel_rfl
    have z1 : Try.prog.cellsOf 23 = 1 := by kernel_rfl
    have z2 : Try.prog.cellsOf 4 = 1 := by kernel_rfl
    have z3 : Try.prog.cellsOf 24 = 1 := by kernel_rfl
    match xs, hlen with
    | [y0, y1, y2, y3, y4, y5, y6], _ =>
      have h0 : DataW.trod enc Try.prog W 0 spare held fu 22 [c0] = some y0 := by simpa [z0, z1, z2, z3] using hg 0 _ rfl
      obtain ⟨n0, e0, _, w0⟩ := DataW.trod_int Try.underlying22 h0
      simp at e0
      subst e0
      obtain ⟨m0, rfl, b0⟩ := nat_of_u32 w0
      have h1 : DataW.trod enc Try.prog W 0 spare held fu 23 [c1] = some y1 := by simpa [z0, z1, z2, z3] using hg 1 _ rfl
      obtain ⟨n1, e1, _, w1⟩ := DataW.trod_int Try.underlying23 h1
      simp at e1
      subst e1
      obtain ⟨m1, rfl, b1⟩ := nat_of_u16 w1
      have h2 : DataW.trod enc Try.prog W 0 spare held fu 23 [c2] = some y2 := by simpa [z0, z1, z2, z3] using hg 2 _ rfl
      obtain ⟨n2, e2, _, w2⟩ := DataW.trod_int Try.underlying23 h2
      simp at e2
      subst e2
      obtain ⟨m2, rfl, b2⟩ := nat_of_u16 w2
      have h3 : DataW.trod enc Try.prog W 0 spare held fu 4 [c3] = some y3 := by simpa [z0, z1, z2, z3] using hg 3 _ rfl
      obtain ⟨m3, e3, _⟩ := DataW.trod_bool Try.underlying4 h3
      simp at e3
      subst e3
      have h4 : DataW.trod enc Try.prog W 0 spare held fu 4 [c4] = some y4 := by simpa [z0, z1, z2, z3] using hg 4 _ rfl
      obtain ⟨m4, e4, _⟩ := DataW.trod_bool Try.underlying4 h4
      simp at e4
      subst e4
      have h5 : DataW.trod enc Try.prog W 0 spare held fu 4 [c5] = some y5 := by simpa [z0, z1, z2, z3] using hg 5 _ rfl
      obtain ⟨m5, e5, _⟩ := DataW.trod_bool Try.underlying4 h5
      simp at e5
      subst e5
      have h6 : DataW.trod enc Try.prog W 0 spare held fu 24 [c6] = some y6 := by simpa [z0, z1, z2, z3] using hg 6 _ rfl
      obtain ⟨a6, l6, q6, e6⟩ := Joins.slice_form Try.underlying24 h6
      simp at e6
      subst e6
      obtain ⟨m6, r6⟩ := rd_of_trod Try.underlying24 Try.underlying5 (by kernel_rfl) ⟨fu, h6⟩
      exact ⟨⟨m0, m1, m2, m3, m4, m5, m6⟩, ⟨_, rfl, r6⟩, b0, b1, b2⟩

theorem init_of_trod {H : Type} {enc : TypeId × Value → H} {W : World} {spare : Nat → Bool} {held : Bool} {fuel : Nat} {cs : List Value} {y : DataW H × List MemPlace}
    (hl : cs.length = 6) (h : DataW.trod enc Try.prog W 0 spare held fuel 70 cs = some y) : ∃ d, InitL W cs d := by
  match cs, hl with
  | [c0, c1, c2, c3, c4, c5], _ =>
    obtain ⟨xs, fu, _, hx, _, hlen, hg⟩ := DataW.trod_struct Try.underlying70 h
    have z0 : Try.prog.cellsOf 22 = 1 := by kernel_rfl
    have z1 : Try.prog.cellsOf 23 = 1 := by kernel_rfl
    have z2 : Try.prog.cellsOf 24 = 1 := by kernel_rfl
    match xs, hlen with
    | [y0, y1, y2, y3, y4, y5], _ =>
      have h0 : DataW.trod enc Try.prog W 0 spare held fu 22 [c0] = some y0 := by simpa [z0, z1, z2] using hg 0 _ rfl
      obtain ⟨n0, e0, _, w0⟩ := DataW.trod_int Try.underlying22 h0
      simp at e0
      subst e0
      obtain ⟨m0, rfl, b0⟩ := nat_of_u32 w0
      have h1 : DataW.trod enc Try.prog W 0 spare held fu 22 [c1] = some y1 := by simpa [z0, z1, z2] using hg 1 _ rfl
      obtain ⟨n1, e1, _, w1⟩ := DataW.trod_int Try.underlying22 h1
      simp at e1
      subst e1
      obtain ⟨m1, rfl, b1⟩ := nat_of_u32 w1
      have h2 : DataW.trod enc Try.prog W 0 spare held fu 23 [c2] = some y2 := by simpa [z0, z1, z2] using hg 2 _ rfl
      obtain ⟨n2, e2, _, w2⟩ := DataW.trod_int Try.underlying23 h2
      simp at e2
      subst e2
      obtain ⟨m2, rfl, b2⟩ := nat_of_u16 w2
      have h3 : DataW.trod enc Try.prog W 0 spare held fu 23 [c3] = some y3 := by simpa [z0, z1, z2] using hg 3 _ rfl
      obtain ⟨n3, e3, _, w3⟩ := DataW.trod_int Try.underlying23 h3
      simp at e3
      subst e3
      obtain ⟨m3, rfl, b3⟩ := nat_of_u16 w3
      have h4 : DataW.trod enc Try.prog W 0 spare held fu 22 [c4] = some y4 := by simpa [z0, z1, z2] using hg 4 _ rfl
      obtain ⟨n4, e4, _, w4⟩ := DataW.trod_int Try.underlying22 h4
      simp at e4
      subst e4
      obtain ⟨m4, rfl, b4⟩ := nat_of_u32 w4
      have h5 : DataW.trod enc Try.prog W 0 spare held fu 24 [c5] = some y5 := by simpa [z0, z1, z2] using hg 5 _ rfl
      obtain ⟨a5, l5, q5, e5⟩ := Joins.slice_form Try.underlying24 h5
      simp at e5
      subst e5
      obtain ⟨m5, r5⟩ := rd_of_trod Try.underlying24 Try.underlying5 (by kernel_rfl) ⟨fu, h5⟩
      exact ⟨⟨m0, m1, m2, m3, m4, m5⟩, ⟨_, rfl, r5⟩, b0, b1, b2, b3, b4⟩

theorem sack_of_trod {H : Type} {enc : TypeId × Value → H} {W : World} {spare : Nat → Bool} {held : Bool} {fuel : Nat} {cs : List Value} {y : DataW H × List MemPlace}
    (hl : cs.length = 4) (h : DataW.trod enc Try.prog W 0 spare held fuel 45 cs = some y) : ∃ d, SackL W cs d := by
  match cs, hl with
  | [c0, c1, c2, c3], _ =>
    obtain ⟨xs, fu, _, hx, _, hlen, hg⟩ := DataW.trod_struct Try.underlying45 h
    have z0 : Try.prog.cellsOf 22 = 1 := by kernel_rfl
    have z1 : Try.prog.cellsOf 42 = 1 := by kernel_rfl
    have z2 : Try.prog.cellsOf 43 = 1 := by kernel_rfl
    match xs, hlen with
    | [y0, y1, y2, y3], _ =>
      have h0 : DataW.trod enc Try.prog W 0 spare held fu 22 [c0] = some y0 := by simpa [z0, z1, z2] using hg 0 _ rfl
      obtain ⟨n0, e0, _, w0⟩ := DataW.trod_int Try.underlying22 h0
      simp at e0
      subst e0
      obtain ⟨m0, rfl, b0⟩ := nat_of_u32 w0
      have h1 : DataW.trod enc Try.prog W 0 spare held fu 22 [c1] = some y1 := by simpa [z0, z1, z2] using hg 1 _ rfl
      obtain ⟨n1, e1, _, w1⟩ := DataW.trod_int Try.underlying22 h1
      simp at e1
      subst e1
      obtain ⟨m1, rfl, b1⟩ := nat_of_u32 w1
      have h2 : DataW.trod enc Try.prog W 0 spare held fu 42 [c2] = some y2 := by simpa [z0, z1, z2] using hg 2 _ rfl
      obtain ⟨a2, l2, q2, e2⟩ := Joins.slice_form Try.underlying42 h2
      simp at e2
      subst e2
      obtain ⟨m2, r2⟩ := gaps_of_trod ⟨fu, h2⟩
      have h3 : DataW.trod enc Try.prog W 0 spare held fu 43 [c3] = some y3 := by simpa [z0, z1, z2] using hg 3 _ rfl
      obtain ⟨a3, l3, q3, e3⟩ := Joins.slice_form Try.underlying43 h3
      simp at e3
      subst e3
      obtain ⟨m3, r3⟩ := nums_of_trod ⟨fu, h3⟩
      exact ⟨⟨m0, m1, m2, m3⟩, ⟨_, _, rfl, r2.1, r3.1⟩, b0, b1, r2.2, r3.2⟩

theorem fwd_of_trod {H : Type} {enc : TypeId × Value → H} {W : World} {spare : Nat → Bool} {held : Bool} {fuel : Nat} {cs : List Value} {y : DataW H × List MemPlace}
    (hl : cs.length = 2) (h : DataW.trod enc Try.prog W 0 spare held fuel 49 cs = some y) : ∃ d, FwdL W cs d := by
  match cs, hl with
  | [c0, c1], _ =>
    obtain ⟨xs, fu, _, hx, _, hlen, hg⟩ := DataW.trod_struct Try.underlying49 h
    have z0 : Try.prog.cellsOf 22 = 1 := by kernel_rfl
    have z1 : Try.prog.cellsOf 47 = 1 := by kernel_rfl
    match xs, hlen with
    | [y0, y1], _ =>
      have h0 : DataW.trod enc Try.prog W 0 spare held fu 22 [c0] = some y0 := by simpa [z0, z1] using hg 0 _ rfl
      obtain ⟨n0, e0, _, w0⟩ := DataW.trod_int Try.underlying22 h0
      simp at e0
      subst e0
      obtain ⟨m0, rfl, b0⟩ := nat_of_u32 w0
      have h1 : DataW.trod enc Try.prog W 0 spare held fu 47 [c1] = some y1 := by simpa [z0, z1] using hg 1 _ rfl
      obtain ⟨a1, l1, q1, e1⟩ := Joins.slice_form Try.underlying47 h1
      simp at e1
      subst e1
      obtain ⟨m1, r1⟩ := skips_of_trod ⟨fu, h1⟩
      exact ⟨⟨m0, m1⟩, ⟨_, rfl, r1.1⟩, b0, r1.2⟩

theorem all_of_trod {H : Type} {enc : TypeId × Value → H} {W : World} {spare : Nat → Bool} {held : Bool} {fuel : Nat} {cs : List Value} {y : DataW H × List MemPlace}
    (hl : cs.length = 22) (h : DataW.trod enc Try.prog W 0 spare held fuel 72 cs = some y) : ∃ d, AllL W cs d := by
  match cs, hl with
  | [c0, c1, c2, c3, c4, c5, c6, c7, c8, c9, c10, c11, c12, c13, c14, c15, c16, c17, c18, c19, c20, c21], _ =>
    obtain ⟨xs, fu, _, hx, _, hlen, hg⟩ := DataW.trod_struct Try.underlying72 h
    have z0 : Try.prog.cellsOf 4 = 1 := by kernel_rfl
    have z1 : Try.prog.cellsOf 26 = 7 := by kernel_rfl
    have z2 : Try.prog.cellsOf 70 = 6 := by kernel_rfl
    have z3 : Try.prog.cellsOf 45 = 4 := by kernel_rfl
    have z4 : Try.prog.cellsOf 49 = 2 := by kernel_rfl
    have z5 : Try.prog.cellsOf 2 = 1 := by kernel_rfl
    have z6 : Try.prog.cellsOf 22 = 1 := by kernel_rfl
    match xs, hlen with
    | [y0, y1, y2, y3, y4, y5, y6], _ =>
      have h0 : DataW.trod enc Try.prog W 0 spare held fu 4 [c0] = some y0 := by simpa [z0, z1, z2, z3, z4, z5, z6] using hg 0 _ rfl
      obtain ⟨m0, e0, _⟩ := DataW.trod_bool Try.underlying4 h0
      simp at e0
      subst e0
      have h1 : DataW.trod enc Try.prog W 0 spare held fu 26 [c1, c2, c3, c4, c5, c6, c7] = some y1 := by simpa [z0, z1, z2, z3, z4, z5, z6] using hg 1 _ rfl
      obtain ⟨m1, r1⟩ := data_of_trod (by simp) h1
      have h2 : DataW.trod enc Try.prog W 0 spare held fu 70 [c8, c9, c10, c11, c12, c13] = some y2 := by simpa [z0, z1, z2, z3, z4, z5, z6] using hg 2 _ rfl
      obtain ⟨m2, r2⟩ := init_of_trod (by simp) h2
      have h3 : DataW.trod enc Try.prog W 0 spare held fu 45 [c14, c15, c16, c17] = some y3 := by simpa [z0, z1, z2, z3, z4, z5, z6] using hg 3 _ rfl
      obtain ⟨m3, r3⟩ := sack_of_trod (by simp) h3
      have h4 : DataW.trod enc Try.prog W 0 spare held fu 49 [c18, c19] = some y4 := by simpa [z0, z1, z2, z3, z4, z5, z6] using hg 4 _ rfl
      obtain ⟨m4, r4⟩ := fwd_of_trod (by simp) h4
      have h5 : DataW.trod enc Try.prog W 0 spare held fu 2 [c20] = some y5 := by simpa [z0, z1, z2, z3, z4, z5, z6] using hg 5 _ rfl
      obtain ⟨n5, e5, _, w5⟩ := DataW.trod_int Try.underlying2 h5
      simp at e5
      subst e5
      have b5 := bounds_i64 w5
      have h6 : DataW.trod enc Try.prog W 0 spare held fu 22 [c21] = some y6 := by simpa [z0, z1, z2, z3, z4, z5, z6] using hg 6 _ rfl
      obtain ⟨n6, e6, _, w6⟩ := DataW.trod_int Try.underlying22 h6
      simp at e6
      subst e6
      obtain ⟨m6, rfl, b6⟩ := nat_of_u32 w6
      obtain ⟨⟨s1, e1, q1⟩, wf1⟩ := r1
      obtain ⟨⟨s2, e2, q2⟩, wf2⟩ := r2
      obtain ⟨⟨s3, s4, e3, q3, q4⟩, wf3⟩ := r3
      obtain ⟨⟨s5, e4, q5⟩, wf4⟩ := r4
      simp at e1 e2 e3 e4
      refine ⟨⟨m0, m1, m2, m3, m4, n5, m6⟩, s1, s2, s3, s4, s5, ?_, q1, q2, q3, q4, q5, wf1, wf2, wf3, wf4, b5, b6⟩
      simp [e1, e2, e3, e4]

set_option maxRecDepth 20000 in
theorem data_open {H : Type} {enc : TypeId × Value → H} {W : World} {r : Reach} {b0 : Nat} {spare : Nat → Bool} {held : Bool} {v : Value} {d : DataW H} {p : List MemPlace}
    (hv : Value.okWide Try.prog W r b0 26 v) (h : DataW.Trod enc Try.prog W 0 spare held 26 v d p) : ∃ x, DataL W (match v with | .agg cs => cs.toList | _ => []) x := by
  obtain ⟨cs, rfl, hsz⟩ := okWide_struct Try.underlying26 hv
  have hC : Try.prog.cellsOf 26 = 7 := by kernel_rfl
  obtain ⟨fuel, hf⟩ := h
  obtain ⟨x, hx⟩ := data_of_trod (cs := cs.toList) (by simp [hsz, hC]) hf
  exact ⟨x, hx⟩

set_option maxRecDepth 20000 in
theorem init_open {H : Type} {enc : TypeId × Value → H} {W : World} {r : Reach} {b0 : Nat} {spare : Nat → Bool} {held : Bool} {v : Value} {d : DataW H} {p : List MemPlace}
    (hv : Value.okWide Try.prog W r b0 70 v) (h : DataW.Trod enc Try.prog W 0 spare held 70 v d p) : ∃ x, InitL W (match v with | .agg cs => cs.toList | _ => []) x := by
  obtain ⟨cs, rfl, hsz⟩ := okWide_struct Try.underlying70 hv
  have hC : Try.prog.cellsOf 70 = 6 := by kernel_rfl
  obtain ⟨fuel, hf⟩ := h
  obtain ⟨x, hx⟩ := init_of_trod (cs := cs.toList) (by simp [hsz, hC]) hf
  exact ⟨x, hx⟩

set_option maxRecDepth 20000 in
theorem sack_open {H : Type} {enc : TypeId × Value → H} {W : World} {r : Reach} {b0 : Nat} {spare : Nat → Bool} {held : Bool} {v : Value} {d : DataW H} {p : List MemPlace}
    (hv : Value.okWide Try.prog W r b0 45 v) (h : DataW.Trod enc Try.prog W 0 spare held 45 v d p) : ∃ x, SackL W (match v with | .agg cs => cs.toList | _ => []) x := by
  obtain ⟨cs, rfl, hsz⟩ := okWide_struct Try.underlying45 hv
  have hC : Try.prog.cellsOf 45 = 4 := by kernel_rfl
  obtain ⟨fuel, hf⟩ := h
  obtain ⟨x, hx⟩ := sack_of_trod (cs := cs.toList) (by simp [hsz, hC]) hf
  exact ⟨x, hx⟩

set_option maxRecDepth 20000 in
theorem fwd_open {H : Type} {enc : TypeId × Value → H} {W : World} {r : Reach} {b0 : Nat} {spare : Nat → Bool} {held : Bool} {v : Value} {d : DataW H} {p : List MemPlace}
    (hv : Value.okWide Try.prog W r b0 49 v) (h : DataW.Trod enc Try.prog W 0 spare held 49 v d p) : ∃ x, FwdL W (match v with | .agg cs => cs.toList | _ => []) x := by
  obtain ⟨cs, rfl, hsz⟩ := okWide_struct Try.underlying49 hv
  have hC : Try.prog.cellsOf 49 = 2 := by kernel_rfl
  obtain ⟨fuel, hf⟩ := h
  obtain ⟨x, hx⟩ := fwd_of_trod (cs := cs.toList) (by simp [hsz, hC]) hf
  exact ⟨x, hx⟩

set_option maxRecDepth 20000 in
theorem all_open {H : Type} {enc : TypeId × Value → H} {W : World} {r : Reach} {b0 : Nat} {spare : Nat → Bool} {held : Bool} {v : Value} {d : DataW H} {p : List MemPlace}
    (hv : Value.okWide Try.prog W r b0 72 v) (h : DataW.Trod enc Try.prog W 0 spare held 72 v d p) : ∃ x, AllL W (match v with | .agg cs => cs.toList | _ => []) x := by
  obtain ⟨cs, rfl, hsz⟩ := okWide_struct Try.underlying72 hv
  have hC : Try.prog.cellsOf 72 = 22 := by kernel_rfl
  obtain ⟨fuel, hf⟩ := h
  obtain ⟨x, hx⟩ := all_of_trod (cs := cs.toList) (by simp [hsz, hC]) hf
  exact ⟨x, hx⟩
end Go.Proofs.Ytfiblhdejglpaaa

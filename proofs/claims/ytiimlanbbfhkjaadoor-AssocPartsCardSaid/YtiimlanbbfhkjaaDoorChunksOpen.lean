/- What an argument that is a slice of chunks reads as. Conditions: none. -/
import Derived.Test.YtiimlanbbfhkjaaDoorChunkOpen
import Derived.Test.YtiimlanbbfhkjaaDoorOpenRows
set_option linter.unusedSimpArgs false
set_option linter.unusedVariables false



namespace Go.FL

open Go.RowKit

/-- The slice v reads as these chunks, three cells each. -/
def ChunksAt (W : World) (v : Value) (cs : List Chk) : Prop :=
  ∃ p c, v = .slice p cs.length c ∧ cs.length ≤ c ∧ c ≤ maxLen ∧ ∀ i (_ : i < cs.length), ∃ b off s, p = some ⟨b, off, none⟩ ∧ W.cell? ⟨b, off + i * 3, none⟩ = some (.int .u8 (cs[i].k.toNat : Int)) ∧ W.cell? ⟨b, off + i * 3 + 1, none⟩ = some (.int .u8 (cs[i].f.toNat : Int)) ∧ W.cell? ⟨b, off + i * 3 + 2, none⟩ = some s ∧ Rd W s cs[i].b
theorem ChunksAt.mono {w w' : World} {v : Value} {cs : List Chk} (h : ChunksAt w v cs) (hb : Below w.heap.size w w') : ChunksAt w' v cs := by
  obtain ⟨p, c, h1, h2, h3, h4⟩ := h
  refine ⟨p, c, h1, h2, h3, fun i hi => ?_⟩
  obtain ⟨b, off, s, e, hc0, hc1, hc2, hr⟩ := h4 i hi
  exact ⟨b, off, s, e, cell?_of_below hb hc0, cell?_of_below hb hc1, cell?_of_below hb hc2, hr.mono hb⟩
end Go.FL

namespace Go.Proofs.YtiimlanbbfhkjaaDoor

open Go.RowKit Go.FL Go.ChangeShapes Go.WideShapes Go.ChangeAt Go.Joins Go.Deep

set_option maxRecDepth 20000 in
theorem chk_of_trod {H : Type} {enc : TypeId × Value → H} {W : World} {spare : Nat → Bool} {held : Bool} {fuel : Nat} {cs : List Value} {y : DataW H × List MemPlace}
    (hl : cs.length = 3) (h : DataW.trod enc Tryd.prog W 0 spare held fuel 47 cs = some y) : ∃ (x : Chk) (s : Value), cs = [.int .u8 (x.k.toNat : Int), .int .u8 (x.f.toNat : Int), s] ∧ Rd W s x.b := by
  match cs, hl with
  | [c0, c1, c2], _ =>
    obtain ⟨xs, n, _, hx, _, hlen, hg⟩ := DataW.trod_struct Tryd.underlying47 h
    have z5 : Tryd.prog.cellsOf 5 = 1 := by kernel_rfl
    have z22 : Tryd.prog.cellsOf 25 = 1 := by kernel_rfl
    match xs, hlen with
    | [y0, y1, y2], _ =>
      have h0 : DataW.trod enc Tryd.prog W 0 spare held n 5 [c0] = some y0 := by simpa [z5] using hg 0 _ rfl
      have h1 : DataW.trod enc Tryd.prog W 0 spare held n 5 [c1] = some y1 := by simpa [z5] using hg 1 _ rfl
      have h2 : DataW.trod enc Tryd.prog W 0 spare held n 25 [c2] = some y2 := by simpa [z22] using hg 2 _ rfl
      obtain ⟨a, l, c, e0⟩ := Joins.slice_form Tryd.underlying25 h2
      simp at e0
      subst e0
      obtain ⟨l', hl'⟩ := rd_of_trod Tryd.underlying25 Tryd.underlying5 (by kernel_rfl) ⟨n, h2⟩
      obtain ⟨n1, e1, _, w1⟩ := DataW.trod_int Tryd.underlying5 h0
      obtain ⟨n2, e2, _, w2⟩ := DataW.trod_int Tryd.underlying5 h1
      simp at e1 e2
      subst e1 e2
      obtain ⟨k, rfl⟩ := u8_of _ w1
      obtain ⟨f, rfl⟩ := u8_of _ w2
      exact ⟨⟨k, f, l'⟩, _, rfl, hl'⟩
set_option maxRecDepth 20000 in
theorem chunks_of_trod {H : Type} {enc : TypeId × Value → H} {W : World} {spare : Nat → Bool} {held : Bool} {a : Option Addr} {n c : Nat} {d : DataW H} {p : List MemPlace}
    (h : DataW.Trod enc Tryd.prog W 0 spare held 43 (.slice a n c) d p) : ∃ cs, ChunksAt W (.slice a n c) cs := by
  obtain ⟨hn, hc, _, hel⟩ := open_elems Tryd.underlying43 (show Tryd.prog.cellsOf 47 = 3 by kernel_rfl) (by decide) h
  have hx : ∀ i, i < n → ∃ x : Chk, ∃ b off s, a = some ⟨b, off, none⟩ ∧ W.cell? ⟨b, off + i * 3, none⟩ = some (.int .u8 (x.k.toNat : Int)) ∧ W.cell? ⟨b, off + i * 3 + 1, none⟩ = some (.int .u8 (x.f.toNat : Int)) ∧ W.cell? ⟨b, off + i * 3 + 2, none⟩ = some s ∧ Rd W s x.b := by
    intro i hi
    obtain ⟨b, off, cs, ha, hlen, hcell, fuel, y, htr⟩ := hel i hi
    obtain ⟨x, s, rfl, hr⟩ := chk_of_trod hlen htr
    exact ⟨x, b, off, s, ha, hcell 0 (by omega), hcell 1 (by omega), hcell 2 (by omega), hr⟩
  obtain ⟨l, hl, hq⟩ := choose_list _ n hx
  exact ⟨l, a, c, by rw [hl], by omega, hc, hq⟩
set_option maxRecDepth 20000 in
theorem chunks_open {H : Type} {enc : TypeId × Value → H} {W : World} {r : Reach} {b0 : Nat} {spare : Nat → Bool} {held : Bool} {v : Value} {d : DataW H} {p : List MemPlace}
    (hv : Value.okWide Tryd.prog W r b0 43 v) (h : DataW.Trod enc Tryd.prog W 0 spare held 43 v d p) : ∃ x : List Chk, ChunksAt W v x := by
  obtain ⟨a, n, c, rfl⟩ := okWide_slice Tryd.underlying43 hv
  exact chunks_of_trod h
end Go.Proofs.YtiimlanbbfhkjaaDoor

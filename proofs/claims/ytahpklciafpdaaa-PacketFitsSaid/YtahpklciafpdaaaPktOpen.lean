/- What an argument of the types Packet, Burst, Turn reads as. Conditions: none. -/
import Derived.Test.YtahpklciafpdaaaPktMay
set_option linter.unusedSimpArgs false
set_option linter.unusedVariables false
namespace Go.FL
theorem nat_of_u32 {a : Int} (h : (Lit.int .u32 a).wf = true) : ∃ n : Nat, a = (n : Int) ∧ n < 4294967296 := by
  simp [Lit.wf, IntKind.min, IntKind.max, IntKind.signed, IntKind.bits] at h
  exact ⟨a.toNat, by omega, by omega⟩
def PktL (W : World) (cs : List Value) (p : Pkt) : Prop := ∃ s, cs = [.int .u32 (p.tag : Int), s] ∧ ChunksAt W s p.cs ∧ p.tag < 4294967296
end Go.FL
namespace Go.Proofs.Ytahpklciafpdaaa
open Go.RowKit Go.FL Go.ChangeShapes Go.WideShapes Go.ChangeAt

theorem pkt_of_trod {H : Type} {enc : TypeId × Value → H} {W : World} {spare : Nat → Bool} {held : Bool} {fuel : Nat} {cs : List Value} {y : DataW H × List MemPlace}
    (hl : cs.length = 2) (h : DataW.trod enc Try.prog W 0 spare held fuel 25 cs = some y) : ∃ d, PktL W cs d := by
  match cs, hl with
  | [c0, c1], _ =>
    obtain ⟨xs, fu, _, hx, _, hlen, hg⟩ := DataW.trod_struct Try.underlying25 h
    have z0 : Try.prog.cellsOf 22 = 1 := by kernel_rfl
    have z1 : Try.prog.cellsOf 23 = 1 := by kernel_rfl
    match xs, hlen with
    | [y0, y1], _ =>
      have h0 : DataW.trod enc Try.prog W 0 spare held fu 22 [c0] = some y0 := by simpa [z0, z1] using hg 0 _ rfl
      obtain ⟨n0, e0, _, w0⟩ := DataW.trod_int Try.underlying22 h0
      simp at e0
      subst e0
      obtain ⟨m0, rfl, b0⟩ := nat_of_u32 w0
      have h1 : DataW.trod enc Try.prog W 0 spare held fu 23 [c1] = some y1 := by simpa [z0, z1] using hg 1 _ rfl
      obtain ⟨a1, l1, q1, e1⟩ := Joins.slice_form Try.underlying23 h1
      simp at e1
      subst e1
      obtain ⟨m1, r1⟩ := chunks_of_trod ⟨fu, h1⟩
      exact ⟨⟨m0, m1⟩, _, rfl, r1, b0⟩
set_option maxRecDepth 20000 in
theorem pkt_open {H : Type} {enc : TypeId × Value → H} {W : World} {r : Reach} {b0 : Nat} {spare : Nat → Bool} {held : Bool} {v : Value} {d : DataW H} {p : List MemPlace}
    (hv : Value.okWide Try.prog W r b0 25 v) (h : DataW.Trod enc Try.prog W 0 spare held 25 v d p) : ∃ x, PktAt W v x := by
  obtain ⟨cs, rfl, hsz⟩ := okWide_struct Try.underlying25 hv
  have hC : Try.prog.cellsOf 25 = 2 := by kernel_rfl
  obtain ⟨fuel, hf⟩ := h
  obtain ⟨x, s, he, hc, ht⟩ := pkt_of_trod (cs := cs.toList) (by simp [hsz, hC]) hf
  refine ⟨x, s, ?_, hc, ht⟩
  have : cs = cs.toList.toArray := by simp
  rw [this, he]
end Go.Proofs.Ytahpklciafpdaaa

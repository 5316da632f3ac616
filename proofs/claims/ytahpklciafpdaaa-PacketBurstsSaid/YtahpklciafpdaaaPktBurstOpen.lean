/- What an argument of the type Burst reads as. Conditions: none. -/
import Derived.Test.YtahpklciafpdaaaPktOpen
set_option linter.unusedSimpArgs false
set_option linter.unusedVariables false
namespace Go.FL
theorem nat_of_u32' {a : Int} (h : (Lit.int .u32 a).wf = true) : ∃ n : Nat, a = (n : Int) ∧ n < 4294967296 := by
  simp [Lit.wf, IntKind.min, IntKind.max, IntKind.signed, IntKind.bits] at h
  exact ⟨a.toNat, by omega, by omega⟩
theorem bounds_i64' {a : Int} (h : (Lit.int .i64 a).wf = true) : -9223372036854775808 ≤ a ∧ a < 9223372036854775808 := by
  simp [Lit.wf, IntKind.min, IntKind.max, IntKind.signed, IntKind.bits] at h
  omega
structure BurstD where
  p : Pkt
  bit : Int
  mask : Nat
def BurstAt (W : World) (v : Value) (x : BurstD) : Prop := ∃ s, v = .agg #[.int .u32 (x.p.tag : Int), s, .int .i64 x.bit, .int .u32 (x.mask : Int)] ∧ ChunksAt W s x.p.cs ∧ x.p.tag < 4294967296 ∧ (-9223372036854775808 ≤ x.bit ∧ x.bit < 9223372036854775808) ∧ x.mask < 4294967296
end Go.FL
namespace Go.Proofs.Ytahpklciafpdaaa
open Go.RowKit Go.FL Go.ChangeShapes Go.WideShapes Go.ChangeAt
theorem burst_of_trod {H : Type} {enc : TypeId × Value → H} {W : World} {spare : Nat → Bool} {held : Bool} {fuel : Nat} {cs : List Value} {y : DataW H × List MemPlace}
    (hl : cs.length = 4) (h : DataW.trod enc Try.prog W 0 spare held fuel 45 cs = some y) : ∃ x : BurstD, ∃ s, cs = [.int .u32 (x.p.tag : Int), s, .int .i64 x.bit, .int .u32 (x.mask : Int)] ∧ ChunksAt W s x.p.cs ∧ x.p.tag < 4294967296 ∧ (-9223372036854775808 ≤ x.bit ∧ x.bit < 9223372036854775808) ∧ x.mask < 4294967296 := by
  match cs, hl with
  | [c0, c1, c2, c3], _ =>
    obtain ⟨xs, fu, _, hx, _, hlen, hg⟩ := DataW.trod_struct Try.underlying45 h
    have z0 : Try.prog.cellsOf 25 = 2 := by kernel_rfl
    have z1 : Try.prog.cellsOf 3 = 1 := by kernel_rfl
    have z2 : Try.prog.cellsOf 22 = 1 := by kernel_rfl
    match xs, hlen with
    | [y0, y1, y2], _ =>
      have h0 : DataW.trod enc Try.prog W 0 spare held fu 25 [c0, c1] = some y0 := by simpa [z0, z1, z2] using hg 0 _ rfl
      obtain ⟨pk, s, he, hc, ht⟩ := pkt_of_trod rfl h0
      have h1 : DataW.trod enc Try.prog W 0 spare held fu 3 [c2] = some y1 := by simpa [z0, z1, z2] using hg 1 _ rfl
      obtain ⟨n1, e1, _, w1⟩ := DataW.trod_int Try.underlying3 h1
      have h2 : DataW.trod enc Try.prog W 0 spare held fu 22 [c3] = some y2 := by simpa [z0, z1, z2] using hg 2 _ rfl
      obtain ⟨n2, e2, _, w2⟩ := DataW.trod_int Try.underlying22 h2
      simp at e1 e2 he
      obtain ⟨rfl, rfl⟩ := he
      subst e1 e2
      have b1 := bounds_i64' w1
      obtain ⟨m2, rfl, b2⟩ := nat_of_u32' w2
      exact ⟨⟨pk, _, m2⟩, _, rfl, hc, ht, b1, b2⟩
set_option maxRecDepth 20000 in
theorem burst_open {H : Type} {enc : TypeId × Value → H} {W : World} {r : Reach} {b0 : Nat} {spare : Nat → Bool} {held : Bool} {v : Value} {d : DataW H} {p : List MemPlace}
    (hv : Value.okWide Try.prog W r b0 45 v) (h : DataW.Trod enc Try.prog W 0 spare held 45 v d p) : ∃ x, BurstAt W v x := by
  obtain ⟨cs, rfl, hsz⟩ := okWide_struct Try.underlying45 hv
  have hC : Try.prog.cellsOf 45 = 4 := by kernel_rfl
  obtain ⟨fuel, hf⟩ := h
  obtain ⟨x, s, he, hc, ht⟩ := burst_of_trod (cs := cs.toList) (by simp [hsz, hC]) hf
  refine ⟨x, s, ?_, hc, ht⟩
  have : cs = cs.toList.toArray := by simp
  rw [this, he]
end Go.Proofs.Ytahpklciafpdaaa

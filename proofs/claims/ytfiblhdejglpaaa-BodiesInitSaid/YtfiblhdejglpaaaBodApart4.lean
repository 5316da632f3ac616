/- Four rows in four rooms are apart. Conditions: what comes in reads as it should. -/
import Derived.Test.YtfiblhdejglpaaaApart
namespace Go.Proofs.Ytfiblhdejglpaaa
open Go.RowKit Go.FL Go.ChangeShapes

/-- The rooms, from below: the second row's, the first's, the fourth's, the third's. -/
theorem apart4 {v v1 v2 v3 v4 : Value} {l1 l2 l3 l4 : List UInt8} {b1 b2 b3 b4 : Nat} {w w1 w2 w3 w4 : World} (hv : RdV w v [v1, v2, v3, v4])
    (h1 : Own w1 b1 5 v1 l1) (h2 : Own w2 b2 5 v2 l2) (h3 : Own w3 b3 5 v3 l3) (h4 : Own w4 b4 5 v4 l4)
    (g1 : Below w1.heap.size w1 w) (g2 : Below w2.heap.size w2 w) (g3 : Below w3.heap.size w3 w) (g4 : Below w4.heap.size w4 w)
    (e1 : w2.heap.size ≤ b1) (e2 : w2.heap.size ≤ b4) (e3 : w2.heap.size ≤ b3) (e4 : w1.heap.size ≤ b4) (e5 : w1.heap.size ≤ b3) (e6 : w4.heap.size ≤ b3) :
    Calls Try.prog 22 #[v] w fun e w' => e = .returned (.bool true) ∧ Below w.heap.size w w' := by
  obtain ⟨r1, q1, _, y1, z1⟩ := h1.arow
  obtain ⟨r2, q2, _, y2, z2⟩ := h2.arow
  obtain ⟨r3, q3, _, y3, z3⟩ := h3.arow
  obtain ⟨r4, q4, _, y4, z4⟩ := h4.arow
  have f21 : r2.far r1 := far_of (B := b1) (fun g hg => Nat.lt_of_lt_of_le (z2 g hg).2 e1) (fun g hg => (z1 g hg).1)
  have f24 : r2.far r4 := far_of (B := b4) (fun g hg => Nat.lt_of_lt_of_le (z2 g hg).2 e2) (fun g hg => (z4 g hg).1)
  have f23 : r2.far r3 := far_of (B := b3) (fun g hg => Nat.lt_of_lt_of_le (z2 g hg).2 e3) (fun g hg => (z3 g hg).1)
  have f14 : r1.far r4 := far_of (B := b4) (fun g hg => Nat.lt_of_lt_of_le (z1 g hg).2 e4) (fun g hg => (z4 g hg).1)
  have f13 : r1.far r3 := far_of (B := b3) (fun g hg => Nat.lt_of_lt_of_le (z1 g hg).2 e5) (fun g hg => (z3 g hg).1)
  have f43 : r4.far r3 := far_of (B := b3) (fun g hg => Nat.lt_of_lt_of_le (z4 g hg).2 e6) (fun g hg => (z3 g hg).1)
  refine apart_any v [r1, r2, r3, r4] w (by simpa [q1, q2, q3, q4] using hv) (rows_lie ?_) (rows_far ?_) (by simp)
  · intro r hr
    simp at hr
    rcases hr with rfl | rfl | rfl | rfl
    · exact y1.mono g1
    · exact y2.mono g2
    · exact y3.mono g3
    · exact y4.mono g4
  · simp [f21.symm, f13, f14, f23, f24, f43.symm]
end Go.Proofs.Ytfiblhdejglpaaa

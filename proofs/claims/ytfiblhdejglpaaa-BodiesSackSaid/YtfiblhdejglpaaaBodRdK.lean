/- Rows of pairs and of numbers, as rows of cells. Conditions: none. No program in sight. -/
import Derived.Test.YtfiblhdejglpaaaPutsB
import Derived.Test.YtfiblhdejglpaaaBaseE
namespace Go.FL
open Go.RowKit
theorem RdP.rdK {w : World} {v : Value} {l : List (Nat × Nat)} (h : RdP w v l) : RdK w 2 v l.length (pairsV l) := by
  obtain ⟨p, c, h1, h2, h3, h4, h5⟩ := h
  refine ⟨pairsV_length l, p, c, h1, h2, h3, h4, fun j hj => ?_⟩
  have hl := pairsV_length l
  have hj2 : j / 2 < l.length := by omega
  obtain ⟨b, off, e, c0, c1⟩ := h5 (j / 2) hj2
  obtain ⟨e0, e1⟩ := pairsV_at l (j / 2) hj2
  refine ⟨b, off, e, ?_⟩
  rcases Nat.mod_two_eq_zero_or_one j with hm | hm
  · have hj' : j = j / 2 * 2 := by omega
    rw [← hj', List.getElem?_eq_getElem hj] at e0
    rw [← hj'] at c0
    rw [c0, ← e0]
  · have hj' : j = j / 2 * 2 + 1 := by omega
    rw [← hj', List.getElem?_eq_getElem hj] at e1
    rw [show off + j / 2 * 2 + 1 = off + (j / 2 * 2 + 1) by omega, ← hj'] at c1
    rw [c1, ← e1]
theorem RdV.rdK {w : World} {v : Value} {l : List Value} (h : RdV w v l) : RdK w 1 v l.length l := by
  obtain ⟨p, c, h1, h2, h3, h4, h5⟩ := h
  exact ⟨by omega, p, c, h1, h2, h3, h4, h5⟩
theorem RdK.rdV {w : World} {v : Value} {n : Nat} {l : List Value} (h : RdK w 1 v n l) : RdV w v l := by
  obtain ⟨h0, p, c, h1, h2, h3, h4, h5⟩ := h
  have : n = l.length := by omega
  subst this
  exact ⟨p, c, h1, h2, h3, h4, h5⟩
end Go.FL

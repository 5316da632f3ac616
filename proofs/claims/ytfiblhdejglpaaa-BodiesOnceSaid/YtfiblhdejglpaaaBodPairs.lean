/- Slices of pairs of numbers: what they read as; rows of one's own. Conditions: none. No program in sight. -/
import Derived.Test.YtfiblhdejglpaaaBodMath
import Derived.Test.YtfiblhdejglpaaaRowK
import Derived.Test.YtfiblhdejglpaaaMem
import Derived.Test.YtfiblhdejglpaaaRegTail
import Derived.Test.YtfiblhdejglpaaaChg
namespace Go.FL
open Go.RowKit
def pairV (g : Nat × Nat) : List Value := [.int .u16 (g.1 : Int), .int .u16 (g.2 : Int)]
def pairsV (l : List (Nat × Nat)) : List Value := (l.map pairV).flatten
theorem pairsV_length (l : List (Nat × Nat)) : (pairsV l).length = l.length * 2 := by
  induction l with
  | nil => rfl
  | cons g l ih =>
    show (pairV g ++ pairsV l).length = _
    rw [List.length_append, ih, List.length_cons]
    show 2 + _ = _
    omega
theorem pairsV_append (l m : List (Nat × Nat)) : pairsV (l ++ m) = pairsV l ++ pairsV m := by simp [pairsV]
theorem pairsV_one (l : List (Nat × Nat)) : ∀ u ∈ pairsV l, u.oneCell' = true := by
  intro u hu
  simp only [pairsV, List.mem_flatten, List.mem_map] at hu
  obtain ⟨_, ⟨g, _, rfl⟩, hu⟩ := hu
  simp only [pairV, List.mem_cons, List.not_mem_nil, or_false] at hu
  rcases hu with rfl | rfl <;> rfl
theorem pairsV_at : ∀ (l : List (Nat × Nat)) (j : Nat) (h : j < l.length), (pairsV l)[j * 2]? = some (.int .u16 (l[j].1 : Int)) ∧ (pairsV l)[j * 2 + 1]? = some (.int .u16 (l[j].2 : Int))
  | g :: l, 0, _ => ⟨rfl, rfl⟩
  | g :: l, j + 1, h => by
    have := pairsV_at l j (by simpa using h)
    have e : pairsV (g :: l) = .int .u16 (g.1 : Int) :: .int .u16 (g.2 : Int) :: pairsV l := rfl
    rw [e, show (j + 1) * 2 = j * 2 + 1 + 1 by omega]
    simpa using this
/-- The slice v reads as these pairs, two cells each. -/
def RdP (w : World) (v : Value) (l : List (Nat × Nat)) : Prop :=
  ∃ p c, v = .slice p l.length c ∧ l.length ≤ c ∧ c ≤ maxLen ∧ (p = none → c = 0) ∧ ∀ j (_ : j < l.length), ∃ b off, p = some ⟨b, off, none⟩ ∧ w.cell? ⟨b, off + j * 2, none⟩ = some (.int .u16 (l[j].1 : Int)) ∧ w.cell? ⟨b, off + j * 2 + 1, none⟩ = some (.int .u16 (l[j].2 : Int))
theorem RdP.mono {w w' : World} {v : Value} {l : List (Nat × Nat)} (h : RdP w v l) (hb : Below w.heap.size w w') : RdP w' v l := by
  obtain ⟨p, c, h1, h2, h3, h4, h5⟩ := h
  refine ⟨p, c, h1, h2, h3, h4, fun j hj => ?_⟩
  obtain ⟨b, off, e, c0, c1⟩ := h5 j hj
  exact ⟨b, off, e, cell?_of_below hb c0, cell?_of_below hb c1⟩
theorem RdP.nil (w : World) : RdP w (.slice none 0 0) [] := ⟨none, 0, rfl, Nat.le_refl _, Nat.zero_le _, fun _ => rfl, fun j h => by simp at h⟩
theorem RdK.pairs {w : World} {v : Value} {l : List (Nat × Nat)} (h : RdK w 2 v l.length (pairsV l)) : RdP w v l := by
  obtain ⟨h0, p, c, h1, h2, h3, h4, h5⟩ := h
  refine ⟨p, c, h1, h2, h3, h4, fun j hj => ?_⟩
  obtain ⟨e0, e1⟩ := pairsV_at l j hj
  have hl := pairsV_length l
  obtain ⟨b, off, rfl, c0⟩ := h5 (j * 2) (by omega)
  obtain ⟨b', off', hp, c1⟩ := h5 (j * 2 + 1) (by omega)
  simp only [Option.some.injEq, Addr.mk.injEq, and_true] at hp
  obtain ⟨rfl, rfl⟩ := hp
  refine ⟨b, off, rfl, ?_, ?_⟩
  · rw [c0, ← List.getElem?_eq_getElem, e0]
  · rw [show off + j * 2 + 1 = off + (j * 2 + 1) by omega, c1, ← List.getElem?_eq_getElem, e1]
/-- v is a row of pairs of one's own. -/
def OwnP (w : World) (base e : Nat) (v : Value) (l : List (Nat × Nat)) : Prop := OwnK w base e 2 v l.length (pairsV l)
theorem OwnP.rd {w : World} {base e : Nat} {v : Value} {l : List (Nat × Nat)} (h : OwnP w base e v l) : RdP w v l := RdK.pairs (OwnK.rd h)
theorem OwnP.nil (w : World) (base e : Nat) : OwnP w base e (.slice none 0 0) [] := OwnK.nil w base e 2
/-- A new row, as a slice. -/
def NewSF (B e n : Nat) (l : List Value) : Value → World → Prop := fun v w => ∃ h, v = .slice (some ⟨h, 0, none⟩) n n ∧ B ≤ h ∧ RowV w h e l
theorem NewSF.gb {B e n g : Nat} (l : List Value) (hg : g < B) : Stab (GbR g) (NewSF B e n l) := fun _ _ _ ⟨h, h1, h2, h3⟩ k => ⟨h, h1, h2, h3.grown k (fun e => by simp at e; omega)⟩
theorem RowV.rdK {w : World} {h e n K : Nat} {l : List Value} (hr : RowV w h e l) (hl : l.length = n * K) (hn : n ≤ maxLen) : RdK w K (.slice (some ⟨h, 0, none⟩) n n) n l :=
  OwnK.rd (base := h) (e := e) ⟨hl, .inr ⟨h, 0, [], Nat.le_refl _, rfl, by simp, by unfold RowV at hr; simpa using hr, by simpa using hn⟩⟩
theorem OwnP.keep {w w' : World} {base e : Nat} {v : Value} {l : List (Nat × Nat)} {r : Option Nat} (h : OwnP w base e v l) (hb : w.grownBy w' r) (hr : ∀ k, v.ownBlock = some k → r ≠ some k) : OwnP w' base e v l := OwnK.grown h hb hr
theorem OwnP.mono {w w' : World} {base e : Nat} {v : Value} {l : List (Nat × Nat)} (h : OwnP w base e v l) (hb : Below w.heap.size w w') : OwnP w' base e v l := OwnK.mono h hb
theorem OwnP.ge {w : World} {base e : Nat} {v : Value} {l : List (Nat × Nat)} (h : OwnP w base e v l) : ∀ k, v.ownBlock = some k → base ≤ k := OwnK.ge h
theorem OwnP.form {w : World} {base e : Nat} {v : Value} {l : List (Nat × Nat)} (h : OwnP w base e v l) : ∃ p c, v = .slice p l.length c ∧ c ≤ maxLen := by
  obtain ⟨p, c, h1, h2, h3, h4, h5⟩ := h.rd
  exact ⟨p, c, h1, h3⟩
end Go.FL

/- What a slice of slices of bytes reads as when it comes in; a slice's elements of any type. Conditions: none. No program in sight. -/
import Derived.Test.YtiimlanbbfhkjaaDoorBaseA
import Derived.Deep.Slices
import Derived.Lib.SmallJoins
set_option linter.unusedSimpArgs false
set_option linter.unusedVariables false




namespace Go.FL

open Go.RowKit Go.ChangeShapes Go.WideShapes Go.ChangeAt Go.Deep

theorem cells_at {w : World} {b : Addr} {n : Nat} {cs : List Value} (h : w.cells? 0 b n = some cs) : cs.length = n ∧ ∀ j, j < n → w.cell? (b.add j) = cs[j]? := by
  simp only [World.cells?, Nat.zero_le, if_true] at h
  refine ⟨by simpa using mapM_some_length h, fun j hj => mapM_some_get h j j (by simp [hj])⟩

/-- The elements of a slice, k cells each. -/
theorem open_elems {H : Type} {enc : TypeId × Value → H} {P : Program} {W : World} {spare : Nat → Bool} {held : Bool} {t e k : Nat} {a : Option Addr} {n c : Nat} {d : DataW H} {p : List MemPlace}
    (ht : P.underlying t = some (.slice e)) (hc : P.cellsOf e = k) (hk : 0 < k) (h : DataW.Trod enc P W 0 spare held t (.slice a n c) d p) :
    n ≤ c ∧ c ≤ maxLen ∧ (a = none → c = 0) ∧ ∀ i, i < n → ∃ b off cs, a = some ⟨b, off, none⟩ ∧ cs.length = k ∧ (∀ j, j < k → W.cell? ⟨b, off + i * k + j, none⟩ = cs[j]?) ∧ ∃ fuel y, DataW.trod enc P W 0 spare held fuel e cs = some y := by
  obtain ⟨fuel, hf⟩ := h
  rcases open_slice ht hf with ⟨hcs, _⟩ | ⟨a', len, cap, m, n', D, Pl, hcs, _, hl, hm, hmm, _, hel⟩
  · simp [Value.cells] at hcs
    obtain ⟨rfl, rfl, rfl⟩ := hcs
    exact ⟨Nat.le_refl _, Nat.zero_le _, fun _ => rfl, fun i hi => absurd hi (Nat.not_lt_zero _)⟩
  · simp [Value.cells] at hcs
    obtain ⟨rfl, rfl, rfl⟩ := hcs
    refine ⟨hl, hm, by simp, fun i hi => ?_⟩
    have him : i < m := by rw [hmm]; split <;> omega
    obtain ⟨cs, hcs, htr⟩ := hel i him
    rw [hc] at hcs
    obtain ⟨hlen, hcell⟩ := cells_at hcs
    have hs : a'.spot = none := by
      obtain ⟨cs0, hcs0, _⟩ := hel 0 (by omega)
      rw [hc] at hcs0
      obtain ⟨hlen0, hcell0⟩ := cells_at hcs0
      have h0 := hcell0 0 hk
      rw [List.getElem?_eq_getElem (by omega)] at h0
      have h1 := World.cell?_spot h0
      simpa [Addr.add] using h1
    obtain ⟨ab, ao, as⟩ := a'
    simp at hs
    subst hs
    refine ⟨ab, ao, cs, rfl, hlen, fun j hj => ?_, n', _, htr⟩
    have h0 := hcell j hj
    rw [Addr.add_lit, Addr.add_lit] at h0
    exact h0

/-- The slice v reads as the rows ls. -/
def RowsAt (W : World) (v : Value) (ls : List (List UInt8)) : Prop :=
  ∃ p c, v = .slice p ls.length c ∧ ls.length ≤ c ∧ c ≤ maxLen ∧ ∀ i (_ : i < ls.length), ∃ b off u, p = some ⟨b, off, none⟩ ∧ W.cell? ⟨b, off + i, none⟩ = some u ∧ Rd W u ls[i]
theorem RowsAt.mono {w w' : World} {v : Value} {ls : List (List UInt8)} (h : RowsAt w v ls) (hb : Below w.heap.size w w') : RowsAt w' v ls := by
  obtain ⟨p, c, h1, h2, h3, h4⟩ := h
  exact ⟨p, c, h1, h2, h3, fun i hi => let ⟨b, off, u, e, hc, hr⟩ := h4 i hi; ⟨b, off, u, e, cell?_of_below hb hc, hr.mono hb⟩⟩
theorem choose_list {α : Type} (Q : Nat → α → Prop) : ∀ n, (∀ i, i < n → ∃ x, Q i x) → ∃ l : List α, l.length = n ∧ ∀ i (h : i < l.length), Q i l[i]
  | 0, _ => ⟨[], rfl, fun i h => absurd h (Nat.not_lt_zero _)⟩
  | n + 1, h => by
    obtain ⟨l, hl, hq⟩ := choose_list Q n (fun i hi => h i (by omega))
    obtain ⟨x, hx⟩ := h n (by omega)
    refine ⟨l ++ [x], by simp [hl], fun i hi => ?_⟩
    by_cases e : i < l.length
    · rw [List.getElem_append_left e]; exact hq i e
    · have : i = n := by simp at hi; omega
      subst this
      rw [List.getElem_append_right (by omega)]
      simpa [hl] using hx
theorem rows_open {H : Type} {enc : TypeId × Value → H} {P : Program} {W : World} {spare : Nat → Bool} {held : Bool} {t s e : Nat} {a : Option Addr} {n c : Nat} {d : DataW H} {p : List MemPlace}
    (ht : P.underlying t = some (.slice s)) (hs : P.underlying s = some (.slice e)) (he : P.underlying e = some (.int .u8)) (hc : P.cellsOf e = 1) (hcs : P.cellsOf s = 1) (h : DataW.Trod enc P W 0 spare held t (.slice a n c) d p) :
    ∃ ls, RowsAt W (.slice a n c) ls := by
  obtain ⟨h1, h2, h3, h4⟩ := open_elems ht hcs (by decide) h
  obtain ⟨ls, hl, hq⟩ := choose_list (fun i l => ∃ b off u, a = some ⟨b, off, none⟩ ∧ W.cell? ⟨b, off + i, none⟩ = some u ∧ Rd W u l) n (fun i hi => by
    obtain ⟨b, off, cs, ea, hcl, hcell, fuel, y, htr⟩ := h4 i hi
    obtain ⟨pa, pl, pc, rfl⟩ := Joins.slice_form hs htr
    obtain ⟨l, hr⟩ := rd_of_trod hs he hc ⟨fuel, htr⟩
    exact ⟨l, b, off, _, ea, by simpa using hcell 0 (by decide), hr⟩)
  exact ⟨ls, a, c, by rw [hl], by omega, h2, hq⟩
end Go.FL

/- Chunks at a slice, told by their cells; one chunk more. Plain laws of PacketFits and PacketAlone. Conditions: none. No walk. -/
import Derived.Test.YtahpklciafpdaaaRowK2
import Derived.Test.YtahpklciafpdaaaPktOwn
import Derived.Test.YtahpklciafpdaaaPktMay
import Derived.Test.YtahpklciafpdaaaOpenRows
set_option linter.unusedSimpArgs false
set_option linter.unusedVariables false
namespace Go.FL
open Go.RowKit

theorem chkCells_length : ∀ (cs : List Chk) (ss : List Value), cs.length = ss.length → (chkCells cs ss).length = cs.length * 3
  | [], [], _ => rfl
  | c :: cs, s :: ss, h => by
    have := chkCells_length cs ss (by simpa using h)
    simp only [chkCells, chkCell, List.length_append, List.length_cons, List.length_nil, this]
    omega
theorem chkCells_one : ∀ (cs : List Chk) (ss : List Value), (∀ s ∈ ss, ∃ p n c, s = Value.slice p n c) → ∀ u ∈ chkCells cs ss, u.oneCell' = true
  | [], _, _, u, hu => by simp [chkCells] at hu
  | c :: cs, [], _, u, hu => by simp [chkCells] at hu
  | c :: cs, s :: ss, h, u, hu => by
    simp only [chkCells, List.mem_append] at hu
    rcases hu with hu | hu
    · simp only [chkCell, List.mem_cons, List.not_mem_nil, or_false] at hu
      rcases hu with rfl | rfl | rfl
      · rfl
      · rfl
      · obtain ⟨p, n, c, e⟩ := h u List.mem_cons_self
        rw [e]
        rfl
    · exact chkCells_one cs ss (fun s hs => h s (List.mem_cons_of_mem _ hs)) u hu
/-- Chunks read there, their cells named. -/
def ChunksL (w : World) (v : Value) (cs : List Chk) (ss : List Value) : Prop :=
  cs.length = ss.length ∧ RdL w 3 v cs.length (chkCells cs ss) ∧ (∀ i (_ : i < cs.length) (_ : i < ss.length), Rd w ss[i] cs[i].b) ∧ ∀ s ∈ ss, ∃ p n c, s = Value.slice p n c
theorem ChunksL.mono {w w' : World} {v : Value} {cs : List Chk} {ss : List Value} (h : ChunksL w v cs ss) (hb : Below w.heap.size w w') : ChunksL w' v cs ss :=
  ⟨h.1, h.2.1.mono hb, fun i a b => (h.2.2.1 i a b).mono hb, h.2.2.2⟩
theorem at_of_rdL {w : World} {v : Value} {cs : List Chk} {ss : List Value} (h1 : cs.length = ss.length) (h2 : RdL w 3 v cs.length (chkCells cs ss)) (h3 : ∀ i (_ : i < cs.length) (_ : i < ss.length), Rd w ss[i] cs[i].b) : ChunksAt w v cs := by
  obtain ⟨h0, p, c, rfl, hle, hcm, hcell⟩ := h2
  refine ⟨p, c, rfl, hle, hcm, fun i hi => ?_⟩
  have hi' : i < ss.length := by omega
  obtain ⟨a0, a1, a2⟩ := chkCells_at cs ss i hi hi'
  have g : ∀ j (u : Value), (chkCells cs ss)[j]? = some u → ∃ b off, p = some ⟨b, off, none⟩ ∧ w.cell? ⟨b, off + j, none⟩ = some u := by
    intro j u hj
    obtain ⟨hl, rfl⟩ := List.getElem?_eq_some_iff.1 hj
    obtain ⟨b, off, rfl, hc⟩ := hcell j hl
    exact ⟨b, off, rfl, hc⟩
  obtain ⟨b, off, rfl, k0⟩ := g _ _ a0
  obtain ⟨b1, off1, e1, k1⟩ := g _ _ a1
  obtain ⟨b2, off2, e2, k2⟩ := g _ _ a2
  simp at e1 e2
  obtain ⟨rfl, rfl⟩ := e1
  obtain ⟨rfl, rfl⟩ := e2
  exact ⟨b, off, ss[i], rfl, k0, by rw [Nat.add_assoc]; exact k1, by rw [Nat.add_assoc]; exact k2, h3 i hi hi'⟩
theorem ChunksAt.cells {w : World} {v : Value} {cs : List Chk} (h : ChunksAt w v cs) : ∃ ss, ChunksL w v cs ss := by
  obtain ⟨p, c, rfl, hle, hcm, hel⟩ := h
  obtain ⟨ss, hl, hq⟩ := choose_list (fun i s => ∀ hi : i < cs.length, ∃ b off, p = some ⟨b, off, none⟩ ∧ w.cell? ⟨b, off + i * 3, none⟩ = some (.int .u8 (cs[i].k.toNat : Int)) ∧ w.cell? ⟨b, off + i * 3 + 1, none⟩ = some (.int .u8 (cs[i].f.toNat : Int)) ∧ w.cell? ⟨b, off + i * 3 + 2, none⟩ = some s ∧ Rd w s cs[i].b) cs.length (fun i hi => by
    obtain ⟨b, off, s, h1, h2, h3, h4, h5⟩ := hel i hi
    exact ⟨s, fun _ => ⟨b, off, h1, h2, h3, h4, h5⟩⟩)
  have hlen := chkCells_length cs ss hl.symm
  refine ⟨ss, hl.symm, ⟨hlen, p, c, rfl, hle, hcm, fun j hj => ?_⟩, fun i a b => ?_, fun s hs => ?_⟩
  · have hi : j / 3 < cs.length := by omega
    have hi' : j / 3 < ss.length := by omega
    obtain ⟨b, off, hp, c0, c1, c2, -⟩ := hq (j / 3) hi' hi
    obtain ⟨a0, a1, a2⟩ := chkCells_at cs ss (j / 3) hi hi'
    refine ⟨b, off, hp, ?_⟩
    have hget : (chkCells cs ss)[j]? = some (chkCells cs ss)[j] := by simp [hj]
    have hr : j = j / 3 * 3 ∨ j = j / 3 * 3 + 1 ∨ j = j / 3 * 3 + 2 := by omega
    rw [← hget]
    rcases hr with e | e | e
    · rw [show off + j = off + j / 3 * 3 by omega, c0, ← a0, ← e]
    · rw [show off + j = off + j / 3 * 3 + 1 by omega, c1, ← a1, ← e]
    · rw [show off + j = off + j / 3 * 3 + 2 by omega, c2, ← a2, ← e]
  · obtain ⟨b', off, -, -, -, -, hr⟩ := hq i b a
    exact hr
  · obtain ⟨i, hi, rfl⟩ := List.mem_iff_getElem.1 hs
    obtain ⟨b', off, -, -, -, -, p1, c1, e, -⟩ := hq i hi (by omega)
    exact ⟨_, _, _, e⟩
theorem ChunksL.at {w : World} {v : Value} {cs : List Chk} {ss : List Value} (h : ChunksL w v cs ss) : ChunksAt w v cs := at_of_rdL h.1 h.2.1 h.2.2.1
/-- One chunk more. -/
theorem at_snoc {w : World} {v s : Value} {cs : List Chk} {ss : List Value} {c : Chk} (h1 : cs.length = ss.length) (h2 : RdL w 3 v (cs.length + 1) (chkCells cs ss ++ chkCell c s)) (h3 : ∀ i (_ : i < cs.length) (_ : i < ss.length), Rd w ss[i] cs[i].b) (hs : Rd w s c.b) : ChunksAt w v (cs ++ [c]) := by
  refine at_of_rdL (ss := ss ++ [s]) (by simp [h1]) (by rw [chkCells_snoc _ _ _ _ h1, List.length_append]; exact h2) (fun i a b => ?_)
  by_cases hi : i < cs.length
  · have e1 : (ss ++ [s])[i] = ss[i]'(by omega) := List.getElem_append_left (by omega)
    have e2 : (cs ++ [c])[i] = cs[i] := List.getElem_append_left hi
    rw [e1, e2]
    exact h3 i hi (by omega)
  · have hi2 : i = cs.length := by
      simp at a
      omega
    subst hi2
    have e1 : (ss ++ [s])[cs.length] = s := by simp [h1]
    have e2 : (cs ++ [c])[cs.length] = c := by simp
    rw [e1, e2]
    exact hs
/-- May a packet have one chunk more, within so many bytes? -/
def fitsB (p : Pkt) (c : Chk) (mtu : Int) : Bool := mayB (p.cs ++ [c]) && decide (((p.size + sizeC c : Nat) : Int) ≤ mtu)
theorem size_snoc (p : Pkt) (c : Chk) : (⟨p.tag, p.cs ++ [c]⟩ : Pkt).size = p.size + sizeC c := by
  unfold Pkt.size
  rw [sizesN_append]
  simp [sizesN]
  omega
/-- Facts of the region: the clone; one chunk; all. -/
def CloF (B e n : Nat) (l : List Value) : Value → World → Prop := fun v w => OwnK w B e 3 v n l
theorem own_stab {B e n : Nat} {l : List Value} {Φ : Nat → Value → Prop} (hΦ : ∀ i v, i < l.length → Φ i v → l[i]? = some v) : Stab (GrS B Φ) (CloF B e n l) := by
  intro v w w' h k
  obtain ⟨h0, ⟨rfl, rfl⟩ | ⟨g, m, sp, h1, rfl, h2, hr, hm⟩⟩ := h
  · exact ⟨h0, .inl ⟨rfl, rfl⟩⟩
  · obtain ⟨l', hr', hl', hs⟩ := k.shape g e (l ++ sp) h1 hr
    have ht : l'.take l.length = l := by
      apply List.ext_getElem?
      intro i
      rw [List.getElem?_take]
      by_cases c : i < l.length
      · rw [if_pos c]
        rcases hs i with q | ⟨u, q, q2⟩
        · rw [q, List.getElem?_append_left c]
        · rw [q, hΦ i u c q2]
      · rw [if_neg c]
        simp [c]
    have hd : (l'.drop l.length).length = m * 3 := by
      rw [List.length_drop, hl', List.length_append, h2]
      omega
    refine ⟨h0, .inr ⟨g, m, l'.drop l.length, h1, rfl, hd, ?_, hm⟩⟩
    have he : l ++ l'.drop l.length = l' := by
      have := List.take_append_drop l.length l'
      rwa [ht] at this
    rw [he]
    exact hr'
theorem OwnK.rdL {w : World} {base e K n : Nat} {v : Value} {l : List Value} (h : OwnK w base e K v n l) : RdL w K v n l := h.rd.lax
end Go.FL

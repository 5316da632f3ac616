/- Rows of bytes with the room behind them; what string(b) is of bytes that lie so; a row's bytes turned. Conditions: none. No program in sight. -/
import Derived.Test.YtfiblhdejglpaaaValRow
import Derived.Test.YtfiblhdejglpaaaBits
import Derived.Laws.BytesArg
namespace Go.FL
open Go.RowKit

/-- A row: its block, its bytes, the bytes of the room behind it. -/
structure ARow where
  g : Option Nat
  l : List UInt8
  s : List UInt8
def ARow.val (r : ARow) : Value := match r.g with
  | none => .slice none r.l.length (r.l.length + r.s.length)
  | some g => .slice (some ⟨g, 0, none⟩) r.l.length (r.l.length + r.s.length)
def ARow.all (r : ARow) : Value := match r.g with
  | none => .slice none (r.l.length + r.s.length) (r.l.length + r.s.length)
  | some g => .slice (some ⟨g, 0, none⟩) (r.l.length + r.s.length) (r.l.length + r.s.length)
theorem ARow.val_eq (r : ARow) : r.val = .slice (r.g.map fun g => ⟨g, 0, none⟩) r.l.length (r.l.length + r.s.length) := by
  obtain ⟨g, l, s⟩ := r
  cases g <;> rfl
theorem ARow.all_eq (r : ARow) : r.all = .slice (r.g.map fun g => ⟨g, 0, none⟩) (r.l.length + r.s.length) (r.l.length + r.s.length) := by
  obtain ⟨g, l, s⟩ := r
  cases g <;> rfl
/-- It lies so in the world w; e: the bytes' type. -/
def ARow.lies (w : World) (e : Nat) (r : ARow) : Prop :=
  r.l.length + r.s.length ≤ maxLen ∧ (r.g = none → r.l = [] ∧ r.s = []) ∧ ∀ g, r.g = some g → Row w g e (r.l ++ r.s)
theorem ARow.lies.mono {w w' : World} {e : Nat} {r : ARow} (h : r.lies w e) (hb : Below w.heap.size w w') : r.lies w' e :=
  ⟨h.1, h.2.1, fun g hg => (h.2.2 g hg).mono hb⟩
theorem ARow.lies.rd {w : World} {e : Nat} {r : ARow} (h : r.lies w e) : Rd w r.val r.l := by
  obtain ⟨g, l, s⟩ := r
  obtain ⟨h1, h2, h3⟩ := h
  cases g with
  | none =>
    obtain ⟨hl, hs⟩ := h2 rfl
    simp at hl hs
    subst hl hs
    exact Rd.nil w
  | some g =>
    have := (h3 g rfl).rd l.length (l.length + s.length) (by simp) (by omega) h1
    simpa [ARow.val] using this
theorem ARow.lies.grown {w w' : World} {e : Nat} {r : ARow} {b : Option Nat} (h : r.lies w e) (hb : w.grownBy w' b) (hr : ∀ k, b = some k → r.g ≠ some k) : r.lies w' e :=
  ⟨h.1, h.2.1, fun g hg => (h.2.2 g hg).grown hb (fun e => hr g e hg)⟩

/-- What string(b) is. -/
def strOf (l : List UInt8) : Value := .string (strOfNums (l.map fun b => (b.toNat : Int)))
theorem run_convert_rd {P : Program} (w : World) (src e dst : TypeId) (hs : P.underlying src = some (.slice e)) (he : P.underlying e = some (.int .u8)) (hd : P.underlying dst = some .string) (v : Value) (l : List UInt8) (h : Rd w v l) :
    (convert src dst v).run P w = .ok (strOf l) w := by
  obtain ⟨p, c, rfl, hlc, hcm, hpn, hcell⟩ := h
  cases p with
  | none =>
    have hl : l = [] := by
      cases l with
      | nil => rfl
      | cons x r => obtain ⟨_, _, e, _⟩ := hcell 0 (by simp); cases e
    subst hl
    exact run_convert_bytes_nil w src e hs he _ _ dst hd
  | some a =>
    by_cases h0 : l = []
    · subst h0
      rw [run_convert_bytes_string w src dst e _ _ c hs he hd]
      simp [Conv.bytesToString, loadCells, loadCellsFrom]
      rfl
    · obtain ⟨b, off, e', _⟩ := hcell 0 (List.length_pos_iff.2 h0)
      simp at e'
      subst e'
      refine run_convert_bytes_arg w src e hs he b off l.length c (l.map fun b => (b.toNat : Int)) (by simp) (fun i hi => ?_) dst hd
      obtain ⟨b', off', e', hc⟩ := hcell i hi
      simp at e'
      obtain ⟨rfl, rfl⟩ := e'
      rw [hc]
      simp [List.getD, hi]

/-- The first k bytes turned. -/
def turned (l : List UInt8) (k : Nat) : List UInt8 := (l.take k).map (~~~ ·) ++ l.drop k
theorem turned_length (l : List UInt8) (k : Nat) : (turned l k).length = l.length := by simp [turned]; omega
theorem turned_zero (l : List UInt8) : turned l 0 = l := by simp [turned]
theorem turned_get (l : List UInt8) (k : Nat) (h : k < l.length) : (turned l k)[k]'(by rw [turned_length]; exact h) = l[k] := by
  simp [turned, Nat.min_eq_left (Nat.le_of_lt h)]
theorem turned_step (l : List UInt8) (k : Nat) (h : k < l.length) : (turned l k).set k (~~~ l[k]) = turned l (k + 1) := by
  have h3 : ((l.take k).map (~~~ ·)).length = k := by simp; omega
  unfold turned
  rw [List.set_append, h3, if_neg (Nat.lt_irrefl k), Nat.sub_self, List.drop_eq_getElem_cons h, List.set_cons_zero, List.take_succ_eq_append_getElem h, List.map_append, List.append_assoc]
  rfl
theorem turned_all (l : List UInt8) : turned l l.length = l.map (~~~ ·) := by simp [turned]
theorem turned_back (l : List UInt8) : turned (turned l l.length) l.length = l := by
  rw [turned_all]
  have : l.length = (l.map (~~~ ·)).length := by simp
  rw [this, turned_all, List.map_map]
  conv => rhs; rw [← List.map_id l]
  apply List.map_congr_left
  intro x _
  simp

/-- The world w with the row's bytes turned so far; nothing else is another one. -/
def Turned (w w' : World) (e : Nat) (r : ARow) (m : List UInt8) : Prop := w.grownBy w' r.g ∧ ∀ g, r.g = some g → Row w' g e m
theorem Turned.start {w : World} {e : Nat} {r : ARow} (h : r.lies w e) : Turned w w e r (r.l ++ r.s) :=
  ⟨⟨rfl, rfl, rfl, Nat.le_refl _, fun _ _ _ => rfl⟩, h.2.2⟩
theorem Turned.back {w w' : World} {e : Nat} {r : ARow} (h : r.lies w e) (k : Turned w w' e r (r.l ++ r.s)) : Below w.heap.size w w' := by
  refine ⟨k.1.os, k.1.tape, k.1.output, k.1.size, fun i hi => ?_⟩
  by_cases hg : r.g = some i
  · have h1 := h.2.2 i hg
    have h2 := k.2 i hg
    unfold Row at h1 h2
    rw [h1, h2]
  · exact k.1.block i hi (fun e => hg e.symm)
theorem Turned.store {w w' : World} {e : Nat} {r : ARow} {m : List UInt8} (k : Turned w w' e r m) (g : Nat) (hg : r.g = some g) (j : Nat) (b : UInt8) : Turned w (w'.setCell ⟨g, j, none⟩ (.int .u8 (b.toNat : Int))) e r (m.set j b) := by
  refine ⟨⟨k.1.os, k.1.tape, k.1.output, ?_, fun i hi hne => ?_⟩, fun g' hg' => ?_⟩
  · have := k.1.size
    simpa [World.setCell] using this
  · have hne' : g ≠ i := fun e => hne (by rw [hg, e])
    have := k.1.block i hi hne
    rw [← this]
    exact Below.heap_setCell _ _ _ _ (Ne.symm hne')
  · rw [hg] at hg'
    simp at hg'
    subst hg'
    exact (k.2 g hg).store j b

/-- A row of one's own, as a row with its room. -/
theorem Own.arow {w : World} {base e : Nat} {v : Value} {l : List UInt8} (h : Own w base e v l) : ∃ r : ARow, r.val = v ∧ r.l = l ∧ r.lies w e ∧ ∀ g, r.g = some g → base ≤ g ∧ g < w.heap.size := by
  rcases h with ⟨rfl, rfl⟩ | ⟨g, sp, hb, rfl, hr, hm⟩
  · exact ⟨⟨none, [], []⟩, rfl, rfl, ⟨Nat.zero_le _, fun _ => ⟨rfl, rfl⟩, fun g hg => by cases hg⟩, fun g hg => by cases hg⟩
  · refine ⟨⟨some g, l, sp⟩, rfl, rfl, ⟨hm, fun h => (by cases h), fun g' hg => ?_⟩, fun g' hg => ?_⟩
    · cases hg
      exact hr
    · cases hg
      exact ⟨hb, hr.lt⟩
def ARow.far (r s : ARow) : Prop := ∀ g, r.g = some g → s.g ≠ some g
theorem far_of {r s : ARow} {B : Nat} (h1 : ∀ g, r.g = some g → g < B) (h2 : ∀ g, s.g = some g → B ≤ g) : r.far s := by
  intro g hr hs
  have := h1 g hr
  have := h2 g hs
  omega
theorem ARow.far.symm {r s : ARow} (h : r.far s) : s.far r := fun g hs hr => h g hr hs
theorem rows_far {rs : List ARow} (h : rs.Pairwise ARow.far) : ∀ i j (hi : i < rs.length) (hj : j < rs.length), i ≠ j → ∀ g, rs[i].g = some g → rs[j].g ≠ some g := by
  intro i j hi hj hij
  rw [List.pairwise_iff_getElem] at h
  rcases Nat.lt_or_gt_of_ne hij with h1 | h1
  · exact h i j hi hj h1
  · exact (h j i hj hi h1).symm
theorem rows_lie {rs : List ARow} {w : World} {e : Nat} (h : ∀ r ∈ rs, r.lies w e) : ∀ i (hi : i < rs.length), rs[i].lies w e := fun _ hi => h _ (List.getElem_mem hi)
theorem ARow.lies.alloc {w : World} {e : Nat} {r : ARow} (h : r.lies w e) (o : Obj) : r.lies (w.alloc o) e := h.mono ((Below.refl _ _).alloc (Nat.le_refl _) o)
theorem ARow.lies.drewN {w : World} {e : Nat} {r : ARow} (h : r.lies w e) (n : Nat) : r.lies (w.drewN n) e := h
theorem u64_nat (a : Int) (h : (Lit.int .u64 a).wf = true) : ∃ s : Nat, a = (s : Int) ∧ s < 18446744073709551616 := by
  simp [Lit.wf, IntKind.min, IntKind.max, IntKind.signed, IntKind.bits] at h
  exact ⟨a.toNat, by omega, by omega⟩
theorem Rd.form {w : World} {v : Value} {l : List UInt8} (h : Rd w v l) : ∃ p n c, v = .slice p n c := by
  obtain ⟨p, c, rfl, _⟩ := h
  exact ⟨_, _, _, rfl⟩
end Go.FL

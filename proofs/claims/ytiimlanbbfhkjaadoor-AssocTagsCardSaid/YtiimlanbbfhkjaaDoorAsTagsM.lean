/- Rows of chunks without a value; which packets are taken, told plainly. Conditions: none. No walk. -/
import Derived.Test.YtiimlanbbfhkjaaDoorAsWorks
set_option linter.unusedSimpArgs false
set_option linter.unusedVariables false


namespace Go.FL

open Go.RowKit

theorem natU32 {a : Int} (h : (Lit.int .u32 a).wf = true) : ∃ n : Nat, a = (n : Int) ∧ n < 4294967296 := by
  have := bounds_u32 h
  exact ⟨a.toNat, by omega, by omega⟩
def kCells : List UInt8 → List Value
  | [] => []
  | k :: l => [.int .u8 (k.toNat : Int), .int .u8 0, .slice none 0 0] ++ kCells l
theorem kCells_snoc : ∀ (l : List UInt8) (k : UInt8), kCells (l ++ [k]) = kCells l ++ [.int .u8 (k.toNat : Int), .int .u8 0, .slice none 0 0]
  | [], _ => rfl
  | a :: l, k => by
    show [.int .u8 (a.toNat : Int), .int .u8 0, .slice none 0 0] ++ kCells (l ++ [k]) = _
    rw [kCells_snoc l k, ← List.append_assoc]
    rfl
theorem kCells_length : ∀ l : List UInt8, (kCells l).length = l.length * 3
  | [] => rfl
  | a :: l => by
    show (_ ++ kCells l).length = _
    rw [List.length_append, kCells_length l]
    simp
    omega
theorem kCells_at : ∀ (l : List UInt8) (i : Nat) (h : i < l.length), (kCells l)[i * 3]? = some (.int .u8 (l[i].toNat : Int)) ∧ (kCells l)[i * 3 + 1]? = some (.int .u8 0) ∧ (kCells l)[i * 3 + 2]? = some (.slice none 0 0)
  | a :: l, 0, _ => by simp [kCells]
  | a :: l, i + 1, h => by
    have := kCells_at l i (by simpa using h)
    have e : (i + 1) * 3 = (i * 3) + 3 := by omega
    have e1 : (i + 1) * 3 + 1 = (i * 3 + 1) + 3 := by omega
    have e2 : (i + 1) * 3 + 2 = (i * 3 + 2) + 3 := by omega
    simp only [e, e1, e2, kCells, List.cons_append, List.nil_append, List.getElem?_cons_succ, List.getElem_cons_succ]
    exact this
def kChk (k : UInt8) : Chk := ⟨k, 0, []⟩
theorem kChunks {w : World} {B e : Nat} {v : Value} {l : List UInt8} (h : OwnK w B e 3 v l.length (kCells l)) : ChunksAt w v (l.map kChk) := by
  obtain ⟨h0, p, c, h1, h2, h3, h4, h5⟩ := h.rd
  refine ⟨p, c, by rw [List.length_map]; exact h1, by rw [List.length_map]; exact h2, h3, fun i hi => ?_⟩
  have hi' : i < l.length := by simpa using hi
  have ha := kCells_at l i hi'
  have hl := kCells_length l
  obtain ⟨b, off, e0, c0⟩ := h5 (i * 3) (by omega)
  obtain ⟨b1, off1, e1, c1⟩ := h5 (i * 3 + 1) (by omega)
  obtain ⟨b2, off2, e2, c2⟩ := h5 (i * 3 + 2) (by omega)
  rw [e0] at e1 e2
  simp at e1 e2
  obtain ⟨rfl, rfl⟩ := e1
  obtain ⟨rfl, rfl⟩ := e2
  rw [List.getElem?_eq_getElem (by omega)] at ha
  rw [List.getElem?_eq_getElem (by omega)] at ha
  rw [List.getElem?_eq_getElem (by omega)] at ha
  simp only [Option.some.injEq] at ha
  rw [ha.1] at c0
  rw [ha.2.1] at c1
  rw [ha.2.2] at c2
  simp only [List.getElem_map]
  exact ⟨b, off, .slice none 0 0, e0, c0, c1, c2, Rd.nil _⟩
def initK (l : List UInt8) : Bool := l.any fun k => decide (k = 1)
theorem initK_snoc (l : List UInt8) (k : UInt8) : initK (l ++ [k]) = (initK l || decide (k = 1)) := by
  unfold initK
  simp
theorem any_kind (l : List UInt8) (k : UInt8) : (l.map kChk).any (kindIs k) = l.any fun x => decide (x = k) := by
  induction l with
  | nil => rfl
  | cons a l ih => simp only [List.map_cons, List.any_cons, ih]; rfl
def echoK (l : List UInt8) : Bool := decide (l.head? = some 10) && !initK l
theorem head_kind (l : List UInt8) : ((l.map kChk).head?.map (·.k) = some 10) ↔ l.head? = some 10 := by
  cases l with
  | nil => simp
  | cons a l => simp [kChk]
theorem takes_st (a : AsD) (tag : Nat) (l : List UInt8) (hl : l ≠ []) : takesB a tag (l.map kChk) = if initK l = true then (decide (tag = 0) && ([1, 2, 3] : List UInt8).any (fun x => decide (a.st = x.toNat))) else if echoK l = true then decide (a.st ≠ 0) else if a.st = 0 ∨ a.st = 1 then ((l.map kChk).any (kindIs 8) && (decide (a.go ≠ 0) && decide (tag = a.go))) else decide (tag = a.tag) := by
  unfold takesB
  rw [if_neg (by simpa using hl), any_kind]
  show (if initK l = true then _ else _) = _
  cases hi : initK l with
  | true => rfl
  | false =>
    rw [if_neg Bool.false_ne_true, if_neg Bool.false_ne_true]
    by_cases hh : l.head? = some 10
    · rw [if_pos ((head_kind l).2 hh), if_pos (by unfold echoK; rw [hi, decide_eq_true hh]; rfl)]
    · rw [if_neg (fun e => hh ((head_kind l).1 e)), if_neg (show ¬ echoK l = true from by unfold echoK; rw [decide_eq_false hh, Bool.false_and]; exact Bool.false_ne_true)]
theorem takes_closed (p t : Nat) (key : List UInt8) (tag : Nat) (l : List UInt8) (hl : l ≠ []) : takesB (newD p t key) tag (l.map kChk) = false := by
  rw [takes_st _ _ _ hl]
  split
  · simp [newD]
  · split
    · simp [newD]
    · simp [newD]
theorem takes_listen (x : PairK) (tag : Nat) (l : List UInt8) (hl : l ≠ []) : takesB (bS0 x) tag (l.map kChk) = ((initK l && decide (tag = 0)) || echoK l) := by
  rw [takes_st _ _ _ hl]
  cases hi : initK l with
  | true => simp [bS0, echoK, hi]
  | false =>
    cases he : echoK l with
    | true => simp [bS0]
    | false => simp [bS0]
theorem takes_met (x : PairK) (tag : Nat) (l : List UInt8) (hl : l ≠ []) : takesB (aM x) tag (l.map kChk) = (!initK l && (echoK l || decide (tag = 1))) := by
  rw [takes_st _ _ _ hl]
  cases hi : initK l with
  | true => simp [aM]
  | false =>
    cases he : echoK l with
    | true => simp [aM]
    | false =>
      have h1 : (aM x).st = 4 := rfl
      have h2 : (aM x).tag = 1 := rfl
      rw [h1, h2]
      by_cases ht : tag = 1 <;> simp [ht]
end Go.FL

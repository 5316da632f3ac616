/- Two ends that part, told by their states and the kinds of what they have to say alone: what a turn makes of them, whatever is lost and whichever timer runs out. Conditions: none. No walk. -/
set_option linter.unusedSimpArgs false
set_option linter.unusedVariables false

namespace Go.FL

structure Cls where
  sa : Nat
  ra : List Nat
  sb : Nat
  rb : List Nat
def eqN : List Nat → List Nat → Bool
  | [], [] => true
  | a :: l, b :: m => Nat.beq a b && eqN l m
  | _, _ => false
theorem eqN_eq : ∀ {l m : List Nat}, eqN l m = true → l = m
  | [], [], _ => rfl
  | a :: l, b :: m, h => by
    simp only [eqN, Bool.and_eq_true] at h
    rw [Nat.eq_of_beq_eq_true h.1, eqN_eq h.2]
def eqC (c d : Cls) : Bool := Nat.beq c.sa d.sa && (Nat.beq c.sb d.sb && (eqN c.ra d.ra && eqN c.rb d.rb))
theorem eqC_eq {c d : Cls} (h : eqC c d = true) : c = d := by
  simp only [eqC, Bool.and_eq_true] at h
  obtain ⟨h1, h2, h3, h4⟩ := h
  cases c
  cases d
  have e1 := Nat.eq_of_beq_eq_true h1
  have e2 := Nat.eq_of_beq_eq_true h2
  have e3 := eqN_eq h3
  have e4 := eqN_eq h4
  simp only at e1 e2 e3 e4
  rw [e1, e2, e3, e4]
/-- A chunk of a kind comes. -/
def chC (x : Nat × List Nat) (k : Nat) : Nat × List Nat :=
  if k = 7 then (if x.1 = 4 ∨ x.1 = 5 then (7, x.2) else if x.1 = 6 ∨ x.1 = 8 then (8, x.2 ++ [8]) else x)
  else if k = 8 then (if x.1 = 6 ∨ x.1 = 8 ∨ x.1 = 0 then (0, x.2 ++ [14]) else x)
  else if x.1 = 8 then (0, x.2) else x
def stepC (x : Nat × List Nat) (k : Nat) (l : Bool) : Nat × List Nat := if l = true then x else chC x k
def stepsC : Nat × List Nat → List Nat → List Bool → Nat × List Nat
  | x, k :: ks, l :: ls => stepsC (stepC x k l) ks ls
  | x, _, _ => x
def fireC (x : Nat × List Nat) (f : Bool) : Nat × List Nat := if f = true then (if x.1 = 6 then (6, x.2 ++ [7]) else if x.1 = 8 then (8, x.2 ++ [8]) else x) else x
def drainC (x : Nat × List Nat) : Nat × List Nat := if x.1 = 5 then (6, x.2 ++ [7]) else if x.1 = 7 then (8, x.2 ++ [8]) else x
def endC (s : Nat) (ks : List Nat) (ls : List Bool) (f : Bool) : Nat × List Nat := drainC (fireC (stepsC (s, []) ks ls) f)
/-- Behind a turn: la, lb: what is lost of what a, b say; fa, fb: whose timer runs out. -/
def nextC (c : Cls) (la lb : List Bool) (fa fb : Bool) : Cls := ⟨(endC c.sa c.rb lb fa).1, (endC c.sa c.rb lb fa).2, (endC c.sb c.ra la fb).1, (endC c.sb c.ra la fb).2⟩
/-- How two ends stand that part; and how many turns at most it takes them to end where something is on its way and nothing is lost. -/
def clsT : List (Cls × Nat) := [
  (⟨0, [], 0, []⟩, 0),
  (⟨0, [], 0, [14]⟩, 0),
  (⟨0, [], 0, [14, 14]⟩, 0),
  (⟨0, [], 8, []⟩, 0),
  (⟨0, [], 8, [8]⟩, 2),
  (⟨0, [14], 0, []⟩, 0),
  (⟨0, [14], 0, [14]⟩, 0),
  (⟨0, [14], 0, [14, 14]⟩, 0),
  (⟨0, [14], 8, []⟩, 1),
  (⟨0, [14], 8, [8]⟩, 1),
  (⟨0, [14], 8, [8, 8]⟩, 1),
  (⟨0, [14, 14], 0, []⟩, 0),
  (⟨0, [14, 14], 0, [14]⟩, 0),
  (⟨0, [14, 14], 0, [14, 14]⟩, 0),
  (⟨0, [14, 14], 8, []⟩, 1),
  (⟨0, [14, 14], 8, [8]⟩, 1),
  (⟨0, [14, 14], 8, [8, 8]⟩, 1),
  (⟨5, [], 4, []⟩, 0),
  (⟨5, [], 5, []⟩, 0),
  (⟨6, [], 4, []⟩, 0),
  (⟨6, [], 5, []⟩, 0),
  (⟨6, [], 6, []⟩, 0),
  (⟨6, [], 6, [7]⟩, 3),
  (⟨6, [], 8, []⟩, 0),
  (⟨6, [], 8, [8]⟩, 2),
  (⟨6, [], 8, [8, 8]⟩, 2),
  (⟨6, [7], 4, []⟩, 3),
  (⟨6, [7], 5, []⟩, 3),
  (⟨6, [7], 6, []⟩, 3),
  (⟨6, [7], 6, [7]⟩, 2),
  (⟨6, [7], 8, []⟩, 3),
  (⟨6, [7], 8, [8]⟩, 2),
  (⟨6, [7], 8, [8, 8]⟩, 2),
  (⟨8, [], 0, []⟩, 0),
  (⟨8, [], 0, [14]⟩, 1),
  (⟨8, [], 0, [14, 14]⟩, 1),
  (⟨8, [], 6, []⟩, 0),
  (⟨8, [], 6, [7]⟩, 3),
  (⟨8, [], 8, []⟩, 0),
  (⟨8, [], 8, [8]⟩, 2),
  (⟨8, [8], 0, []⟩, 2),
  (⟨8, [8], 0, [14]⟩, 1),
  (⟨8, [8], 0, [14, 14]⟩, 1),
  (⟨8, [8], 6, []⟩, 2),
  (⟨8, [8], 6, [7]⟩, 2),
  (⟨8, [8], 8, []⟩, 2),
  (⟨8, [8], 8, [8]⟩, 1),
  (⟨8, [8], 8, [8, 8]⟩, 1),
  (⟨8, [8, 8], 0, [14]⟩, 1),
  (⟨8, [8, 8], 0, [14, 14]⟩, 1),
  (⟨8, [8, 8], 6, []⟩, 2),
  (⟨8, [8, 8], 6, [7]⟩, 2),
  (⟨8, [8, 8], 8, [8]⟩, 1),
  (⟨8, [8, 8], 8, [8, 8]⟩, 1)]
def memC (c : Cls) : Bool := clsT.any fun x => eqC x.1 c
def muL (c : Cls) : List (Cls × Nat) → Nat
  | [] => 0
  | x :: l => if eqC x.1 c = true then x.2 else muL c l
def muC (c : Cls) : Nat := muL c clsT
def quietC (c : Cls) : Bool := eqN c.ra [] && eqN c.rb []
def doneC (c : Cls) : Bool := Nat.beq c.sa 0 && Nat.beq c.sb 0
def bools : Nat → List (List Bool)
  | 0 => [[]]
  | n + 1 => (bools n).map (true :: ·) ++ (bools n).map (false :: ·)
theorem mem_bools : ∀ (l : List Bool) (n : Nat), l.length = n → l ∈ bools n
  | [], n, h => by
    subst h
    exact List.mem_singleton.mpr rfl
  | b :: l, 0, h => by simp at h
  | b :: l, n + 1, h => by
    have := mem_bools l n (by simpa using h)
    unfold bools
    rw [List.mem_append, List.mem_map, List.mem_map]
    cases b
    · exact .inr ⟨l, this, rfl⟩
    · exact .inl ⟨l, this, rfl⟩
def bothB (f : Bool → Bool) : Bool := f true && f false
theorem bothB_all {f : Bool → Bool} (h : bothB f = true) : ∀ b, f b = true := fun b => by
  simp only [bothB, Bool.and_eq_true] at h
  cases b
  · exact h.2
  · exact h.1
def stay (c d : Cls) : Bool := (!(quietC c && quietC d) || (eqC c d && (!Nat.beq c.sa 5 && !Nat.beq c.sb 5))) && (!doneC c || doneC d)
set_option maxRecDepth 100000 in
theorem closed_all : (clsT.all fun x => (bools x.1.ra.length).all fun la => (bools x.1.rb.length).all fun lb => bothB fun fa => bothB fun fb => memC (nextC x.1 la lb fa fb) && stay x.1 (nextC x.1 la lb fa fb)) = true := by decide +kernel
def falses (n : Nat) : List Bool := List.replicate n false
def onward (c d : Cls) : Bool := quietC c || (doneC c || (Nat.ble 1 (muC c) && (doneC d || (!quietC d && Nat.ble (muC d + 1) (muC c)))))
set_option maxRecDepth 100000 in
theorem onward_all : (clsT.all fun x => bothB fun fa => bothB fun fb => onward x.1 (nextC x.1 (falses x.1.ra.length) (falses x.1.rb.length) fa fb)) = true := by decide +kernel
def aliveC (n : Nat) : Bool := Nat.beq n 5 || (Nat.beq n 6 || Nat.beq n 8)
def smallC (c : Cls) : Bool := Nat.ble c.ra.length 2 && (Nat.ble c.rb.length 2 && (Nat.ble (muC c) 4 && ((doneC c || (aliveC c.sa || aliveC c.sb)) && (!Nat.beq c.sb 4 || (memC ⟨c.sa, c.ra, 5, c.rb⟩ && Nat.ble (muC ⟨c.sa, c.ra, 5, c.rb⟩) (muC c))))))
set_option maxRecDepth 100000 in
theorem small_all : (clsT.all fun x => smallC x.1) = true := by decide +kernel
theorem memC_elim {c : Cls} (h : memC c = true) : ∃ x ∈ clsT, x.1 = c := by
  unfold memC at h
  rw [List.any_eq_true] at h
  obtain ⟨x, h1, h2⟩ := h
  exact ⟨x, h1, eqC_eq h2⟩
theorem beq_iff {a b : Nat} : Nat.beq a b = true ↔ a = b := ⟨Nat.eq_of_beq_eq_true, fun h => by rw [h]; exact Nat.beq_refl b⟩
theorem quiet_iff {c : Cls} : quietC c = true ↔ c.ra = [] ∧ c.rb = [] := by
  unfold quietC
  rw [Bool.and_eq_true]
  constructor
  · rintro ⟨h1, h2⟩
    exact ⟨eqN_eq h1, eqN_eq h2⟩
  · rintro ⟨h1, h2⟩
    rw [h1, h2]
    exact ⟨rfl, rfl⟩
theorem done_iff {c : Cls} : doneC c = true ↔ c.sa = 0 ∧ c.sb = 0 := by
  unfold doneC
  rw [Bool.and_eq_true, beq_iff, beq_iff]
theorem next_mem {c : Cls} (h : memC c = true) {la lb : List Bool} (h1 : la.length = c.ra.length) (h2 : lb.length = c.rb.length) (fa fb : Bool) :
    memC (nextC c la lb fa fb) = true ∧ (quietC c = true → quietC (nextC c la lb fa fb) = true → nextC c la lb fa fb = c ∧ c.sa ≠ 5 ∧ c.sb ≠ 5) ∧ (doneC c = true → doneC (nextC c la lb fa fb) = true) := by
  obtain ⟨x, k1, rfl⟩ := memC_elim h
  have k2 := List.all_eq_true.mp (List.all_eq_true.mp (List.all_eq_true.mp closed_all x k1) la (mem_bools la _ h1)) lb (mem_bools lb _ h2)
  have k3 := bothB_all (bothB_all k2 fa) fb
  rw [Bool.and_eq_true] at k3
  have k5 := k3.2
  unfold stay at k5
  rw [Bool.and_eq_true] at k5
  have k4 := k5.1
  refine ⟨k3.1, fun q1 q2 => ?_, fun q1 => ?_⟩
  rotate_left
  · have := k5.2
    rw [q1] at this
    simpa using this
  rw [q1, q2] at k4
  simp only [Bool.and_self, Bool.not_true, Bool.false_or, Bool.and_eq_true, Bool.not_eq_true'] at k4
  refine ⟨(eqC_eq k4.1).symm, fun e => ?_, fun e => ?_⟩
  · have := k4.2.1
    rw [e] at this
    cases this
  · have := k4.2.2
    rw [e] at this
    cases this
theorem next_on {c : Cls} (h : memC c = true) (hq : quietC c = false) (hd : doneC c = false) (fa fb : Bool) :
    1 ≤ muC c ∧ (doneC (nextC c (falses c.ra.length) (falses c.rb.length) fa fb) = true ∨ quietC (nextC c (falses c.ra.length) (falses c.rb.length) fa fb) = false ∧ muC (nextC c (falses c.ra.length) (falses c.rb.length) fa fb) + 1 ≤ muC c) := by
  obtain ⟨x, k1, rfl⟩ := memC_elim h
  have k3 := bothB_all (bothB_all (List.all_eq_true.mp onward_all x k1) fa) fb
  unfold onward at k3
  rw [hq, hd] at k3
  simp only [Bool.false_or, Bool.or_eq_true, Bool.and_eq_true, Bool.not_eq_true'] at k3
  refine ⟨Nat.le_of_ble_eq_true k3.1, ?_⟩
  rcases k3.2 with k | ⟨k, k'⟩
  · exact .inl k
  · exact .inr ⟨k, Nat.le_of_ble_eq_true k'⟩
theorem cls_small {c : Cls} (h : memC c = true) : c.ra.length ≤ 2 ∧ c.rb.length ≤ 2 ∧ muC c ≤ 4 ∧ (doneC c = false → (c.sa = 5 ∨ c.sa = 6 ∨ c.sa = 8) ∨ (c.sb = 5 ∨ c.sb = 6 ∨ c.sb = 8)) ∧ (c.sb = 4 → memC ⟨c.sa, c.ra, 5, c.rb⟩ = true ∧ muC ⟨c.sa, c.ra, 5, c.rb⟩ ≤ muC c) := by
  obtain ⟨x, k1, rfl⟩ := memC_elim h
  have k := List.all_eq_true.mp small_all x k1
  unfold smallC aliveC at k
  simp only [Bool.and_eq_true, Bool.or_eq_true, Bool.not_eq_true', beq_iff] at k
  obtain ⟨k1, k2, k3, k4, k5⟩ := k
  refine ⟨Nat.le_of_ble_eq_true k1, Nat.le_of_ble_eq_true k2, Nat.le_of_ble_eq_true k3, fun hd => ?_, fun e => ?_⟩
  · rcases k4 with k4 | k4
    · rw [hd] at k4
      cases k4
    · exact k4
  · rcases k5 with k5 | k5
    · rw [e] at k5
      cases k5
    · exact ⟨k5.1, Nat.le_of_ble_eq_true k5.2⟩
end Go.FL

/- A range over a function whose iterator keeps a place of its own in one block: what the iterator promises, and the statement's walk. Conditions: none. No program in sight. -/
import Derived.Test.YtahpklciafpdaaaBaseC
import Derived.RangeFuncNested
import Derived.RangeFuncBound
import Derived.RangeFuncCalls
import Derived.RangeFuncLeaves
set_option linter.unusedSimpArgs false
set_option linter.unusedVariables false
namespace Go.FL
open Go Go.RowKit

/-- What lay below n₀ lies as it lay, and block B. -/
def KpB (n₀ B : Nat) (W W' : World) : Prop := Below n₀ W W' ∧ W'.heap[B]? = W.heap[B]?
theorem KpB.trans {n₀ B : Nat} {a b c : World} (h : KpB n₀ B a b) (k : KpB n₀ B b c) : KpB n₀ B a c := ⟨h.1.trans k.1, k.2.trans h.2⟩
/-- A fact that new blocks and stores in block B leave. -/
def AbB {β : Type} (B : Nat) (J : β → World → Prop) : Prop := ∀ s W W', J s W → W.grownBy W' (some B) → J s W'
/-- A fact that leaves alone, besides, the turns of what is no cells, from block D on. -/
def AbD {β : Type} (D B : Nat) (J : β → World → Prop) : Prop :=
  ∀ s W W' r, J s W → W.grownBy W' (some r) → (r = B ∨ (D ≤ r ∧ ∃ o : Obj, W.heap[r]? = some o ∧ o.isCells = false)) → J s W'
/-- The iterator's word: it hands on what is good, and says of all of it what S says. -/
def SeqB {α : Type} (P : Program) (g : Nat) (lb : Array Value) (encs : α → Array Value) (B n₀ : Nat) (Gd : List α → α → World → Prop) (S : List α → Prop) (w : World) : Prop :=
  ∀ (l : Nat) (J Jx : List α → World → Prop) (W : World), Below w.heap.size w W → AbB B J → AbB B Jx →
    (∀ pre x W1, J pre W1 → Gd pre x W1 → YieldAt Fence.wide 0 P l (encs x) W1 fun e W' =>
      (e = .returned (.bool true) ∧ J (pre ++ [x]) W' ∧ KpB n₀ B W1 W') ∨ (e = .returned (.bool false) ∧ Jx (pre ++ [x]) W')) →
    J [] W →
    CallsIn Fence.wide 0 P g (#[.func (.yield l) #[] #[]] ++ lb) W fun e W' => (∃ v, e = .returned v) ∧ ((∃ xs, S xs ∧ J xs W') ∨ (∃ pre, Jx pre W'))
/-- How a round may end: it goes on, or the function returns. -/
def roundPost {α : Type} (D n₀ B : Nat) (I Ix : List α → World → Prop) (xs : List α) (W : World) : Exit → Act → World → Prop
  | .normal, _, W' => KeepsFrom D W W' ∧ KpB n₀ B W W' ∧ I xs W'
  | .ret, _, W' => KeepsFrom D W W' ∧ Ix xs W'
  | _, _, _ => False

theorem AbD.put {β : Type} {D B : Nat} {J : β → World → Prop} (h : AbD D B J) {s : β} {W : World} {l : Nat} {o : Obj} (o' : Obj) (hs : J s W) (hD : D ≤ l) (hl : W.heap[l]? = some o) (ho : o.isCells = false) : J s (W.putObj l o') :=
  h s W _ l hs (grownBy_putObj' W l o') (.inr ⟨hD, o, hl, ho⟩)
theorem grownBy_any {W W' : World} {row : Option Nat} (h : W.grownBy W' none) : W.grownBy W' row := ⟨h.os, h.tape, h.output, h.size, fun k hk _ => h.block k hk (by simp)⟩

theorem wp_range {α : Type} {P : Program} {g : Operand} {ps : Array Tmp} {assign body : Code} {Q : Exit → Act → World → Prop} {a : Act} {w : World}
    {gf : Nat} {lb : Array Value} (hg : a.eval g = .func (.func gf) #[] lb) (eg : ∀ args w, (callFunc gf args).run P w = .ok (.enter gf args) w)
    {encs : α → Array Value} {B n₀ : Nat} {Gd : List α → α → World → Prop} {S : List α → Prop} (hseq : SeqB P gf lb encs B n₀ Gd S w) (hps : ∀ x, (encs x).size = ps.size)
    (hn0 : n₀ ≤ w.heap.size) (hB : B < w.heap.size)
    (I Ix : List α → World → Prop) (hI : AbD w.heap.size B I) (hIx : AbD w.heap.size B Ix) (h0 : I [] w)
    (Ax : List α × α × Act → World → Prop) (hAx : AbD w.heap.size B Ax)
    (hassign : ∀ (l : Nat) (pre : List α) (x : α) (W : World) (K : Act → World → Prop), w.heap.size + 2 ≤ W.heap.size → I pre W → Gd pre x W →
      (∀ a' W', I pre W' → Below W.heap.size W W' → Ax (pre, x, a') W' → K a' W') →
      assign.wpIn (Fence.wide.inRound l) 0 P (Exit.then K (fun _ _ _ => False)) { tmps := (ps.zip (encs x)).foldl (fun t (p, v) => t.setIfInBounds p v) a.tmps, defers := [] } W)
    (hbody : ∀ (l : Nat) (pre : List α) (x : α) (a' : Act) (W : World), w.heap.size + 2 ≤ W.heap.size → I pre W → Ax (pre, x, a') W → body.wpIn (Fence.wide.inRound l) 0 P (roundPost w.heap.size n₀ B I Ix (pre ++ [x]) W) a' W)
    (hdone : ∀ (D : Nat) (xs : List α) (W : World), w.heap.size ≤ D → S xs → I xs W → W.heap[D]? = some (.deferred (some [])) → Q .normal { a with defers := { target := .collected D, args := #[] } :: a.defers } W)
    (hstop : ∀ (D : Nat) (pre : List α) (W : World), w.heap.size ≤ D → Ix pre W → W.heap[D]? = some (.deferred (some [])) → Code.ret.wp P Q { a with defers := { target := .collected D, args := #[] } :: a.defers } W) :
    (Code.rangeFunc g ps assign body).wp P Q a w := by
  refine (wpIn_wide (n := 0)).1 (wpIn_rangeFunc fun fn hfn => ?_)
  obtain ⟨D, hD⟩ : ∃ D, D = w.heap.size := ⟨_, rfl⟩
  obtain ⟨L, hL⟩ : ∃ L, L = w.heap.size + 1 := ⟨_, rfl⟩
  let rec_ : LoopState → Option Code → Loop := fun st pe => { state := st, pending := pe, fn := fn, tmps := a.tmps, params := ps, assign := assign, body := body, defers := w.heap.size }
  obtain ⟨W1, hW1⟩ : ∃ W1, W1 = (w.alloc (.deferred (some []))).alloc (.loop (rec_ .ready none)) := ⟨_, rfl⟩
  have sz1 : W1.heap.size = w.heap.size + 2 := by rw [hW1]; simp
  have r1 : W1.heap[L]? = some (.loop (rec_ .ready none)) := by
    rw [hW1, hL]
    have := World.alloc_heap_new (w.alloc (.deferred (some []))) (.loop (rec_ .ready none))
    rwa [World.size_alloc] at this
  have d1 : W1.heap[D]? = some (.deferred (some [])) := by
    rw [hW1, hD]
    exact (Below.heap_alloc _ _ _ (by simp)).trans (World.alloc_heap_new w _)
  have g1 : Below w.heap.size w W1 := by
    rw [hW1]
    exact ((Below.refl _ w).alloc (Nat.le_refl _) _).alloc (by simp) _
  have i1 : I [] W1 := hI [] w W1 B h0 (gb_of_gr g1 _) (.inl rfl)
  -- a step of the iterator's own leaves the record and the block of deferred calls
  have hkeep : ∀ {A A' : World} {k : Nat} {o : Obj}, D ≤ k → A.heap[k]? = some o → A.grownBy A' (some B) → A'.heap[k]? = some o := by
    intro A A' k o hk ho hg
    refine (hg.block k (Array.getElem?_eq_some_iff.1 ho).1 ?_).trans ho
    intro e
    simp at e
    omega
  refine ⟨L, [{ target := .collected D, args := #[] }], W1, { target := .fn (.func gf) lb, args := #[.func (.yield L) #[] #[]] }, W1, gf, #[.func (.yield L) #[] #[]] ++ lb, W1, ?_, ?_, fun _ _ => trivial, ?_, fun h => by simp [Fence.wide] at h, ?_⟩
  · rw [hW1, hL, hD]
    exact run_enterLoop_outer _ _ _ _ _
  · simp only [resolve, hg]
    simp [go_sem]
  · simp [invoke, go_sem, eg]
  · refine (hseq L (fun pre W => I pre W ∧ W.heap[L]? = some (.loop (rec_ .ready none)) ∧ W.heap[D]? = some (.deferred (some [])) ∧ w.heap.size + 2 ≤ W.heap.size)
      (fun pre W => Ix pre W ∧ W.heap[L]? = some (.loop (rec_ .done (some .ret))) ∧ W.heap[D]? = some (.deferred (some []))) W1 g1
      (fun s A A' hs hg => ⟨hI s A A' B hs.1 hg (.inl rfl), hkeep (by omega) hs.2.1 hg, hkeep (Nat.le_refl _) hs.2.2.1 hg, Nat.le_trans hs.2.2.2 hg.size⟩)
      (fun s A A' hs hg => ⟨hIx s A A' B hs.1 hg (.inl rfl), hkeep (by omega) hs.2.1 hg, hkeep (Nat.le_refl _) hs.2.2 hg⟩) ?_ ⟨i1, r1, d1, by omega⟩).mono ?_
    · rintro pre x W ⟨hi, hr, hd, hsz⟩ hgd
      refine ⟨fn, _, assign, body, run_yield hr (hps x), roundIn_of_wpIn hfn (hassign L pre x W _ hsz hi hgd fun a' W' hi' hb' hax => ?_)⟩
      have hr' : W'.heap[L]? = some (.loop (rec_ .ready none)) := (hb'.block L (Array.getElem?_eq_some_iff.1 hr).1).trans hr
      have hd' : W'.heap[D]? = some (.deferred (some [])) := (hb'.block D (Array.getElem?_eq_some_iff.1 hd).1).trans hd
      have hlt : L < W'.heap.size := (Array.getElem?_eq_some_iff.1 hr').1
      obtain ⟨W2, hW2⟩ : ∃ W2, W2 = W'.putObj L (.loop { rec_ .ready none with state := .busy }) := ⟨_, rfl⟩
      refine ⟨W2, by rw [hW2]; exact run_beginRound hr' rfl, ?_⟩
      have hr2 : W2.heap[L]? = some (.loop { rec_ .ready none with state := .busy }) := by rw [hW2]; exact World.putObj_heap_same hlt
      have hd2 : W2.heap[D]? = some (.deferred (some [])) := by rw [hW2]; exact (World.putObj_heap_other (by omega)).trans hd'
      have hi2 : I pre W2 := by rw [hW2]; exact hI.put _ hi' (by omega) hr' rfl
      have hax2 : Ax (pre, x, a') W2 := by rw [hW2]; exact hAx.put _ hax (by omega) hr' rfl
      have hs2 : w.heap.size + 2 ≤ W2.heap.size := by rw [hW2, World.putObj_size]; exact Nat.le_trans hsz hb'.size
      have hb2 : KpB n₀ B W W2 := by
        rw [hW2]
        exact ⟨(hb'.mono (by omega)).trans ((Below.refl n₀ W').grown (grownBy_putObj' W' L _) (by omega) (fun k e => by cases e; omega)), (World.putObj_heap_other (by omega)).trans (hb'.block B (by omega))⟩
      have fin : ∀ (jump : Option Code) (W3 : World), KeepsFrom w.heap.size W2 W3 →
          W3.heap[L]? = some (.loop { rec_ .ready none with state := .busy }) ∧ W3.heap[D]? = some (.deferred (some [])) := fun _ W3 hk => ⟨hk.same L _ (by omega) hr2 rfl, hk.same D _ (by omega) hd2 rfl⟩
      refine wpIn_mono (hbody L pre x a' W2 hs2 hi2 hax2) ?_
      rintro e a3 W3 hp
      cases e with
      | normal =>
        obtain ⟨hk, hb3, hi3⟩ := hp
        obtain ⟨hr3, hd3⟩ := fin none W3 hk
        have hlt3 := (Array.getElem?_eq_some_iff.1 hr3).1
        refine ⟨_, _, run_endRound none hr3, .inl ⟨rfl, ⟨hI.put _ hi3 (by omega) hr3 rfl, World.putObj_heap_same hlt3, (World.putObj_heap_other (by omega)).trans hd3, ?_⟩, ?_⟩⟩
        · rw [World.putObj_size]
          exact Nat.le_trans hs2 hb3.1.size
        · exact (hb2.trans hb3).trans ⟨(Below.refl n₀ W3).grown (grownBy_putObj' W3 L _) (by omega) (fun k e => by cases e; omega), World.putObj_heap_other (by omega)⟩
      | ret =>
        obtain ⟨hk, hi3⟩ := hp
        obtain ⟨hr3, hd3⟩ := fin (some .ret) W3 hk
        have hlt3 := (Array.getElem?_eq_some_iff.1 hr3).1
        exact ⟨_, _, run_endRound (some .ret) hr3, .inr ⟨rfl, hIx.put _ hi3 (by omega) hr3 rfl, World.putObj_heap_same hlt3, (World.putObj_heap_other (by omega)).trans hd3⟩⟩
      | exit id => exact hp.elim
      | goto t => exact hp.elim
      | panic ch => exact hp.elim
      | outgrown => exact hp.elim
    · rintro e W2 ⟨⟨v, rfl⟩, (⟨xs, hS, hi, hr, hd, _⟩ | ⟨pre, hi, hr, hd⟩)⟩
      · exact ⟨none, _, run_endLoop hr (by simp [rec_]), hdone D xs _ (by omega) hS (hI.put _ hi (by omega) hr rfl) ((World.putObj_heap_other (by omega)).trans hd)⟩
      · exact ⟨some .ret, _, run_endLoop hr (by simp [rec_]), (wpIn_wide (n := 0)).2 (hstop D pre _ (by omega) (hIx.put _ hi (by omega) hr rfl) ((World.putObj_heap_other (by omega)).trans hd))⟩
end Go.FL

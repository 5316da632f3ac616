/- Regions that draw their order and write again what they made: blocks that were there stand; rows that are new keep their length, and a cell of theirs changes at most to what may stand there. Conditions: none. No program in sight. -/
import Derived.Test.YtahpklciafpdaaaBaseC
set_option linter.unusedSimpArgs false
set_option linter.unusedVariables false
namespace Go.FL
open Go.RowKit

/-- The blocks below B stand; a row from B on keeps its type and its length, and each of its cells, or it holds what Φ lets stand there. -/
structure GrS (B : Nat) (Φ : Nat → Value → Prop) (a b : World) : Prop where
  below : Below B a b
  shape : ∀ g e (l : List Value), B ≤ g → RowV a g e l → ∃ l', RowV b g e l' ∧ l'.length = l.length ∧ ∀ i : Nat, l'[i]? = l[i]? ∨ ∃ v, l'[i]? = some v ∧ Φ i v
theorem GrS.refl (B : Nat) (Φ : Nat → Value → Prop) (a : World) : GrS B Φ a a := ⟨Below.refl _ _, fun _ _ l _ h => ⟨l, h, rfl, fun _ => .inl rfl⟩⟩
theorem GrS.trans {B : Nat} {Φ : Nat → Value → Prop} {a b c : World} (h : GrS B Φ a b) (k : GrS B Φ b c) : GrS B Φ a c := by
  refine ⟨h.below.trans k.below, fun g e l hg hr => ?_⟩
  obtain ⟨l1, r1, n1, p1⟩ := h.shape g e l hg hr
  obtain ⟨l2, r2, n2, p2⟩ := k.shape g e l1 hg r1
  refine ⟨l2, r2, n2.trans n1, fun i => ?_⟩
  rcases p2 i with q | q
  · rcases p1 i with q1 | ⟨v, q1, q2⟩
    · exact .inl (q.trans q1)
    · exact .inr ⟨v, q.trans q1, q2⟩
  · exact .inr q
theorem GrS.of_gr {B : Nat} (Φ : Nat → Value → Prop) {a b : World} (hB : B ≤ a.heap.size) (h : GrR a b) : GrS B Φ a b :=
  ⟨h.mono hB, fun _ _ l _ hr => ⟨l, hr.mono h, rfl, fun _ => .inl rfl⟩⟩
theorem GrS.drew (B : Nat) (Φ : Nat → Value → Prop) (a : World) : GrS B Φ a a.drew := ⟨(Below.refl _ _).drew, fun _ _ l _ hr => ⟨l, hr.drew, rfl, fun _ => .inl rfl⟩⟩
theorem GrS.size {B : Nat} {Φ : Nat → Value → Prop} {a b : World} (h : GrS B Φ a b) : a.heap.size ≤ b.heap.size := h.below.size
theorem below_set {B : Nat} {w : World} {g i : Nat} {v : Value} (h : B ≤ g) : Below B w (w.setCell ⟨g, i, none⟩ v) :=
  ⟨rfl, rfl, rfl, by simp [World.setCell], fun k hk => Below.heap_setCell w _ v k (fun e => by have e' : k = g := e; omega)⟩
theorem rowV_fun {w : World} {g e e' : Nat} {l l' : List Value} (h : RowV w g e l) (h' : RowV w g e' l') : e = e' ∧ l = l' := by
  unfold RowV at h h'
  rw [h] at h'
  simp only [Option.some.injEq, Obj.cells.injEq] at h'
  refine ⟨h'.2.1, ?_⟩
  have := congrArg Array.toList h'.1
  simpa using this
theorem GrS.set {B : Nat} {Φ : Nat → Value → Prop} {a : World} {g i : Nat} {v : Value} (hB : B ≤ g) (hΦ : Φ i v) : GrS B Φ a (a.setCell ⟨g, i, none⟩ v) := by
  refine ⟨below_set hB, fun g' e' l' _ hr => ?_⟩
  by_cases hg : g' = g
  · subst hg
    refine ⟨l'.set i v, hr.store i v, by simp, fun j => ?_⟩
    by_cases hj : i = j
    · subst hj
      by_cases hl : i < l'.length
      · exact .inr ⟨v, by simp [hl], hΦ⟩
      · exact .inl (by simp [hl])
    · exact .inl (by simp [hj])
  · exact ⟨l', hr.other _ _ (fun e => hg e.symm), rfl, fun _ => .inl rfl⟩
theorem Is.gs (B : Nat) (Φ : Nat → Value → Prop) (v0 : Value) : Stab (GrS B Φ) (Is v0) := Is.stab _ _
theorem AnyF.gs (B : Nat) (Φ : Nat → Value → Prop) : Stab (GrS B Φ) AnyF := fun _ _ _ _ _ => trivial
/-- A new row of so many cells. -/
def ShF (B e n : Nat) : Value → World → Prop := fun v w => ∃ h l, v = .pointer (some ⟨h, 0, none⟩) ∧ B ≤ h ∧ RowV w h e l ∧ l.length = n
theorem ShF.gs (B : Nat) (Φ : Nat → Value → Prop) (e n : Nat) : Stab (GrS B Φ) (ShF B e n) := fun _ _ _ ⟨h, l, h1, h2, h3, h4⟩ k => by
  obtain ⟨l', r1, n1, -⟩ := k.shape h e l h2 h3
  exact ⟨h, l', h1, h2, r1, n1.trans h4⟩
/-- The region. -/
theorem wp_region_gs {P : Program} {Q : Exit → Act → World → Prop} {l : List Oper} {a0 : Act} {w0 : World} {id : Nat} (B : Nat) (Φ : Nat → Value → Prop) (L : List (Value → World → Prop)) (hm : P.follows .mixedOrders = true) (hds : dstsOk l a0.tmps.size = true) (hx : lexOk l = true)
    (hst : StabAll (GrS B Φ) L) (H : AllOps P (RhoAt a0 l) (GrS B Φ) (factAt L) (l.map (·.dst)) w0 l 0)
    (hQ : ∀ (vals : Nat → Value) (w : World), GrS B Φ w0 w → (∀ i, i < l.length → factAt L i (vals i) w) → Q .normal (fillFrom vals l 0 a0) w) : (Code.region id l.toArray true).wp P Q a0 w0 :=
  wp_region_grow hm hds hx (GrS.refl B Φ) (fun _ _ _ => GrS.trans) (GrS.drew B Φ) (factAt_stab hst) H hQ
theorem opOk_skip {P : Program} {o : Oper} {ρ : Operand → Value} {w w' : World} {post : Value → World → Prop} (h : (execOp ρ o).run P w = .ok .skip w') (hp : post undef w') : opOk P o ρ w post := by
  unfold opOk
  rw [h]
  exact hp
end Go.FL

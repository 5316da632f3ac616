/- Regions that draw their order and write one block that was there, each cell of it once and with what is known ahead; and regions of which calls change certain blocks. Conditions: none. No program in sight. -/
import Derived.Test.YtiimlanbbfhkjaaDoorBaseC
set_option linter.unusedSimpArgs false
set_option linter.unusedVariables false




namespace Go.FL

open Go.RowKit

/-- Of what was there block g alone may have changed: it keeps its type and length, and each cell is as it was or holds what Φ lets stand there. -/
structure GrB (g : Nat) (Φ : Nat → Value → Prop) (a b : World) : Prop where
  chg : Chg (fun k => k = g) a b
  shape : ∀ e (l : List Value), RowV a g e l → ∃ l', RowV b g e l' ∧ l'.length = l.length ∧ ∀ i : Nat, l'[i]? = l[i]? ∨ ∃ v, l'[i]? = some v ∧ Φ i v
theorem GrB.refl (g : Nat) (Φ : Nat → Value → Prop) (a : World) : GrB g Φ a a := ⟨Chg.refl _ _, fun _ l h => ⟨l, h, rfl, fun _ => .inl rfl⟩⟩
theorem GrB.trans {g : Nat} {Φ : Nat → Value → Prop} {a b c : World} (h : GrB g Φ a b) (k : GrB g Φ b c) : GrB g Φ a c := by
  refine ⟨h.chg.trans k.chg, fun e l hr => ?_⟩
  obtain ⟨l1, r1, n1, p1⟩ := h.shape e l hr
  obtain ⟨l2, r2, n2, p2⟩ := k.shape e l1 r1
  refine ⟨l2, r2, n2.trans n1, fun i => ?_⟩
  rcases p2 i with q | q
  · rcases p1 i with q1 | ⟨v, q1, q2⟩
    · exact .inl (q.trans q1)
    · exact .inr ⟨v, q.trans q1, q2⟩
  · exact .inr q
theorem GrB.of_gr {g : Nat} (Φ : Nat → Value → Prop) {a b : World} (h : GrR a b) : GrB g Φ a b :=
  ⟨Chg.of_gr h, fun _ l hr => ⟨l, hr.mono h, rfl, fun _ => .inl rfl⟩⟩
theorem GrB.drew (g : Nat) (Φ : Nat → Value → Prop) (a : World) : GrB g Φ a a.drew := ⟨(Chg.refl _ _).drew, fun _ l hr => ⟨l, hr.drew, rfl, fun _ => .inl rfl⟩⟩
theorem GrB.set {g : Nat} {Φ : Nat → Value → Prop} {a : World} {i : Nat} {v : Value} (hΦ : Φ i v) : GrB g Φ a (a.setCell ⟨g, i, none⟩ v) := by
  refine ⟨(Chg.refl _ _).set ⟨g, i, none⟩ v (.inl rfl), fun e l hr => ⟨l.set i v, hr.store i v, by simp, fun j => ?_⟩⟩
  by_cases hj : i = j
  · subst hj
    by_cases hl : i < l.length
    · exact .inr ⟨v, by simp [hl], hΦ⟩
    · exact .inl (by simp [hl])
  · exact .inl (by simp [hj])
theorem GrB.cell {g : Nat} {Φ : Nat → Value → Prop} {a b : World} (h : GrB g Φ a b) {ad : Addr} {v : Value} (hc : a.cell? ad = some v) (hg : ad.block ≠ g) : b.cell? ad = some v := cell_chg h.chg hc hg
/-- A cell that nothing may be laid into, or just what stands there. -/
theorem GrB.keep {g : Nat} {Φ : Nat → Value → Prop} {a b : World} (h : GrB g Φ a b) {e : Nat} {l : List Value} (hr : RowV a g e l) {i : Nat} {v : Value} (hc : l[i]? = some v) (hn : ∀ u, Φ i u → u = v) : b.cell? ⟨g, i, none⟩ = some v := by
  obtain ⟨l', r', -, p'⟩ := h.shape e l hr
  rw [r'.cell]
  rcases p' i with q | ⟨u, q, q2⟩
  · rw [q, hc]
  · rw [q, hn u q2]
/-- The block is a row of so many cells, and this cell holds this. -/
def CellF (g i : Nat) (v : Value) : Value → World → Prop := fun _ w => ∃ e l, RowV w g e l ∧ l[i]? = some v
theorem CellF.gb {g : Nat} {Φ : Nat → Value → Prop} {i : Nat} {v : Value} (hn : ∀ u, Φ i u → u = v) : Stab (GrB g Φ) (CellF g i v) := fun _ _ _ ⟨e, l, h1, h2⟩ k => by
  obtain ⟨l', r', -, p'⟩ := k.shape e l h1
  refine ⟨e, l', r', ?_⟩
  rcases p' i with q | ⟨u, q, q2⟩
  · rw [q, h2]
  · rw [q, hn u q2]
theorem Is.gB (g : Nat) (Φ : Nat → Value → Prop) (v0 : Value) : Stab (GrB g Φ) (Is v0) := Is.stab _ _
theorem AnyF.gB (g : Nat) (Φ : Nat → Value → Prop) : Stab (GrB g Φ) AnyF := fun _ _ _ _ _ => trivial
theorem wp_region_gB {P : Program} {Q : Exit → Act → World → Prop} {l : List Oper} {a0 : Act} {w0 : World} {id : Nat} (g : Nat) (Φ : Nat → Value → Prop) (L : List (Value → World → Prop)) (hm : P.follows .mixedOrders = true) (hds : dstsOk l a0.tmps.size = true) (hx : lexOk l = true)
    (hst : StabAll (GrB g Φ) L) (H : AllOps P (RhoAt a0 l) (GrB g Φ) (factAt L) (l.map (·.dst)) w0 l 0)
    (hQ : ∀ (vals : Nat → Value) (w : World), GrB g Φ w0 w → (∀ i, i < l.length → factAt L i (vals i) w) → Q .normal (fillFrom vals l 0 a0) w) : (Code.region id l.toArray true).wp P Q a0 w0 :=
  wp_region_grow hm hds hx (GrB.refl g Φ) (fun _ _ _ => GrB.trans) (GrB.drew g Φ) (factAt_stab hst) H hQ
/-- What is laid into the cells I of the block: what des says. -/
def PhiS (I : List Nat) (des : List Value) : Nat → Value → Prop := fun i v => i ∈ I ∧ des[i]? = some v
/-- The cells of I hold what des says. -/
def StoF (g : Nat) (J : List Nat) (des : List Value) : Value → World → Prop := fun _ w => ∃ e l, RowV w g e l ∧ ∀ i ∈ J, l[i]? = des[i]?
theorem StoF.gB (g : Nat) (I J : List Nat) (des : List Value) : Stab (GrB g (PhiS I des)) (StoF g J des) := fun _ _ _ ⟨e, l, h1, h2⟩ k => by
  obtain ⟨l', r', -, p'⟩ := k.shape e l h1
  refine ⟨e, l', r', fun i hi => ?_⟩
  rcases p' i with q | ⟨u, q, q2⟩
  · rw [q, h2 i hi]
  · rw [q, q2.2]
/-- The block behind such a region. -/
theorem GrB.final {g e : Nat} {I : List Nat} {des l0 : List Value} {w w' : World} (hR : GrB g (PhiS I des) w w') (h0 : RowV w g e l0) (hlen : des.length = l0.length) (hout : ∀ i, i ∉ I → des[i]? = l0[i]?) (hin : ∀ i ∈ I, ∃ v x, StoF g [i] des x w' ∧ v = i) : RowV w' g e des := by
  obtain ⟨l', r', n', p'⟩ := hR.shape e l0 h0
  have he : l' = des := by
    apply List.ext_getElem?
    intro i
    by_cases hi : i ∈ I
    · obtain ⟨v, x, ⟨e2, l2, r2, h2⟩, -⟩ := hin i hi
      obtain ⟨-, rfl⟩ := rowV_fun r' r2
      exact h2 i (by simp)
    · rw [hout i hi]
      rcases p' i with q | ⟨u, q, q2⟩
      · exact q
      · exact absurd q2.1 hi
  rw [← he]
  exact r'
theorem StoF.one {g : Nat} {J : List Nat} {des : List Value} {x : Value} {w : World} (h : StoF g J des x w) {i : Nat} (hi : i ∈ J) : ∃ v x, StoF g [i] des x w ∧ v = i := by
  obtain ⟨e, l, h1, h2⟩ := h
  exact ⟨i, x, ⟨e, l, h1, fun j hj => by simp at hj; subst hj; exact h2 j hi⟩, rfl⟩
/-- Calls that change the blocks of S, one behind the other (ws: which operations), and a tail. -/
theorem wp_region_chg {P : Program} {Q : Exit → Act → World → Prop} {l : List Oper} {a0 : Act} {w0 : World} {id : Nat} (n : Nat) (S : Nat → Prop) (ws : List Nat) (J : Nat → World → Prop) (L : List (Value → World → Prop)) (hm : P.follows .mixedOrders = true) (hds : dstsOk (l.take n) a0.tmps.size = true) (hx : lexOk l = true) (hla : tailOk l n = true) (hlen : decide (n < l.length) = true) (hch : chainOk l n ws = true) (hg : guardsOk (l.take n) = true)
    (J0 : J 0 w0) (Jst : ∀ c a b, J c a → GrR a b → J c b) (hst : StabAll (Chg S) L) (H : AllOpsC P (RhoAt a0 (l.take n)) (Chg S) GrR J ws (factAt L) ((l.take n).map (·.dst)) w0 (l.take n) 0)
    (hQ : ∀ (vals : Nat → Value) (w : World), Chg S w0 w → J ws.length w → (∀ i, i < n → factAt L i (vals i) w) → wpList P l.toArray Q (l.drop n) (fillFrom vals (l.take n) 0 a0) w) : (Code.region id l.toArray true).wp P Q a0 w0 := by
  have hlt : n < l.length := of_decide_eq_true hlen
  have hfl : (l.take n).length = n := by rw [List.length_take]; omega
  exact wp_region_chain (f := l.take n) (T := l.drop n) (R := Chg S) (R' := GrR) n ws J (List.take_append_drop n l) hfl (fun h => by have := congrArg List.length h; simp at this; omega) hm hds hx hla hch hg
    (Chg.refl S) (fun _ _ _ => Chg.trans) (fun _ _ h => Chg.of_gr h) GrR.refl (fun a => (Below.refl _ _).drew) Jst (factAt_stab hst) J0 H (fun vals w h1 h2 h3 => hQ vals w h1 h2 (fun i hi => h3 i (by omega)))
theorem Is.ch (S : Nat → Prop) (v0 : Value) : Stab (Chg S) (Is v0) := Is.stab _ _
theorem AnyF.ch (S : Nat → Prop) : Stab (Chg S) AnyF := fun _ _ _ _ _ => trivial
end Go.FL

/- Two uses of the law of XRegChain: new memory alone, then a tail; a chain of calls that write one block, then a tail. Conditions: none. No program in sight. -/
import Derived.Test.YtfiblhdejglpaaaRegChain
import Derived.Test.YtfiblhdejglpaaaValRow
namespace Go.FL
open Go.RowKit

theorem AllOpsC_nil {P : Program} {Φ : (Operand → Value) → Prop} {R : World → World → Prop} {S : Nat → Value → World → Prop} {ds : List (Option Tmp)} {w0 : World} {J : Nat → World → Prop} :
    ∀ (m : List Oper) (k : Nat), AllOps P Φ R S ds w0 m k → AllOpsC P Φ R R J [] S ds w0 m k
  | [], _, _ => trivial
  | _ :: r, k, h => ⟨h.1, AllOpsC_nil r (k + 1) h.2⟩
section
variable {P : Program} {l : List Oper} {Q : Exit → Act → World → Prop} {a0 : Act} {w0 : World}
theorem wp_region_tail {id : Nat} (n : Nat) (L : List (Value → World → Prop)) (hm : P.follows .mixedOrders = true) (hds : dstsOk (l.take n) a0.tmps.size = true) (hx : lexOk l = true) (hla : tailOk l n = true) (hlen : decide (n < l.length) = true) (hg : guardsOk (l.take n) = true)
    (hst : StabAll GrR L) (H : AllOps P (RhoAt a0 (l.take n)) GrR (factAt L) ((l.take n).map (·.dst)) w0 (l.take n) 0)
    (hQ : ∀ (vals : Nat → Value) (w : World), GrR w0 w → (∀ i, i < n → factAt L i (vals i) w) → wpList P l.toArray Q (l.drop n) (fillFrom vals (l.take n) 0 a0) w) : (Code.region id l.toArray true).wp P Q a0 w0 := by
  have hlt : n < l.length := of_decide_eq_true hlen
  have hfl : (l.take n).length = n := by rw [List.length_take]; omega
  exact wp_region_chain (f := l.take n) (T := l.drop n) (R := GrR) (R' := GrR) n [] (fun _ _ => True) (List.take_append_drop n l) hfl (fun h => by have := congrArg List.length h; simp at this; omega) hm hds hx hla (by simp [chainOk]) hg
    GrR.refl (fun _ _ _ => gr_trans) (fun _ _ h => h) GrR.refl (fun a => (Below.refl _ _).drew) (fun _ _ _ _ _ => trivial) (factAt_stab hst) trivial (AllOpsC_nil _ _ H) (fun vals w h1 _ h3 => hQ vals w h1 (fun i hi => h3 i (by omega)))
/-- Block number g alone, of those that were there, may have changed. -/
def GbR (g : Nat) (a b : World) : Prop := a.grownBy b (some g)
theorem wp_region_take {id : Nat} (n : Nat) (g : Nat) (ws : List Nat) (J : Nat → World → Prop) (L : List (Value → World → Prop)) (hm : P.follows .mixedOrders = true) (hds : dstsOk (l.take n) a0.tmps.size = true) (hx : lexOk l = true) (hla : tailOk l n = true) (hlen : decide (n < l.length) = true) (hch : chainOk l n ws = true) (hg : guardsOk (l.take n) = true)
    (J0 : J 0 w0) (Jst : ∀ c a b, J c a → GrR a b → J c b) (hst : StabAll (GbR g) L) (H : AllOpsC P (RhoAt a0 (l.take n)) (GbR g) GrR J ws (factAt L) ((l.take n).map (·.dst)) w0 (l.take n) 0)
    (hQ : ∀ (vals : Nat → Value) (w : World), GbR g w0 w → J ws.length w → (∀ i, i < n → factAt L i (vals i) w) → wpList P l.toArray Q (l.drop n) (fillFrom vals (l.take n) 0 a0) w) : (Code.region id l.toArray true).wp P Q a0 w0 := by
  have hlt : n < l.length := of_decide_eq_true hlen
  have hfl : (l.take n).length = n := by rw [List.length_take]; omega
  exact wp_region_chain (f := l.take n) (T := l.drop n) (R := GbR g) (R' := GrR) n ws J (List.take_append_drop n l) hfl (fun h => by have := congrArg List.length h; simp at this; omega) hm hds hx hla hch hg
    (fun a => gb_refl a _) (fun _ _ _ => gb_trans) (fun _ _ h => gb_of_gr h _) GrR.refl (fun a => (Below.refl _ _).drew) Jst (factAt_stab hst) J0 H (fun vals w h1 h2 h3 => hQ vals w h1 h2 (fun i hi => h3 i (by omega)))
end
/-- A slice of values. -/
def RdVF (l : List Value) : Value → World → Prop := fun v w => RdV w v l
theorem RdVF.gr (l : List Value) : Stab GrR (RdVF l) := fun _ _ _ h k => h.mono k
/-- A new row. -/
def NewF (B e : Nat) (l : List Value) : Value → World → Prop := fun v w => ∃ h, v = .pointer (some ⟨h, 0, none⟩) ∧ B ≤ h ∧ RowV w h e l
theorem NewF.gr (B e : Nat) (l : List Value) : Stab GrR (NewF B e l) := fun _ _ _ ⟨h, h1, h2, h3⟩ k => ⟨h, h1, h2, h3.mono k⟩
theorem NewF.gb {B e g : Nat} (l : List Value) (hg : g < B) : Stab (GbR g) (NewF B e l) := fun _ _ _ ⟨h, h1, h2, h3⟩ k => ⟨h, h1, h2, h3.grown k (fun e => by simp at e; omega)⟩
theorem OwnF.gb {B e g : Nat} (l : List UInt8) (hg : g < B) : Stab (GbR g) (OwnF B e l) := fun v _ _ h k => by
  rcases h with ⟨rfl, rfl⟩ | ⟨g', sp, h1, rfl, hr, hm⟩
  · exact .inl ⟨rfl, rfl⟩
  · exact .inr ⟨g', sp, h1, rfl, hr.grown k (fun e => by simp at e; omega), hm⟩
theorem cell_gb {w w' : World} {g : Nat} (hb : GbR g w w') {a : Addr} {v : Value} (hc : w.cell? a = some v) (hg : a.block ≠ g) : w'.cell? a = some v :=
  (World.cell?_of_block (hb.block a.block (World.block_lt_of_cell? w a hc) (fun e => hg (by simp at e; exact e)))).trans hc
end Go.FL

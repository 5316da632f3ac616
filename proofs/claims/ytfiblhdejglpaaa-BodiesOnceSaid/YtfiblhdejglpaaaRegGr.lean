/- Regions that draw their order and make new memory alone: each operation is shown once, in no order. Conditions: none. No program in sight. -/
import Derived.Test.YtfiblhdejglpaaaRegOut
import Derived.Test.YtfiblhdejglpaaaRowV
namespace Go.FL
open Go.RowKit

def GrR (a b : World) : Prop := Below a.heap.size a b
theorem GrR.refl (a : World) : GrR a a := Below.refl _ _
theorem Is.gr (v0 : Value) : Stab GrR (Is v0) := Is.stab _ _
def RdF (l : List UInt8) : Value → World → Prop := fun v w => Rd w v l
theorem RdF.gr (l : List UInt8) : Stab GrR (RdF l) := fun _ _ _ h k => h.mono k
def OwnF (B e : Nat) (l : List UInt8) : Value → World → Prop := fun v w => Own w B e v l
theorem OwnF.gr (B e : Nat) (l : List UInt8) : Stab GrR (OwnF B e l) := fun _ _ _ h k => h.mono k
def AnyF : Value → World → Prop := fun _ _ => True
theorem AnyF.gr : Stab GrR AnyF := fun _ _ _ _ _ => trivial
theorem RdF.form {l : List UInt8} {v : Value} {w : World} (h : RdF l v w) : ∃ p c, v = .slice p l.length c := by
  obtain ⟨p, c, rfl, _⟩ := h
  exact ⟨p, c, rfl⟩
theorem OwnF.rd {B e : Nat} {l : List UInt8} {v : Value} {w : World} (h : OwnF B e l v w) : RdF l v w := Own.rd h

/-- A pair whose first part is a row of one's own. -/
def TupF (B e : Nat) (l : List UInt8) (u : Value) : Value → World → Prop := fun v w => ∃ z, v = .tuple #[z, u] ∧ Own w B e z l
theorem TupF.gr (B e : Nat) (l : List UInt8) (u : Value) : Stab GrR (TupF B e l u) := fun _ _ _ ⟨z, h1, h2⟩ k => ⟨z, h1, h2.mono k⟩
/-- The region, new memory alone. -/
theorem wp_region_gr {P : Program} {Q : Exit → Act → World → Prop} {l : List Oper} {a0 : Act} {w0 : World} {id : Nat} (L : List (Value → World → Prop)) (hm : P.follows .mixedOrders = true) (hds : dstsOk l a0.tmps.size = true) (hx : lexOk l = true)
    (hst : StabAll GrR L) (H : AllOps P (RhoAt a0 l) GrR (factAt L) (l.map (·.dst)) w0 l 0)
    (hQ : ∀ (vals : Nat → Value) (w : World), GrR w0 w → (∀ i, i < l.length → factAt L i (vals i) w) → Q .normal (fillFrom vals l 0 a0) w) : (Code.region id l.toArray true).wp P Q a0 w0 :=
  wp_region_grow hm hds hx GrR.refl (fun _ _ _ => gr_trans) (fun a => (Below.refl _ _).drew) (factAt_stab hst) H hQ

theorem opOk_loadRow {P : Program} {o : Oper} {ρ : Operand → Value} {w : World} {post : Value → World → Prop} {ty : TypeId} {x : Operand} (h : o.op = .load ty x) (g : Nat) (hx : ρ x = .pointer (some ⟨g, 0, none⟩)) (t : TypeId) (cells : List Value) (d : TypeDesc) (hg : RowV w g t cells)
    (hu : P.underlying ty = some d) (hd : (match d with | .struct _ | .array _ _ => true | _ => false) = true) (hi : (P.info? ty).map (·.size) = some cells.length) (hp : post (.agg cells.toArray) w) : opOk P o ρ w post := by
  refine opOk_val (v := .agg cells.toArray) (w' := w) ?_ hp
  have := run_loadVar_row (P := P) w g t ty cells.toArray (0, 0) d hg hu hd (by simpa using hi)
  simp only [execOp, h, hx]
  simp only [Instr.loadAt, Instr.sureAddr, Sem.run_bind, Sem.run_pure, Result.andThen_ok, this]
theorem opOk_len {P : Program} {o : Oper} {ρ : Operand → Value} {w : World} {post : Value → World → Prop} {x : Operand} {t : TypeId} (h : o.op = .call { callee := .builtin .len, args := #[x], argTypes := #[t] }) (e : TypeId) (ht : P.underlying t = some (.slice e)) (p : Option Addr) (n c : Nat) (hx : ρ x = .slice p n c) (hp : post (.int .i64 (n : Int)) w) : opOk P o ρ w post := by
  refine opOk_val (v := .int .i64 (n : Int)) (w' := w) ?_ hp
  simp [execOp, h, resolve, invoke, builtin, hx, Builtin.len_, Builtin.lenOf, run_underlying ht]
  rfl
end Go.FL

/- Pieces of bytes, sums by value, known bytes: what several chapters want of sha. Conditions: none. -/
import Derived.Test.YtjpemfciiakphaaDoorShaSum
import Derived.Test.YtjpemfciiakphaaDoorEqArr
namespace Go.FL
open Go.RowKit
theorem Own.put {w : World} {base e : Nat} {v : Value} {m : List UInt8} (h : Own w base e v m) (k : Nat) (hk : k < m.length) :
    ∃ gc cap, v = .slice (some ⟨gc, 0, none⟩) m.length cap ∧ base ≤ gc ∧ w.cell? ⟨gc, k, none⟩ = some (.int .u8 (m[k].toNat : Int)) ∧ w.frozen? ⟨gc, k, none⟩ = false ∧
      ∀ b : UInt8, Own (w.setCell ⟨gc, k, none⟩ (.int .u8 (b.toNat : Int))) base e v (m.set k b) ∧ w.grownBy (w.setCell ⟨gc, k, none⟩ (.int .u8 (b.toNat : Int))) v.ownBlock := by
  rcases h with ⟨rfl, rfl⟩ | ⟨g, sp, h1, rfl, h2, h3⟩
  · simp at hk
  · refine ⟨g, _, rfl, h1, ?_, h2.frozen k, fun b => ⟨.inr ⟨g, sp, h1, by simp, ?_, by simpa using h3⟩, gb_set (gb_refl _ _) _ _⟩⟩
    · rw [h2.cell k (by simp; omega), List.getElem_append_left hk]
    · have := h2.store k b
      rwa [List.set_append, if_pos hk] at this
theorem gb_below' {a b : World} {r : Option Nat} {B : Nat} (h : a.grownBy b r) (hg : ∀ g, r = some g → B ≤ g) (hB : B ≤ a.heap.size) : Below B a b := by
  cases r with
  | some g => exact gb_below h (hg g rfl) hB
  | none => exact (gr_of_grown h rfl).mono hB
theorem rd_newF (w : World) (e : Nat) (l : List UInt8) (n : Nat) (cs : Array Value) (fr : Nat × Nat) (hn : n = l.length) (hcs : cs = (bytesV l).toArray) (hm : n ≤ maxLen) : Rd (w.alloc (.cells cs e fr)) (.slice (some ⟨w.heap.size, 0, none⟩) n n) l := by
  subst hn hcs
  refine ⟨_, _, rfl, Nat.le_refl _, hm, by simp, fun j hj => ⟨w.heap.size, 0, rfl, ?_⟩⟩
  rw [Nat.zero_add]
  simp only [World.cell?, heap_alloc_new]
  simp [bytesV, hj]
end Go.FL
namespace Go.Proofs.YtjpemfciiakphaaDoor
open Go.RowKit Go.FL

theorem run_slice_mid {P : Program} (t e : TypeId) (ht : P.underlying t = some (.slice e)) (hz : (P.info? e).map (·.size) = some 1) (p : Option Addr) (n c i j : Nat) (hij : i ≤ j) (hj : j ≤ c) (k k' : IntKind) (I J : Int) (hI : I = (i : Int)) (hJ : J = (j : Int)) (w : World) :
    (Instr.slice t (.slice p n c) (some (.int k I)) (some (.int k' J)) none).run P w = .ok (sliced p i j c 1) w := by
  subst hI hJ
  cases hq : P.info? e with
  | none => simp [hq] at hz
  | some inf =>
    have hs : inf.size = 1 := by simpa [hq] using hz
    simp [Instr.slice, run_underlying ht, Instr.sliceBounds, run_sliceBound, sizeOf, typeInfo, hq, hs, hij, hj, sliced]

theorem eqSums (l m : List UInt8) (hl : l.length = 32) (hm : m.length = 32) (w : World) : (Op.equalIn 10000 46 (.agg (bytesV l).toArray) (.agg (bytesV m).toArray)).run Tryd.prog w = .ok (decide (l = m)) w :=
  run_equalIn_bytes Tryd.underlying46 Tryd.underlying5 (by kernel_rfl) (by kernel_rfl) (by kernel_rfl) l m hl hm w
theorem eqSame (m : List UInt8) (w : World) : (Op.equalIn 10000 46 (.agg (bytesV (shaSum m)).toArray) (.agg (bytesV (shaSum m)).toArray)).run Tryd.prog w = .ok true w := by
  rw [eqSums _ _ (shaSum_length m) (shaSum_length m), decide_eq_true (Eq.refl _)]
end Go.Proofs.YtjpemfciiakphaaDoor

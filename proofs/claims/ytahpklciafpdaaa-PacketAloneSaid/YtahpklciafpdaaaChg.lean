/- A world in which certain blocks alone may have changed. Conditions: none. No program in sight. -/
import Derived.Test.YtahpklciafpdaaaBaseC
set_option linter.unusedSimpArgs false
set_option linter.unusedVariables false
namespace Go.FL
open Go.RowKit

/-- Of the blocks of a those in S alone may have changed. -/
structure Chg (S : Nat → Prop) (a b : World) : Prop where
  os : b.os = a.os
  tape : b.tape = a.tape
  output : b.output = a.output
  size : a.heap.size ≤ b.heap.size
  block : ∀ k, k < a.heap.size → ¬ S k → b.heap[k]? = a.heap[k]?
theorem Chg.refl (S : Nat → Prop) (w : World) : Chg S w w := ⟨rfl, rfl, rfl, Nat.le_refl _, fun _ _ _ => rfl⟩
theorem Chg.trans {S : Nat → Prop} {a b c : World} (h : Chg S a b) (k : Chg S b c) : Chg S a c :=
  ⟨k.os.trans h.os, k.tape.trans h.tape, k.output.trans h.output, Nat.le_trans h.size k.size, fun i hi hs => (k.block i (Nat.lt_of_lt_of_le hi h.size) hs).trans (h.block i hi hs)⟩
/-- What follows may change new blocks too. -/
theorem Chg.then {S T : Nat → Prop} {a b c : World} (h : Chg S a b) (k : Chg T b c) (hT : ∀ i, i < a.heap.size → T i → S i) : Chg S a c :=
  ⟨k.os.trans h.os, k.tape.trans h.tape, k.output.trans h.output, Nat.le_trans h.size k.size, fun i hi hs => (k.block i (Nat.lt_of_lt_of_le hi h.size) (fun ht => hs (hT i hi ht))).trans (h.block i hi hs)⟩
theorem Chg.weak {S T : Nat → Prop} {a b : World} (h : Chg S a b) (hT : ∀ i, i < a.heap.size → S i → T i) : Chg T a b :=
  ⟨h.os, h.tape, h.output, h.size, fun i hi hs => h.block i hi (fun h' => hs (hT i hi h'))⟩
theorem Chg.of_gr {S : Nat → Prop} {a b : World} (h : Below a.heap.size a b) : Chg S a b := ⟨h.os, h.tape, h.output, h.size, fun k hk _ => h.block k hk⟩
theorem Chg.of_below {B : Nat} {a b : World} (h : Below B a b) : Chg (fun k => B ≤ k) a b := ⟨h.os, h.tape, h.output, h.size, fun k _ hs => h.block k (by omega)⟩
theorem Chg.of_grown {r : Option Nat} {a b : World} (h : a.grownBy b r) : Chg (fun k => r = some k) a b := ⟨h.os, h.tape, h.output, h.size, fun k hk hs => h.block k hk (fun e => hs e.symm)⟩
theorem Chg.below {S : Nat → Prop} {B : Nat} {a b : World} (h : Chg S a b) (hB : B ≤ a.heap.size) (hS : ∀ k, S k → B ≤ k) : Below B a b :=
  ⟨h.os, h.tape, h.output, h.size, fun k hk => h.block k (by omega) (fun hs => by have := hS k hs; omega)⟩
theorem Chg.drew {S : Nat → Prop} {a b : World} (h : Chg S a b) : Chg S a b.drew := ⟨h.os, h.tape, h.output, h.size, h.block⟩
theorem Chg.drewN {S : Nat → Prop} {a b : World} (h : Chg S a b) (n : Nat) : Chg S a (b.drewN n) := ⟨h.os, h.tape, h.output, h.size, h.block⟩
theorem Chg.alloc {S : Nat → Prop} {a b : World} (h : Chg S a b) (o : Obj) : Chg S a (b.alloc o) := h.trans (.of_gr ((Below.refl _ _).alloc (Nat.le_refl _) o))
theorem Chg.set {S : Nat → Prop} {a b : World} (h : Chg S a b) (p : Addr) (u : Value) (hp : S p.block ∨ a.heap.size ≤ p.block) : Chg S a (b.setCell p u) :=
  ⟨h.os, h.tape, h.output, Nat.le_trans h.size (by simp [World.setCell]), fun k hk hs => (Below.heap_setCell b p u k (fun e => by subst e; rcases hp with hp | hp; exact hs hp; omega)).trans (h.block k hk hs)⟩
theorem RowV.chg {S : Nat → Prop} {w w' : World} {g e : Nat} {l : List Value} (h : RowV w g e l) (hb : Chg S w w') (hg : ¬ S g) : RowV w' g e l := by
  have h0 := h.lt
  unfold RowV at *
  rw [hb.block g h0 hg, h]
theorem Row.chg {S : Nat → Prop} {w w' : World} {g e : Nat} {l : List UInt8} (h : Row w g e l) (hb : Chg S w w') (hg : ¬ S g) : Row w' g e l := by
  have h0 := h.lt
  unfold Row at *
  rw [hb.block g h0 hg, h]
theorem Own.chg {S : Nat → Prop} {w w' : World} {base e : Nat} {v : Value} {l : List UInt8} (h : Own w base e v l) (hb : Chg S w w') (hr : ∀ k, v.ownBlock = some k → ¬ S k) : Own w' base e v l := by
  rcases h with ⟨rfl, rfl⟩ | ⟨g, sp, h1, rfl, hg, hm⟩
  · exact .inl ⟨rfl, rfl⟩
  · exact .inr ⟨g, sp, h1, rfl, hg.chg hb (hr g (by simp [Value.ownBlock])), hm⟩
theorem cell_chg {S : Nat → Prop} {w w' : World} (hb : Chg S w w') {a : Addr} {v : Value} (hc : w.cell? a = some v) (hg : ¬ S a.block) : w'.cell? a = some v :=
  (World.cell?_of_block (hb.block a.block (World.block_lt_of_cell? w a hc) hg)).trans hc
theorem Rd.chg {S : Nat → Prop} {w w' : World} {v : Value} {l : List UInt8} (h : Rd w v l) (hb : Chg S w w') (hr : ∀ k, v.ownBlock = some k → ¬ S k) : Rd w' v l := by
  obtain ⟨p, c, rfl, h2, h3, h4, h5⟩ := h
  refine ⟨p, c, rfl, h2, h3, h4, fun j hj => ?_⟩
  obtain ⟨b, off, rfl, hc⟩ := h5 j hj
  exact ⟨b, off, rfl, cell_chg hb hc (hr b (by simp [Value.ownBlock]))⟩
end Go.FL

/- Rows of one-cell values in a block known whole: read, stored into, kept. Conditions: none. No program in sight. -/
import Derived.Test.YtfiblhdejglpaaaApartMath
import Derived.Laws.Rows
namespace Go.FL
open Go.RowKit

/-- Block number g is a row of these values, none of them frozen; e: the row's type. -/
def RowV (w : World) (g e : Nat) (l : List Value) : Prop := w.heap[g]? = some (.cells l.toArray e (0, 0))
theorem RowV.lt {w : World} {g e : Nat} {l : List Value} (h : RowV w g e l) : g < w.heap.size := (Array.getElem?_eq_some_iff.1 h).1
theorem RowV.cell {w : World} {g e : Nat} {l : List Value} (h : RowV w g e l) (i : Nat) : w.cell? ⟨g, i, none⟩ = l[i]? := by
  unfold RowV at h
  simp [World.cell?, h]
theorem RowV.at {w : World} {g e : Nat} {l : List Value} (h : RowV w g e l) (i : Nat) (hi : i < l.length) : w.cell? ⟨g, i, none⟩ = some l[i] := by
  rw [h.cell, List.getElem?_eq_getElem hi]
theorem RowV.frozen {w : World} {g e : Nat} {l : List Value} (h : RowV w g e l) (i : Nat) : w.frozen? ⟨g, i, none⟩ = false := by
  unfold RowV at h
  simp [World.frozen?, h]
theorem RowV.mono {w w' : World} {g e : Nat} {l : List Value} (h : RowV w g e l) (hb : Below w.heap.size w w') : RowV w' g e l := by
  have h0 := h.lt
  unfold RowV at *
  rw [hb.block g h0, h]
theorem RowV.grown {w w' : World} {g e : Nat} {l : List Value} {r : Option Nat} (h : RowV w g e l) (hb : w.grownBy w' r) (hg : r ≠ some g) : RowV w' g e l := by
  have h0 := h.lt
  unfold RowV at *
  rw [hb.block g h0 (fun e => hg e.symm), h]
theorem RowV.store {w : World} {g e : Nat} {l : List Value} (h : RowV w g e l) (i : Nat) (u : Value) : RowV (w.setCell ⟨g, i, none⟩ u) g e (l.set i u) := by
  unfold RowV at *
  simp [World.setCell, Array.getElem?_modify, h]
theorem RowV.other {w : World} {g e : Nat} {l : List Value} (h : RowV w g e l) (a : Addr) (u : Value) (hne : a.block ≠ g) : RowV (w.setCell a u) g e l := by
  unfold RowV at *
  rw [Below.heap_setCell _ _ _ _ (Ne.symm hne), h]
theorem RowV.new (w : World) (e : Nat) (l : List Value) : RowV (w.alloc (.cells l.toArray e (0, 0))) w.heap.size e l := heap_alloc_new w _
theorem RowV.alloc {w : World} {g e : Nat} {l : List Value} (h : RowV w g e l) (o : Obj) : RowV (w.alloc o) g e l := h.mono ((Below.refl _ _).alloc (Nat.le_refl _) o)
theorem RowV.drewN {w : World} {g e : Nat} {l : List Value} (h : RowV w g e l) (n : Nat) : RowV (w.drewN n) g e l := h
theorem RowV.drew {w : World} {g e : Nat} {l : List Value} (h : RowV w g e l) : RowV w.drew g e l := h
theorem RowV.of_row {w : World} {g e : Nat} {l : List UInt8} (h : Row w g e l) : RowV w g e (bytesV l) := h
theorem RowV.to_row {w : World} {g e : Nat} {l : List UInt8} (h : RowV w g e (bytesV l)) : Row w g e l := h

/-- What has grown, but for one block. -/
theorem gb_refl (w : World) (r : Option Nat) : w.grownBy w r := ⟨rfl, rfl, rfl, Nat.le_refl _, fun _ _ _ => rfl⟩
theorem gb_trans {a b c : World} {r : Option Nat} (h : a.grownBy b r) (k : b.grownBy c r) : a.grownBy c r :=
  ⟨k.os.trans h.os, k.tape.trans h.tape, k.output.trans h.output, Nat.le_trans h.size k.size, fun i hi hr => (k.block i (Nat.lt_of_lt_of_le hi h.size) hr).trans (h.block i hi hr)⟩
theorem gb_of_gr {a b : World} (h : Below a.heap.size a b) (r : Option Nat) : a.grownBy b r := ⟨h.os, h.tape, h.output, h.size, fun i hi _ => h.block i hi⟩
theorem gb_drew {a b : World} {r : Option Nat} (h : a.grownBy b r) : a.grownBy b.drew r := ⟨h.os, h.tape, h.output, h.size, h.block⟩
theorem gb_drewN {a b : World} {r : Option Nat} (h : a.grownBy b r) (n : Nat) : a.grownBy (b.drewN n) r := ⟨h.os, h.tape, h.output, h.size, h.block⟩
theorem gb_alloc {a b : World} {r : Option Nat} (h : a.grownBy b r) (o : Obj) : a.grownBy (b.alloc o) r := gb_trans h (gb_of_gr ((Below.refl _ _).alloc (Nat.le_refl _) o) r)
theorem gb_set {a b : World} {g : Nat} (h : a.grownBy b (some g)) (i : Nat) (u : Value) : a.grownBy (b.setCell ⟨g, i, none⟩ u) (some g) := by
  refine gb_trans h ⟨rfl, rfl, rfl, by simp [World.setCell], fun k _ hk => ?_⟩
  exact Below.heap_setCell _ _ _ _ (fun e => hk (by rw [e]))
/-- A store into what is new. -/
theorem gb_new {a b : World} {r : Option Nat} (h : a.grownBy b r) (p : Addr) (u : Value) (hp : a.heap.size ≤ p.block) : a.grownBy (b.setCell p u) r := by
  refine ⟨h.os, h.tape, h.output, by have := h.size; simpa [World.setCell] using this, fun k hk hr => ?_⟩
  rw [Below.heap_setCell _ _ _ _ (by omega)]
  exact h.block k hk hr
theorem gb_below {a b : World} {g B : Nat} (h : a.grownBy b (some g)) (hg : B ≤ g) (hB : B ≤ a.heap.size) : Below B a b :=
  ⟨h.os, h.tape, h.output, h.size, fun k hk => h.block k (by omega) (fun e => by simp at e; omega)⟩
/-- Bytes stay where another block is written. -/
theorem Rd.grown {w w' : World} {v : Value} {l : List UInt8} {r : Option Nat} (h : Rd w v l) (hb : w.grownBy w' r) (hr : ∀ k, v.ownBlock = some k → r ≠ some k) : Rd w' v l := by
  obtain ⟨p, c, rfl, h2, h3, h4, h5⟩ := h
  refine ⟨p, c, rfl, h2, h3, h4, fun j hj => ?_⟩
  obtain ⟨b, off, e, hc⟩ := h5 j hj
  subst e
  exact ⟨b, off, rfl, hb.cell hc (fun e => hr b rfl e.symm)⟩

/-- 'a[i]' of an array by value. -/
theorem run_index_row {P : Program} (t e : TypeId) (n : Nat) (ht : P.underlying t = some (.array n e)) (k : IntKind) (hek : P.underlying e = some (.int k)) (hz : (P.info? e).map (·.size) = some 1) (cs : List Value) (i : Nat) (u : Value) (hi : i < n) (hu : cs[i]? = some u) (w : World) :
    (Instr.index t (.agg cs.toArray) (.int .i64 (i : Int))).run P w = .ok u w := by
  have hp : (0 : Int) ≤ (i : Int) ∧ (i : Int) < (n : Int) := by omega
  cases hq : P.info? e with
  | none => simp [hq] at hz
  | some inf =>
    have hs : inf.size = 1 := by simpa [hq] using hz
    have hagg : (isAgg e).run P w = .ok false w := by
      unfold isAgg
      rw [Sem.run_bind, run_underlying hek w]
      rfl
    simp [Instr.index, run_underlying ht, asIntOf, hp, sizeOf, typeInfo, hq, hs, part, hagg, hu]
    intro h
    omega
/-- 'a[l:h]', 'a[l:]' of an array in the midst of a block. -/
theorem run_sliceAt_arr {P : Program} (t e n : Nat) (ht : P.underlying t = some (.array n e)) (hz : (P.info? e).map (·.size) = some 1) (g o l h : Nat) (h1 : l ≤ h) (h2 : h ≤ n) (h3 : l < n) (kl kh : IntKind) (L H : Int) (hL : L = (l : Int)) (hH : H = (h : Int)) (w : World) :
    (Instr.sliceAt t (.pointer (some ⟨g, o, none⟩)) (some (.int kl L)) (some (.int kh H)) none).run P w = .ok (.slice (some ⟨g, o + l, none⟩) (h - l) (n - l)) w := by
  subst hL hH
  cases hq : P.info? e with
  | none => simp [hq] at hz
  | some inf =>
    have hs : inf.size = 1 := by simpa [hq] using hz
    have hn : ¬ n = l := by omega
    simp [Instr.sliceAt, Instr.sureAddr, run_underlying ht, Instr.sliceBounds, run_sliceBound, sizeOf, typeInfo, hq, hs, h1, h2, hn, Addr.add]
theorem run_sliceAt_from {P : Program} (t e n : Nat) (ht : P.underlying t = some (.array n e)) (hz : (P.info? e).map (·.size) = some 1) (g o l : Nat) (h3 : l < n) (kl : IntKind) (L : Int) (hL : L = (l : Int)) (w : World) :
    (Instr.sliceAt t (.pointer (some ⟨g, o, none⟩)) (some (.int kl L)) none none).run P w = .ok (.slice (some ⟨g, o + l, none⟩) (n - l) (n - l)) w := by
  subst hL
  cases hq : P.info? e with
  | none => simp [hq] at hz
  | some inf =>
    have hs : inf.size = 1 := by simpa [hq] using hz
    have hn : ¬ n = l := by omega
    have hl : l ≤ n := by omega
    simp [Instr.sliceAt, Instr.sureAddr, run_underlying ht, Instr.sliceBounds, run_sliceBound, sizeOf, typeInfo, hq, hs, hl, hn, Addr.add]
end Go.FL

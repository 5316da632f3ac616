/- Joined: RowV, RegOut, RegGr, RegLast, RegChain, RegTail, RegShape, Chg. -/
import Derived.Test.YtiimlanbbfhkjaaDoorBaseE
import Derived.Laws.Rows
import Derived.WalkKit
import Derived.WalkSpells
import Derived.WalkLawsBesides
import Derived.ProofKit
set_option linter.unusedSimpArgs false
set_option linter.unusedVariables false



namespace Go.FL

open Go.RowKit

/-- Block number g is a row of these values, none of them frozen; e: the row's type. -/
def RowV (w : World) (g e : Nat) (l : List Value) : Prop := w.heap[g]? = some (.cells l.toArray e (0, 0))
theorem RowV.lt {w : World} {g e : Nat} {l : List Value} (h : RowV w g e l) : g < w.heap.size := (Array.getElem?_eq_some_iff.1 h).1
theorem RowV.cell {w : World} {g e : Nat} {l : List Value} (h : RowV w g e l) (i : Nat) : w.cell? ⟨g, i, none⟩ = l[i]? := by
  unfold RowV at h
  simp [World.cell?, h]
theorem RowV.at {w : World} {g e : Nat} {l : List Value} (h : RowV w g e l) (i : Nat) (hi : i < l.length) : w.cell? ⟨g, i, none⟩ = some l[i] := by
  rw [h.cell, List.getElem?_eq_getElem hi]
theorem RowV.frozen {w : World} {g e : Nat} {l : List Value} (h : RowV w g e l) (i : Nat) : w.frozen? ⟨g, i, none⟩ = false := by
  unfold RowV at h
  simp [World.frozen?, h]
theorem RowV.mono {w w' : World} {g e : Nat} {l : List Value} (h : RowV w g e l) (hb : Below w.heap.size w w') : RowV w' g e l := by
  have h0 := h.lt
  unfold RowV at *
  rw [hb.block g h0, h]
theorem RowV.grown {w w' : World} {g e : Nat} {l : List Value} {r : Option Nat} (h : RowV w g e l) (hb : w.grownBy w' r) (hg : r ≠ some g) : RowV w' g e l := by
  have h0 := h.lt
  unfold RowV at *
  rw [hb.block g h0 (fun e => hg e.symm), h]
theorem RowV.store {w : World} {g e : Nat} {l : List Value} (h : RowV w g e l) (i : Nat) (u : Value) : RowV (w.setCell ⟨g, i, none⟩ u) g e (l.set i u) := by
  unfold RowV at *
  simp [World.setCell, Array.getElem?_modify, h]
theorem RowV.other {w : World} {g e : Nat} {l : List Value} (h : RowV w g e l) (a : Addr) (u : Value) (hne : a.block ≠ g) : RowV (w.setCell a u) g e l := by
  unfold RowV at *
  rw [Below.heap_setCell _ _ _ _ (Ne.symm hne), h]
theorem RowV.new (w : World) (e : Nat) (l : List Value) : RowV (w.alloc (.cells l.toArray e (0, 0))) w.heap.size e l := heap_alloc_new w _
theorem RowV.alloc {w : World} {g e : Nat} {l : List Value} (h : RowV w g e l) (o : Obj) : RowV (w.alloc o) g e l := h.mono ((Below.refl _ _).alloc (Nat.le_refl _) o)
theorem RowV.drewN {w : World} {g e : Nat} {l : List Value} (h : RowV w g e l) (n : Nat) : RowV (w.drewN n) g e l := h
theorem RowV.drew {w : World} {g e : Nat} {l : List Value} (h : RowV w g e l) : RowV w.drew g e l := h
theorem RowV.of_row {w : World} {g e : Nat} {l : List UInt8} (h : Row w g e l) : RowV w g e (bytesV l) := h
theorem RowV.to_row {w : World} {g e : Nat} {l : List UInt8} (h : RowV w g e (bytesV l)) : Row w g e l := h

/-- What has grown, but for one block. -/
theorem gb_refl (w : World) (r : Option Nat) : w.grownBy w r := ⟨rfl, rfl, rfl, Nat.le_refl _, fun _ _ _ => rfl⟩
theorem gb_trans {a b c : World} {r : Option Nat} (h : a.grownBy b r) (k : b.grownBy c r) : a.grownBy c r :=
  ⟨k.os.trans h.os, k.tape.trans h.tape, k.output.trans h.output, Nat.le_trans h.size k.size, fun i hi hr => (k.block i (Nat.lt_of_lt_of_le hi h.size) hr).trans (h.block i hi hr)⟩
theorem gb_of_gr {a b : World} (h : Below a.heap.size a b) (r : Option Nat) : a.grownBy b r := ⟨h.os, h.tape, h.output, h.size, fun i hi _ => h.block i hi⟩
theorem gb_drew {a b : World} {r : Option Nat} (h : a.grownBy b r) : a.grownBy b.drew r := ⟨h.os, h.tape, h.output, h.size, h.block⟩
theorem gb_drewN {a b : World} {r : Option Nat} (h : a.grownBy b r) (n : Nat) : a.grownBy (b.drewN n) r := ⟨h.os, h.tape, h.output, h.size, h.block⟩
theorem gb_alloc {a b : World} {r : Option Nat} (h : a.grownBy b r) (o : Obj) : a.grownBy (b.alloc o) r := gb_trans h (gb_of_gr ((Below.refl _ _).alloc (Nat.le_refl _) o) r)
theorem gb_set {a b : World} {g : Nat} (h : a.grownBy b (some g)) (i : Nat) (u : Value) : a.grownBy (b.setCell ⟨g, i, none⟩ u) (some g) := by
  refine gb_trans h ⟨rfl, rfl, rfl, by simp [World.setCell], fun k _ hk => ?_⟩
  exact Below.heap_setCell _ _ _ _ (fun e => hk (by rw [e]))
/-- A store into what is new. -/
theorem gb_new {a b : World} {r : Option Nat} (h : a.grownBy b r) (p : Addr) (u : Value) (hp : a.heap.size ≤ p.block) : a.grownBy (b.setCell p u) r := by
  refine ⟨h.os, h.tape, h.output, by have := h.size; simpa [World.setCell] using this, fun k hk hr => ?_⟩
  rw [Below.heap_setCell _ _ _ _ (by omega)]
  exact h.block k hk hr
theorem gb_below {a b : World} {g B : Nat} (h : a.grownBy b (some g)) (hg : B ≤ g) (hB : B ≤ a.heap.size) : Below B a b :=
  ⟨h.os, h.tape, h.output, h.size, fun k hk => h.block k (by omega) (fun e => by simp at e; omega)⟩
/-- Bytes stay where another block is written. -/
theorem Rd.grown {w w' : World} {v : Value} {l : List UInt8} {r : Option Nat} (h : Rd w v l) (hb : w.grownBy w' r) (hr : ∀ k, v.ownBlock = some k → r ≠ some k) : Rd w' v l := by
  obtain ⟨p, c, rfl, h2, h3, h4, h5⟩ := h
  refine ⟨p, c, rfl, h2, h3, h4, fun j hj => ?_⟩
  obtain ⟨b, off, e, hc⟩ := h5 j hj
  subst e
  exact ⟨b, off, rfl, hb.cell hc (fun e => hr b rfl e.symm)⟩

/-- 'a[i]' of an array by value. -/
theorem run_index_row {P : Program} (t e : TypeId) (n : Nat) (ht : P.underlying t = some (.array n e)) (k : IntKind) (hek : P.underlying e = some (.int k)) (hz : (P.info? e).map (·.size) = some 1) (cs : List Value) (i : Nat) (u : Value) (hi : i < n) (hu : cs[i]? = some u) (w : World) :
    (Instr.index t (.agg cs.toArray) (.int .i64 (i : Int))).run P w = .ok u w := by
  have hp : (0 : Int) ≤ (i : Int) ∧ (i : Int) < (n : Int) := by omega
  cases hq : P.info? e with
  | none => simp [hq] at hz
  | some inf =>
    have hs : inf.size = 1 := by simpa [hq] using hz
    have hagg : (isAgg e).run P w = .ok false w := by
      unfold isAgg
      rw [Sem.run_bind, run_underlying hek w]
      rfl
    simp [Instr.index, run_underlying ht, asIntOf, hp, sizeOf, typeInfo, hq, hs, part, hagg, hu]
    intro h
    omega
/-- 'a[l:h]', 'a[l:]' of an array in the midst of a block. -/
theorem run_sliceAt_arr {P : Program} (t e n : Nat) (ht : P.underlying t = some (.array n e)) (hz : (P.info? e).map (·.size) = some 1) (g o l h : Nat) (h1 : l ≤ h) (h2 : h ≤ n) (h3 : l < n) (kl kh : IntKind) (L H : Int) (hL : L = (l : Int)) (hH : H = (h : Int)) (w : World) :
    (Instr.sliceAt t (.pointer (some ⟨g, o, none⟩)) (some (.int kl L)) (some (.int kh H)) none).run P w = .ok (.slice (some ⟨g, o + l, none⟩) (h - l) (n - l)) w := by
  subst hL hH
  cases hq : P.info? e with
  | none => simp [hq] at hz
  | some inf =>
    have hs : inf.size = 1 := by simpa [hq] using hz
    have hn : ¬ n = l := by omega
    simp [Instr.sliceAt, Instr.sureAddr, run_underlying ht, Instr.sliceBounds, run_sliceBound, sizeOf, typeInfo, hq, hs, h1, h2, hn, Addr.add]
theorem run_sliceAt_from {P : Program} (t e n : Nat) (ht : P.underlying t = some (.array n e)) (hz : (P.info? e).map (·.size) = some 1) (g o l : Nat) (h3 : l < n) (kl : IntKind) (L : Int) (hL : L = (l : Int)) (w : World) :
    (Instr.sliceAt t (.pointer (some ⟨g, o, none⟩)) (some (.int kl L)) none none).run P w = .ok (.slice (some ⟨g, o + l, none⟩) (n - l) (n - l)) w := by
  subst hL
  cases hq : P.info? e with
  | none => simp [hq] at hz
  | some inf =>
    have hs : inf.size = 1 := by simpa [hq] using hz
    have hn : ¬ n = l := by omega
    have hl : l ≤ n := by omega
    simp [Instr.sliceAt, Instr.sureAddr, run_underlying ht, Instr.sliceBounds, run_sliceBound, sizeOf, typeInfo, hq, hs, hl, hn, Addr.add]
end Go.FL






namespace Go.FL

/-- A frame in which each operation's temporary holds the value named for it. -/
def fillFrom (vals : Nat → Value) : List Oper → Nat → Act → Act
  | [], _, a => a
  | o :: r, k, a => fillFrom vals r (k + 1) (a.put o.dst (vals k))

/-- The temporaries that are written, each once, all within the frame. -/
def dstsOk (l : List Oper) (n : Nat) : Bool :=
  let ds := l.filterMap (·.dst)
  decide ds.Nodup && ds.all (fun d => decide (d < n))

def depsOf (o : Oper) : List Nat := o.after.toList.filterMap fun e => if Region.binds .any e then some e.on else none

/-- What an operation's operands stand for. -/
structure RhoOk (ρ : Operand → Value) : Prop where
  const : ∀ c, ρ (.const c) = c
  func : ∀ f, ρ (.func f) = .func (.func f) #[] #[]
  glob : ∀ g, ρ (.global g) = .pointer (some ⟨g, 0, none⟩)

/-- The facts on what an operation waits for. -/
def depFacts (ds : List (Option Tmp)) (S : Nat → Value → World → Prop) (ρ : Operand → Value) (w : World) : List Nat → Prop
  | [] => True
  | j :: r => (match ds.getD j none with | some d => S j (ρ (.tmp d)) w | none => True) ∧ depFacts ds S ρ w r

/-- An operation, carried out, yields a value of which this holds. -/
def opOk (P : Program) (o : Oper) (ρ : Operand → Value) (w : World) (post : Value → World → Prop) : Prop :=
  match (execOp ρ o).run P w with
  | .ok (.value v) w' => post v w'
  | .ok .skip w' => post undef w'
  | .ok (.enter f args) w' => Calls P f args w' fun e w'' => ∃ v, e = .returned v ∧ post v w''
  | _ => False

/-- An operation behind its guard. -/
def guardF (ds : List (Option Tmp)) (o : Oper) (ρ : Operand → Value) (X Y : Prop) : Prop :=
  match o.guard with
  | none => X
  | some (j, b) => match ds.getD j none with
    | some d => (ρ (.tmp d) = .bool b → X) ∧ (ρ (.tmp d) ≠ .bool b → Y)
    | none => Y

def AllOps (P : Program) (Φ : (Operand → Value) → Prop) (R : World → World → Prop) (S : Nat → Value → World → Prop) (ds : List (Option Tmp)) (w0 : World) : List Oper → Nat → Prop
  | [], _ => True
  | o :: r, k => (∀ (ρ : Operand → Value) (w : World), Φ ρ → R w0 w → depFacts ds S ρ w (depsOf o) → guardF ds o ρ (opOk P o ρ w fun v w' => S k v w' ∧ R w w') (S k undef w)) ∧ AllOps P Φ R S ds w0 r (k + 1)

theorem AllOps_get {P : Program} {Φ : (Operand → Value) → Prop} {R : World → World → Prop} {S : Nat → Value → World → Prop} {ds : List (Option Tmp)} {w0 : World} :
    ∀ (m : List Oper) (k : Nat), AllOps P Φ R S ds w0 m k → ∀ i o, m[i]? = some o → ∀ (ρ : Operand → Value) (w : World), Φ ρ → R w0 w → depFacts ds S ρ w (depsOf o) → guardF ds o ρ (opOk P o ρ w fun v w' => S (k + i) v w' ∧ R w w') (S (k + i) undef w)
  | [], _, _, i, o, h => by simp at h
  | o' :: r, k, hA, i, o, h => by
    cases i with
    | zero => simp at h; subst h; exact hA.1
    | succ i =>
      have := AllOps_get r (k + 1) hA.2 i o (by simpa using h)
      intro ρ w h0 h1 h2
      rw [show k + (i + 1) = k + 1 + i by omega]
      exact this ρ w h0 h1 h2

/-- The same; and what a temporary holds that the region does not write. -/
def RhoAt (a0 : Act) (l : List Oper) (ρ : Operand → Value) : Prop := RhoOk ρ ∧ ∀ t, (l.all fun o => o.dst != some t) = true → ρ (.tmp t) = a0.eval (.tmp t)
theorem RhoOk.act (a : Act) : RhoOk a.eval := ⟨fun _ => rfl, fun _ => rfl, fun _ => rfl⟩

theorem opOk_wp {P : Program} {o : Oper} {a : Act} {w : World} {post : Value → World → Prop} {K : Act → World → Prop} {Q : Exit → Act → World → Prop}
    (h : opOk P o a.eval w post) (hK : ∀ v w', post v w' → K (a.put o.dst v) w') : o.wp P a w K Q := by
  unfold opOk at h
  unfold Oper.wp
  generalize (execOp a.eval o).run P w = r at *
  cases r with
  | ok n w' =>
    cases n <;> simp only [Oper.upon] at h ⊢ <;> first
      | exact hK _ _ h
      | exact h.elim
      | exact Calls.mono h (fun e w'' ⟨v, he, hp⟩ => by subst he; exact hK _ _ hp)
  | halt x w' => exact h.elim

theorem put_size (a : Act) (d : Option Tmp) (v : Value) : (a.put d v).tmps.size = a.tmps.size := by
  cases d <;> simp [Act.put]
theorem put_defers (a : Act) (d : Option Tmp) (v : Value) : (a.put d v).defers = a.defers := by cases d <;> rfl

theorem fillFrom_size (vals : Nat → Value) : ∀ (l : List Oper) (k : Nat) (a : Act), (fillFrom vals l k a).tmps.size = a.tmps.size
  | [], _, _ => rfl
  | o :: r, k, a => by simp [fillFrom, fillFrom_size vals r, put_size]
theorem fillFrom_defers (vals : Nat → Value) : ∀ (l : List Oper) (k : Nat) (a : Act), (fillFrom vals l k a).defers = a.defers
  | [], _, _ => rfl
  | o :: r, k, a => by simp [fillFrom, fillFrom_defers vals r, put_defers]

theorem put_other (a : Act) (d : Option Tmp) (v : Value) (t : Nat) (h : d ≠ some t) : (a.put d v).tmps[t]? = a.tmps[t]? := by
  cases d with
  | none => rfl
  | some d =>
    have : d ≠ t := fun e => h (by rw [e])
    simp [Act.put, Array.getElem?_setIfInBounds_ne this]
theorem put_same (a : Act) (d : Nat) (v : Value) (h : d < a.tmps.size) : (a.put (some d) v).tmps[d]? = some v := by
  simp [Act.put, h]

theorem fillFrom_other (vals : Nat → Value) (t : Nat) : ∀ (l : List Oper) (k : Nat) (a : Act), (∀ o ∈ l, o.dst ≠ some t) → (fillFrom vals l k a).tmps[t]? = a.tmps[t]?
  | [], _, _, _ => rfl
  | o :: r, k, a, h => by
    rw [fillFrom, fillFrom_other vals t r (k + 1) _ (fun o' ho => h o' (List.mem_cons_of_mem _ ho)), put_other _ _ _ _ (h o List.mem_cons_self)]

theorem fillFrom_at (vals : Nat → Value) : ∀ (l : List Oper) (k : Nat) (a : Act), (l.filterMap (·.dst)).Nodup → (∀ d ∈ l.filterMap (·.dst), d < a.tmps.size) →
    ∀ (i : Nat) (o : Oper) (d : Nat), l[i]? = some o → o.dst = some d → (fillFrom vals l k a).tmps[d]? = some (vals (k + i))
  | [], _, _, _, _, i, o, d, h, _ => by simp at h
  | o' :: r, k, a, hn, hb, i, o, d, h, hd => by
    cases i with
    | zero =>
      simp at h
      subst h
      have hb' : d < a.tmps.size := hb d (by simp [hd])
      have hno : ∀ o'' ∈ r, o''.dst ≠ some d := by
        intro o'' ho'' he
        simp only [List.filterMap_cons, hd, List.nodup_cons] at hn
        exact hn.1 (List.mem_filterMap.2 ⟨o'', ho'', he⟩)
      rw [fillFrom, fillFrom_other vals d r (k + 1) _ hno, hd, put_same _ _ _ hb']
      simp
    | succ i =>
      have hn' : (r.filterMap (·.dst)).Nodup := by
        cases hd' : o'.dst with
        | none => simpa [List.filterMap_cons, hd'] using hn
        | some d' => simp only [List.filterMap_cons, hd', List.nodup_cons] at hn; exact hn.2
      have hb' : ∀ d ∈ r.filterMap (·.dst), d < (a.put o'.dst (vals k)).tmps.size := by
        intro d'' hd''
        rw [put_size]
        apply hb
        cases hd' : o'.dst with
        | none => simpa [List.filterMap_cons, hd'] using hd''
        | some d' => simp only [List.filterMap_cons, hd']; exact List.mem_cons_of_mem _ hd''
      have := fillFrom_at vals r (k + 1) (a.put o'.dst (vals k)) hn' hb' i o d (by simpa using h) hd
      rw [fillFrom, this, show k + 1 + i = k + (i + 1) by omega]

/-- The frame as it is in the midst of a region. -/
structure RInv (S : Nat → Value → World → Prop) (l : List Oper) (a0 : Act) (listed : Array Bool) (a : Act) (w : World) : Prop where
  size : a.tmps.size = a0.tmps.size
  defers : a.defers = a0.defers
  done : ∀ (i : Nat) (o : Oper), l[i]? = some o → listed.getD i false = true → match o.dst with | some d => S i (a.tmps.getD d undef) w | none => ∃ v, S i v w
  other : ∀ t, (∀ o ∈ l, o.dst ≠ some t) → a.tmps[t]? = a0.tmps[t]?
  lsize : listed.size = l.length

theorem RInv.isFill {S : Nat → Value → World → Prop} {l : List Oper} {a0 : Act} {listed : Array Bool} {a : Act} {w : World} (h : RInv S l a0 listed a w)
    (hn : (l.filterMap (·.dst)).Nodup) (hb : ∀ d ∈ l.filterMap (·.dst), d < a0.tmps.size) (vals : Nat → Value) (hv : ∀ (i : Nat) (o : Oper) (d : Nat), l[i]? = some o → o.dst = some d → vals i = a.tmps.getD d undef) :
    a = fillFrom vals l 0 a0 := by
  have ht : a.tmps = (fillFrom vals l 0 a0).tmps := by
    apply Array.ext_getElem?
    intro t
    by_cases hex : ∃ o ∈ l, o.dst = some t
    · obtain ⟨o, ho, hd⟩ := hex
      obtain ⟨i, hi, hio⟩ := List.mem_iff_getElem.1 ho
      have hi' : l[i]? = some o := by rw [List.getElem?_eq_getElem hi, hio]
      have hlt : t < a.tmps.size := by rw [h.size]; exact hb t (List.mem_filterMap.2 ⟨o, ho, hd⟩)
      rw [fillFrom_at vals l 0 a0 hn hb i o t hi' hd, Nat.zero_add, hv i o t hi' hd]
      simp [Array.getD_eq_getD_getElem?, hlt]
    · have hno : ∀ o ∈ l, o.dst ≠ some t := fun o ho hd => hex ⟨o, ho, hd⟩
      rw [fillFrom_other vals t l 0 a0 hno, h.other t hno]
  have hd : a.defers = (fillFrom vals l 0 a0).defers := by rw [fillFrom_defers, h.defers]
  cases a
  generalize fillFrom vals l 0 a0 = b at *
  cases b
  simp at ht hd
  simp [ht, hd]

theorem mem_ready' {md : Region.Mode} {ops : Array Oper} {listed : Array Bool} {i : Nat} (h : i ∈ Region.ready md ops listed) :
    listed.getD i true = false ∧ ∃ o, ops[i]? = some o ∧ ∀ e ∈ o.after, Region.binds md e = true → listed.getD e.on false = true := by
  unfold Region.ready at h
  rw [List.mem_filter] at h
  obtain ⟨h1, h2⟩ := h
  simp only [Bool.and_eq_true, Bool.not_eq_true'] at h2
  refine ⟨h2.1, ?_⟩
  cases ho : ops[i]? with
  | none => simp [ho] at h2
  | some o =>
    refine ⟨o, rfl, ?_⟩
    have h3 := h2.2
    simp only [ho, Option.map_some, Option.getD_some, Array.all_eq_true'] at h3
    intro e he hb
    have := h3 e he
    simpa [hb] using this

theorem countP_lt_of {p q : Nat → Bool} : ∀ (l : List Nat) (i : Nat), i ∈ l → p i = true → q i = false → (∀ j, q j = true → p j = true) → l.countP q < l.countP p
  | [], _, h, _, _, _ => by simp at h
  | x :: r, i, h, hp, hq, hqp => by
    have hle : r.countP q ≤ r.countP p := List.countP_mono_left (fun j _ hj => hqp j hj)
    rcases List.mem_cons.1 h with rfl | h
    · simp [hp, hq]
      omega
    · have ih := countP_lt_of r i h hp hq hqp
      simp only [List.countP_cons]
      by_cases h1 : q x = true
      · simp [h1, hqp x h1]; exact ih
      · simp [h1]; omega

/-- Each operation waits for earlier ones alone. -/
def lexOk (l : List Oper) : Bool := l.zipIdx.all fun x => x.1.after.all fun e => decide (e.on < x.2) || !(Region.binds .any e)

theorem ready_least {l : List Oper} (hx : lexOk l = true) (listed : Array Bool) (hs : listed.size = l.length) : ∀ (i : Nat), i < l.length → listed.getD i false = false → (∀ j, j < i → listed.getD j false = true) → i ∈ Region.ready .any l.toArray listed := by
  intro i hi hl hbelow
  unfold Region.ready
  rw [List.mem_filter]
  refine ⟨by simpa using hi, ?_⟩
  have h1 : listed.getD i true = false := by
    have : i < listed.size := by omega
    simp [Array.getD_eq_getD_getElem?, this] at hl ⊢
    exact hl
  have h2 : l[i]? = some l[i] := List.getElem?_eq_getElem hi
  simp only [h1, Bool.not_false, Bool.true_and, List.getElem?_toArray, h2, Option.map_some, Option.getD_some]
  rw [Array.all_eq_true']
  intro e he
  unfold lexOk at hx
  rw [List.all_eq_true] at hx
  have h3 := hx (l[i], i) (List.mem_zipIdx_iff_getElem?.2 h2)
  rw [Array.all_eq_true'] at h3
  have h4 := h3 e he
  rw [Bool.or_eq_true] at h4
  rcases h4 with h4 | h4
  · simp at h4
    simp [hbelow e.on h4]
  · simp only [Bool.not_eq_true'] at h4
    simp [h4]

theorem all_of_ready_nil {l : List Oper} (hx : lexOk l = true) (listed : Array Bool) (hs : listed.size = l.length) (h : Region.ready .any l.toArray listed = []) : ∀ i, i < l.length → listed.getD i false = true := by
  intro i
  induction i using Nat.strongRecOn with
  | _ i ih =>
    intro hi
    cases hl : listed.getD i false
    · have := ready_least hx listed hs i hi hl (fun j hj => ih j hj (by omega))
      rw [h] at this
      cases this
    · rfl

section

variable {P : Program} {R : World → World → Prop} {S : Nat → Value → World → Prop} {l : List Oper} {Q : Exit → Act → World → Prop} {a0 : Act} {w0 : World}

theorem wpAny_grow (Rrefl : ∀ a, R a a) (Rtrans : ∀ a b c, R a b → R b c → R a c) (Sstab : ∀ i v w w', S i v w → R w w' → S i v w')
    (hn : (l.filterMap (·.dst)).Nodup) (hb : ∀ d ∈ l.filterMap (·.dst), d < a0.tmps.size)
    {Φ : (Operand → Value) → Prop} (hΦ : ∀ listed a w, RInv S l a0 listed a w → Φ a.eval)
    (H : AllOps P Φ R S (l.map (·.dst)) w0 l 0)
    (hQ : ∀ (vals : Nat → Value) (w : World), R w0 w → (∀ i, i < l.length → S i (vals i) w) → Q .normal (fillFrom vals l 0 a0) w)
    (hx : lexOk l = true) :
    ∀ (fuel : Nat) (listed : Array Bool) (a : Act) (w : World), R w0 w → RInv S l a0 listed a w →
      ((List.range l.length).filter fun i => !listed.getD i false).length ≤ fuel → wpAny P .any l.toArray Q fuel listed a w := by
  have fin : ∀ (listed : Array Bool) (a : Act) (w : World), R w0 w → RInv S l a0 listed a w → (∀ i, i < l.length → listed.getD i false = true) → Q .normal a w := by
    intro listed a w hR hI hall
    have hch : ∀ i, ∃ v, (∀ (o : Oper) (d : Nat), l[i]? = some o → o.dst = some d → v = a.tmps.getD d undef) ∧ (i < l.length → S i v w) := by
      intro i
      cases hi : l[i]? with
      | none =>
        have : ¬ i < l.length := by simpa using hi
        exact ⟨undef, fun o d h => by simp at h, fun h => absurd h this⟩
      | some o =>
        have hlt : i < l.length := by
          rcases Nat.lt_or_ge i l.length with h | h
          · exact h
          · simp [List.getElem?_eq_none h] at hi
        have hd := hI.done i o hi (hall i hlt)
        cases hdst : o.dst with
        | none =>
          rw [hdst] at hd
          obtain ⟨v, hv⟩ := hd
          exact ⟨v, (fun o' d h h' => by simp at h; subst h; rw [hdst] at h'; cases h'), fun _ => hv⟩
        | some d =>
          rw [hdst] at hd
          exact ⟨_, (fun o' d' h h' => by simp at h; subst h; rw [hdst] at h'; cases h'; rfl), fun _ => hd⟩
    have hvals : ∃ vals : Nat → Value, ∀ i, (∀ (o : Oper) (d : Nat), l[i]? = some o → o.dst = some d → vals i = a.tmps.getD d undef) ∧ (i < l.length → S i (vals i) w) :=
      ⟨fun i => (hch i).choose, fun i => (hch i).choose_spec⟩
    obtain ⟨vals, hv⟩ := hvals
    rw [hI.isFill hn hb vals (fun i o d h h' => (hv i).1 o d h h')]
    exact hQ vals w hR (fun i hi => (hv i).2 hi)
  intro fuel
  induction fuel with
  | zero =>
    intro listed a w hR hI hc
    have hall : ∀ i, i < l.length → listed.getD i false = true := by
      intro i hi
      have h0 : ((List.range l.length).filter fun i => !listed.getD i false) = [] := List.eq_nil_of_length_eq_zero (by omega)
      rw [List.filter_eq_nil_iff] at h0
      have := h0 i (List.mem_range.2 hi)
      simpa using this
    refine ⟨?_, fin listed a w hR hI hall⟩
    unfold Region.ready
    rw [List.filter_eq_nil_iff]
    intro i hi
    have hi' : i < l.length := by simpa using hi
    have h1 := hall i hi'
    have h2 : listed.getD i true = true := by
      have hs : i < listed.size := by rw [hI.lsize]; exact hi'
      simp [Array.getD_eq_getD_getElem?, hs] at h1 ⊢
      exact h1
    simp [h2]
  | succ fuel ih =>
    intro listed a w hR hI hc
    refine ⟨fun h => fin listed a w hR hI (all_of_ready_nil hx listed hI.lsize h), fun i hi => ?_⟩
    obtain ⟨hun, o, ho, haft⟩ := mem_ready' hi
    have hil : l[i]? = some o := by simpa using ho
    have hlt : i < l.length := by
      rcases Nat.lt_or_ge i l.length with h | h
      · exact h
      · simp [List.getElem?_eq_none h] at hil
    have hunf : listed.getD i false = false := by
      have hs : i < listed.size := by rw [hI.lsize]; exact hlt
      simp [Array.getD_eq_getD_getElem?, hs] at hun ⊢
      exact hun
    have hdst : ∀ j, (l.map (·.dst)).getD j none = (l[j]?).bind (·.dst) := by
      intro j
      simp [List.getD_eq_getElem?_getD, List.getElem?_map]
      cases l[j]? <;> rfl
    have hdeps : depFacts (l.map (·.dst)) S a.eval w (depsOf o) := by
      have hone : ∀ j ∈ depsOf o, j < l.length ∧ listed.getD j false = true := by
        intro j hj
        unfold depsOf at hj
        obtain ⟨e, he, hej⟩ := List.mem_filterMap.1 hj
        by_cases hbd : Region.binds .any e = true
        · simp [hbd] at hej
          subst hej
          have hl := haft e (by simpa using he) hbd
          have hjl : e.on < l.length := by
            rw [← hI.lsize]
            rcases Nat.lt_or_ge e.on listed.size with h | h
            · exact h
            · simp [Array.getD_eq_getD_getElem?, Array.getElem?_eq_none h] at hl
          exact ⟨hjl, hl⟩
        · simp [hbd] at hej
      generalize depsOf o = dl at hone
      induction dl with
      | nil => trivial
      | cons j r ihr =>
        refine ⟨?_, ihr (fun j' hj' => hone j' (List.mem_cons_of_mem _ hj'))⟩
        obtain ⟨hjl, hlj⟩ := hone j List.mem_cons_self
        rw [hdst, List.getElem?_eq_getElem hjl]
        have hd := hI.done j l[j] (List.getElem?_eq_getElem hjl) hlj
        cases hdj : l[j].dst with
        | none => simp [hdj]
        | some d =>
          rw [hdj] at hd
          simp only [Option.bind_some, hdj]
          exact hd
    have hst := AllOps_get l 0 H i o hil a.eval w (hΦ listed a w hI) hR hdeps
    rw [Nat.zero_add] at hst
    have next : ∀ (v : Value) (w' : World), S i v w' → R w w' → wpAny P .any l.toArray Q fuel (listed.setIfInBounds i true) (a.put o.dst v) w' := by
      intro v w' hS hRw
      refine ih (listed.setIfInBounds i true) (a.put o.dst v) w' (Rtrans _ _ _ hR hRw) ?_ ?_
      · refine ⟨by rw [put_size, hI.size], by rw [put_defers, hI.defers], ?_, ?_, by simp [hI.lsize]⟩
        · intro j oj hj hlj
          by_cases hji : j = i
          · subst hji
            rw [hil] at hj
            cases hj
            cases hdst : o.dst with
            | none => exact ⟨v, hS⟩
            | some d =>
              have hlt' : d < a.tmps.size := by rw [hI.size]; exact hb d (List.mem_filterMap.2 ⟨o, List.mem_of_getElem? hil, hdst⟩)
              simp only [Array.getD_eq_getD_getElem?, put_same a d v hlt', Option.getD_some]
              exact hS
          · have hlj' : listed.getD j false = true := by
              simpa [Array.getD_eq_getD_getElem?, Array.getElem?_setIfInBounds_ne (Ne.symm hji)] using hlj
            have hd := hI.done j oj hj hlj'
            cases hdst : oj.dst with
            | none =>
              rw [hdst] at hd
              obtain ⟨u, hu⟩ := hd
              exact ⟨u, Sstab _ _ _ _ hu hRw⟩
            | some d =>
              rw [hdst] at hd
              have hne : o.dst ≠ some d := by
                intro he
                have h1 := fillFrom_at (fun n => if n = i then .bool true else .bool false) l 0 a0 hn hb i o d hil he
                have h2 := fillFrom_at (fun n => if n = i then .bool true else .bool false) l 0 a0 hn hb j oj d hj hdst
                rw [h1] at h2
                simp [hji] at h2
              simp only [Array.getD_eq_getD_getElem?, put_other a o.dst v d hne]
              simp only [Array.getD_eq_getD_getElem?] at hd
              exact Sstab _ _ _ _ hd hRw
        · intro t ht
          rw [put_other a o.dst v t (ht o (List.mem_of_getElem? hil)), hI.other t ht]
      · have hlt2 : ((List.range l.length).filter fun j => !(listed.setIfInBounds i true).getD j false).length < ((List.range l.length).filter fun j => !listed.getD j false).length := by
          rw [← List.countP_eq_length_filter, ← List.countP_eq_length_filter]
          refine countP_lt_of (List.range l.length) i (List.mem_range.2 hlt) (by simp [hunf]) ?_ ?_
          · have hs : i < listed.size := by rw [hI.lsize]; exact hlt
            simp [Array.getD_eq_getD_getElem?, hs]
          · intro j hj
            by_cases hji : i = j
            · subst hji; simp [hunf]
            · simpa [Array.getD_eq_getD_getElem?, Array.getElem?_setIfInBounds_ne hji] using hj
        omega
    have hy : ∀ (j : Nat) (b : Bool), (yielded l.toArray a.tmps j == some b) = true ↔ ∃ d, (l.map (·.dst)).getD j none = some d ∧ a.eval (.tmp d) = .bool b := by
      intro j b
      rw [hdst]
      unfold yielded
      rw [List.getElem?_toArray]
      cases hd : (l[j]?).bind (·.dst) with
      | none => simp
      | some d =>
        have hlt' : d < a.tmps.size := by
          rw [hI.size]
          cases hlj : l[j]? with
          | none => simp [hlj] at hd
          | some oj =>
            simp [hlj] at hd
            exact hb d (List.mem_filterMap.2 ⟨oj, List.mem_of_getElem? hlj, hd⟩)
        have he : a.eval (.tmp d) = a.tmps[d] := by simp [Act.eval, Array.getD_eq_getD_getElem?, hlt']
        simp only [Option.bind_some, Array.getElem?_eq_getElem hlt', Option.some.injEq, exists_eq_left', he]
        cases a.tmps[d] <;> simp
    unfold wpOp
    rw [ho]
    unfold guardF at hst
    show if Region.wanted o (yielded l.toArray a.tmps) = true then _ else _
    unfold Region.wanted
    cases hg : o.guard with
    | none =>
      rw [hg] at hst
      simp only [if_true]
      exact .inl (opOk_wp hst (fun v w' h => next v w' h.1 h.2))
    | some jb =>
      obtain ⟨j, b⟩ := jb
      rw [hg] at hst
      simp only at hst ⊢
      by_cases hw : (yielded l.toArray a.tmps j == some b) = true
      · rw [if_pos hw]
        obtain ⟨d, hd, he⟩ := (hy j b).1 hw
        rw [hd] at hst
        exact .inl (opOk_wp (hst.1 he) (fun v w' h => next v w' h.1 h.2))
      · rw [if_neg hw]
        refine next undef w ?_ (Rrefl w)
        cases hd : (l.map (·.dst)).getD j none with
        | none => rw [hd] at hst; exact hst
        | some d =>
          rw [hd] at hst
          exact hst.2 (fun he => hw ((hy j b).2 ⟨d, hd, he⟩))

/-- **The region's law.** -/
theorem wp_region_grow {id : Nat} (hm : P.follows .mixedOrders = true) (hds : dstsOk l a0.tmps.size = true) (hx : lexOk l = true)
    (Rrefl : ∀ a, R a a) (Rtrans : ∀ a b c, R a b → R b c → R a c) (Rdraw : ∀ a, R a a.drew) (Sstab : ∀ i v w w', S i v w → R w w' → S i v w')
    (H : AllOps P (RhoAt a0 l) R S (l.map (·.dst)) w0 l 0)
    (hQ : ∀ (vals : Nat → Value) (w : World), R w0 w → (∀ i, i < l.length → S i (vals i) w) → Q .normal (fillFrom vals l 0 a0) w) :
    (Code.region id l.toArray true).wp P Q a0 w0 := by
  simp only [dstsOk, Bool.and_eq_true, decide_eq_true_eq, List.all_eq_true] at hds
  refine wp_region_any hm ?_
  have hΦ : ∀ listed a w, RInv S l a0 listed a w → RhoAt a0 l a.eval := fun listed a w hI => ⟨RhoOk.act a, fun t ht => by
    have h1 := hI.other t (fun o ho he => by
      have := List.all_eq_true.1 ht o ho
      rw [he] at this
      simp at this)
    simp [Act.eval, Array.getD_eq_getD_getElem?, h1]⟩
  refine wpAny_grow Rrefl Rtrans Sstab hds.1 hds.2 hΦ H hQ hx _ _ _ _ (Rdraw w0) ?_ ?_
  · refine ⟨rfl, rfl, ?_, fun _ _ => rfl, by simp⟩
    intro i o _ h
    simp [Array.getD_eq_getD_getElem?, Array.getElem?_replicate] at h
    split at h <;> simp at h
  · have := List.length_filter_le (fun i => !(Array.replicate l.toArray.size false).getD i false) (List.range l.length)
    simpa using this
end

theorem opOk_val {P : Program} {o : Oper} {ρ : Operand → Value} {w w' : World} {post : Value → World → Prop} {v : Value} (h : (execOp ρ o).run P w = .ok (.value v) w') (hp : post v w') : opOk P o ρ w post := by
  unfold opOk
  rw [h]
  exact hp

theorem opOk_move {P : Program} {o : Oper} {ρ : Operand → Value} {w : World} {post : Value → World → Prop} {x : Operand} (h : o.op = .move x ∨ o.op = .assign x) (hp : post (ρ x) w) : opOk P o ρ w post := by
  refine opOk_val (v := ρ x) (w' := w) ?_ hp
  unfold execOp
  rcases h with h | h <;> rw [h] <;> rfl

theorem opOk_pick {P : Program} {o : Oper} {ρ : Operand → Value} {w : World} {post : Value → World → Prop} {c a b : Operand} {t : Bool} (h : o.op = .pick c a b) (hc : ρ c = .bool t) (hp : post (if t then ρ a else ρ b) w) : opOk P o ρ w post := by
  refine opOk_val (v := if t then ρ a else ρ b) (w' := w) ?_ hp
  unfold execOp
  rw [h]
  simp [hc, asBool]

theorem opOk_call {P : Program} {o : Oper} {ρ : Operand → Value} {w : World} {post : Value → World → Prop} {f : FuncId} {c : Go.Call} (hρ : RhoOk ρ) (h : o.op = .call c) (hc : c.callee = .value (.func f)) {fn : Func} {body : Code} (hf : P.funcs[f]? = some fn) (hname : (fn.name == "runtime.NumGoroutine") = false) (hb : fn.body = some body) {args : Array Value} (ha : c.args.map ρ = args)
    (hp : Calls P f args w fun e w' => ∃ v, e = .returned v ∧ post v w') : opOk P o ρ w post := by
  have hr : (execOp ρ o).run P w = .ok (.enter f (c.args.map ρ)) w := by
    unfold execOp
    rw [h]
    have h1 : fn.name ≠ "runtime.NumGoroutine" := by simpa using hname
    simp [resolve, invoke, hc, hρ.func, Deferred.ofValue, callFunc, hf, h1, hb]
  unfold opOk
  rw [hr, ha]
  exact hp

/-- The facts as a list: fact number i is asked of operation number i. -/
def factAt (L : List (Value → World → Prop)) (i : Nat) (v : Value) (w : World) : Prop := L.getD i (fun _ _ => True) v w

/-- A fact that stands while the world goes on. -/
def Stab (R : World → World → Prop) (F : Value → World → Prop) : Prop := ∀ v w w', F v w → R w w' → F v w'

def StabAll (R : World → World → Prop) : List (Value → World → Prop) → Prop
  | [] => True
  | F :: r => Stab R F ∧ StabAll R r

theorem factAt_stab {R : World → World → Prop} : ∀ {L : List (Value → World → Prop)}, StabAll R L → ∀ i v w w', factAt L i v w → R w w' → factAt L i v w'
  | [], _, i, v, w, w', _, _ => by simp [factAt]
  | F :: r, h, 0, v, w, w', hf, hR => h.1 v w w' hf hR
  | F :: r, h, i + 1, v, w, w', hf, hR => factAt_stab (L := r) h.2 i v w w' hf hR

/-- The value is this one. -/
def Is (v0 : Value) : Value → World → Prop := fun v _ => v = v0
theorem Is.stab (R : World → World → Prop) (v0 : Value) : Stab R (Is v0) := fun _ _ _ h _ => h

end Go.FL




namespace Go.FL

open Go.RowKit

def GrR (a b : World) : Prop := Below a.heap.size a b
theorem GrR.refl (a : World) : GrR a a := Below.refl _ _
theorem Is.gr (v0 : Value) : Stab GrR (Is v0) := Is.stab _ _
def RdF (l : List UInt8) : Value → World → Prop := fun v w => Rd w v l
theorem RdF.gr (l : List UInt8) : Stab GrR (RdF l) := fun _ _ _ h k => h.mono k
def OwnF (B e : Nat) (l : List UInt8) : Value → World → Prop := fun v w => Own w B e v l
theorem OwnF.gr (B e : Nat) (l : List UInt8) : Stab GrR (OwnF B e l) := fun _ _ _ h k => h.mono k
def AnyF : Value → World → Prop := fun _ _ => True
theorem AnyF.gr : Stab GrR AnyF := fun _ _ _ _ _ => trivial
theorem RdF.form {l : List UInt8} {v : Value} {w : World} (h : RdF l v w) : ∃ p c, v = .slice p l.length c := by
  obtain ⟨p, c, rfl, _⟩ := h
  exact ⟨p, c, rfl⟩
theorem OwnF.rd {B e : Nat} {l : List UInt8} {v : Value} {w : World} (h : OwnF B e l v w) : RdF l v w := Own.rd h

/-- A pair whose first part is a row of one's own. -/
def TupF (B e : Nat) (l : List UInt8) (u : Value) : Value → World → Prop := fun v w => ∃ z, v = .tuple #[z, u] ∧ Own w B e z l
theorem TupF.gr (B e : Nat) (l : List UInt8) (u : Value) : Stab GrR (TupF B e l u) := fun _ _ _ ⟨z, h1, h2⟩ k => ⟨z, h1, h2.mono k⟩
/-- The region, new memory alone. -/
theorem wp_region_gr {P : Program} {Q : Exit → Act → World → Prop} {l : List Oper} {a0 : Act} {w0 : World} {id : Nat} (L : List (Value → World → Prop)) (hm : P.follows .mixedOrders = true) (hds : dstsOk l a0.tmps.size = true) (hx : lexOk l = true)
    (hst : StabAll GrR L) (H : AllOps P (RhoAt a0 l) GrR (factAt L) (l.map (·.dst)) w0 l 0)
    (hQ : ∀ (vals : Nat → Value) (w : World), GrR w0 w → (∀ i, i < l.length → factAt L i (vals i) w) → Q .normal (fillFrom vals l 0 a0) w) : (Code.region id l.toArray true).wp P Q a0 w0 :=
  wp_region_grow hm hds hx GrR.refl (fun _ _ _ => gr_trans) (fun a => (Below.refl _ _).drew) (factAt_stab hst) H hQ

theorem opOk_loadRow {P : Program} {o : Oper} {ρ : Operand → Value} {w : World} {post : Value → World → Prop} {ty : TypeId} {x : Operand} (h : o.op = .load ty x) (g : Nat) (hx : ρ x = .pointer (some ⟨g, 0, none⟩)) (t : TypeId) (cells : List Value) (d : TypeDesc) (hg : RowV w g t cells)
    (hu : P.underlying ty = some d) (hd : (match d with | .struct _ | .array _ _ => true | _ => false) = true) (hi : (P.info? ty).map (·.size) = some cells.length) (hp : post (.agg cells.toArray) w) : opOk P o ρ w post := by
  refine opOk_val (v := .agg cells.toArray) (w' := w) ?_ hp
  have := run_loadVar_row (P := P) w g t ty cells.toArray (0, 0) d hg hu hd (by simpa using hi)
  simp only [execOp, h, hx]
  simp only [Instr.loadAt, Instr.sureAddr, Sem.run_bind, Sem.run_pure, Result.andThen_ok, this]
theorem opOk_len {P : Program} {o : Oper} {ρ : Operand → Value} {w : World} {post : Value → World → Prop} {x : Operand} {t : TypeId} (h : o.op = .call { callee := .builtin .len, args := #[x], argTypes := #[t] }) (e : TypeId) (ht : P.underlying t = some (.slice e)) (p : Option Addr) (n c : Nat) (hx : ρ x = .slice p n c) (hp : post (.int .i64 (n : Int)) w) : opOk P o ρ w post := by
  refine opOk_val (v := .int .i64 (n : Int)) (w' := w) ?_ hp
  simp [execOp, h, resolve, invoke, builtin, hx, Builtin.len_, Builtin.lenOf, run_underlying ht]
  rfl
end Go.FL



namespace Go.FL

open Go.RowKit

def lastOk (l : List Oper) : Bool := match l[l.length - 1]? with
  | none => true
  | some o => (List.range (l.length - 1)).all fun j => o.after.any fun e => e.on == j && Region.binds .any e
theorem lastOk_of {l : List Oper} (h : lastOk l = true) : ∀ o, l[l.length - 1]? = some o → ∀ j, j < l.length - 1 → ∃ e ∈ o.after, e.on = j ∧ Region.binds .any e = true := by
  intro o ho j hj
  simp only [lastOk, ho, List.all_eq_true] at h
  have := h j (List.mem_range.2 hj)
  rw [Array.any_eq_true'] at this
  obtain ⟨e, he, h1⟩ := this
  simp only [Bool.and_eq_true, beq_iff_eq] at h1
  exact ⟨e, he, h1⟩
section

variable {P : Program} {R : World → World → Prop} {S : Nat → Value → World → Prop} {l : List Oper} {Q : Exit → Act → World → Prop} {a0 : Act} {w0 : World}

theorem wpAny_growL (Rrefl : ∀ a, R a a) (Rtrans : ∀ a b c, R a b → R b c → R a c) (Sstab : ∀ i v w w', S i v w → R w w' → S i v w')
    (hn : (l.filterMap (·.dst)).Nodup) (hb : ∀ d ∈ l.filterMap (·.dst), d < a0.tmps.size)
    {Φ : (Operand → Value) → Prop} (hΦ : ∀ listed a w, RInv S l a0 listed a w → (∀ t, (∀ o ∈ l.dropLast, o.dst ≠ some t) → a.tmps[t]? = a0.tmps[t]?) → Φ a.eval)
    (hlast : ∀ o, l[l.length - 1]? = some o → ∀ j, j < l.length - 1 → ∃ e ∈ o.after, e.on = j ∧ Region.binds .any e = true)
    (H : AllOps P Φ R S (l.map (·.dst)) w0 l 0)
    (hQ : ∀ (vals : Nat → Value) (w : World), R w0 w → (∀ i, i < l.length → S i (vals i) w) → Q .normal (fillFrom vals l 0 a0) w)
    (hx : lexOk l = true) :
    ∀ (fuel : Nat) (listed : Array Bool) (a : Act) (w : World), R w0 w → RInv S l a0 listed a w → (listed.getD (l.length - 1) false = true → ∀ j, j < l.length → listed.getD j false = true) → (listed.getD (l.length - 1) false = false → ∀ t, (∀ o ∈ l.dropLast, o.dst ≠ some t) → a.tmps[t]? = a0.tmps[t]?) →
      ((List.range l.length).filter fun i => !listed.getD i false).length ≤ fuel → wpAny P .any l.toArray Q fuel listed a w := by
  have fin : ∀ (listed : Array Bool) (a : Act) (w : World), R w0 w → RInv S l a0 listed a w → (∀ i, i < l.length → listed.getD i false = true) → Q .normal a w := by
    intro listed a w hR hI hall
    have hch : ∀ i, ∃ v, (∀ (o : Oper) (d : Nat), l[i]? = some o → o.dst = some d → v = a.tmps.getD d undef) ∧ (i < l.length → S i v w) := by
      intro i
      cases hi : l[i]? with
      | none =>
        have : ¬ i < l.length := by simpa using hi
        exact ⟨undef, fun o d h => by simp at h, fun h => absurd h this⟩
      | some o =>
        have hlt : i < l.length := by
          rcases Nat.lt_or_ge i l.length with h | h
          · exact h
          · simp [List.getElem?_eq_none h] at hi
        have hd := hI.done i o hi (hall i hlt)
        cases hdst : o.dst with
        | none =>
          rw [hdst] at hd
          obtain ⟨v, hv⟩ := hd
          exact ⟨v, (fun o' d h h' => by simp at h; subst h; rw [hdst] at h'; cases h'), fun _ => hv⟩
        | some d =>
          rw [hdst] at hd
          exact ⟨_, (fun o' d' h h' => by simp at h; subst h; rw [hdst] at h'; cases h'; rfl), fun _ => hd⟩
    have hvals : ∃ vals : Nat → Value, ∀ i, (∀ (o : Oper) (d : Nat), l[i]? = some o → o.dst = some d → vals i = a.tmps.getD d undef) ∧ (i < l.length → S i (vals i) w) :=
      ⟨fun i => (hch i).choose, fun i => (hch i).choose_spec⟩
    obtain ⟨vals, hv⟩ := hvals
    rw [hI.isFill hn hb vals (fun i o d h h' => (hv i).1 o d h h')]
    exact hQ vals w hR (fun i hi => (hv i).2 hi)
  intro fuel
  induction fuel with
  | zero =>
    intro listed a w hR hI hLa hLb hc
    have hall : ∀ i, i < l.length → listed.getD i false = true := by
      intro i hi
      have h0 : ((List.range l.length).filter fun i => !listed.getD i false) = [] := List.eq_nil_of_length_eq_zero (by omega)
      rw [List.filter_eq_nil_iff] at h0
      have := h0 i (List.mem_range.2 hi)
      simpa using this
    refine ⟨?_, fin listed a w hR hI hall⟩
    unfold Region.ready
    rw [List.filter_eq_nil_iff]
    intro i hi
    have hi' : i < l.length := by simpa using hi
    have h1 := hall i hi'
    have h2 : listed.getD i true = true := by
      have hs : i < listed.size := by rw [hI.lsize]; exact hi'
      simp [Array.getD_eq_getD_getElem?, hs] at h1 ⊢
      exact h1
    simp [h2]
  | succ fuel ih =>
    intro listed a w hR hI hLa hLb hc
    refine ⟨fun h => fin listed a w hR hI (all_of_ready_nil hx listed hI.lsize h), fun i hi => ?_⟩
    obtain ⟨hun, o, ho, haft⟩ := mem_ready' hi
    have hil : l[i]? = some o := by simpa using ho
    have hlt : i < l.length := by
      rcases Nat.lt_or_ge i l.length with h | h
      · exact h
      · simp [List.getElem?_eq_none h] at hil
    have hunf : listed.getD i false = false := by
      have hs : i < listed.size := by rw [hI.lsize]; exact hlt
      simp [Array.getD_eq_getD_getElem?, hs] at hun ⊢
      exact hun
    have hdst : ∀ j, (l.map (·.dst)).getD j none = (l[j]?).bind (·.dst) := by
      intro j
      simp [List.getD_eq_getElem?_getD, List.getElem?_map]
      cases l[j]? <;> rfl
    have hdeps : depFacts (l.map (·.dst)) S a.eval w (depsOf o) := by
      have hone : ∀ j ∈ depsOf o, j < l.length ∧ listed.getD j false = true := by
        intro j hj
        unfold depsOf at hj
        obtain ⟨e, he, hej⟩ := List.mem_filterMap.1 hj
        by_cases hbd : Region.binds .any e = true
        · simp [hbd] at hej
          subst hej
          have hl := haft e (by simpa using he) hbd
          have hjl : e.on < l.length := by
            rw [← hI.lsize]
            rcases Nat.lt_or_ge e.on listed.size with h | h
            · exact h
            · simp [Array.getD_eq_getD_getElem?, Array.getElem?_eq_none h] at hl
          exact ⟨hjl, hl⟩
        · simp [hbd] at hej
      generalize depsOf o = dl at hone
      induction dl with
      | nil => trivial
      | cons j r ihr =>
        refine ⟨?_, ihr (fun j' hj' => hone j' (List.mem_cons_of_mem _ hj'))⟩
        obtain ⟨hjl, hlj⟩ := hone j List.mem_cons_self
        rw [hdst, List.getElem?_eq_getElem hjl]
        have hd := hI.done j l[j] (List.getElem?_eq_getElem hjl) hlj
        cases hdj : l[j].dst with
        | none => simp [hdj]
        | some d =>
          rw [hdj] at hd
          simp only [Option.bind_some, hdj]
          exact hd
    have hst := AllOps_get l 0 H i o hil a.eval w (hΦ listed a w hI (hLb (by
      cases hq : listed.getD (l.length - 1) false
      · rfl
      · have := hLa hq i hlt
        rw [hunf] at this
        cases this))) hR hdeps
    rw [Nat.zero_add] at hst
    have next : ∀ (v : Value) (w' : World), S i v w' → R w w' → wpAny P .any l.toArray Q fuel (listed.setIfInBounds i true) (a.put o.dst v) w' := by
      intro v w' hS hRw
      refine ih (listed.setIfInBounds i true) (a.put o.dst v) w' (Rtrans _ _ _ hR hRw) ?_ ?_ ?_ ?_
      · refine ⟨by rw [put_size, hI.size], by rw [put_defers, hI.defers], ?_, ?_, by simp [hI.lsize]⟩
        · intro j oj hj hlj
          by_cases hji : j = i
          · subst hji
            rw [hil] at hj
            cases hj
            cases hdst : o.dst with
            | none => exact ⟨v, hS⟩
            | some d =>
              have hlt' : d < a.tmps.size := by rw [hI.size]; exact hb d (List.mem_filterMap.2 ⟨o, List.mem_of_getElem? hil, hdst⟩)
              simp only [Array.getD_eq_getD_getElem?, put_same a d v hlt', Option.getD_some]
              exact hS
          · have hlj' : listed.getD j false = true := by
              simpa [Array.getD_eq_getD_getElem?, Array.getElem?_setIfInBounds_ne (Ne.symm hji)] using hlj
            have hd := hI.done j oj hj hlj'
            cases hdst : oj.dst with
            | none =>
              rw [hdst] at hd
              obtain ⟨u, hu⟩ := hd
              exact ⟨u, Sstab _ _ _ _ hu hRw⟩
            | some d =>
              rw [hdst] at hd
              have hne : o.dst ≠ some d := by
                intro he
                have h1 := fillFrom_at (fun n => if n = i then .bool true else .bool false) l 0 a0 hn hb i o d hil he
                have h2 := fillFrom_at (fun n => if n = i then .bool true else .bool false) l 0 a0 hn hb j oj d hj hdst
                rw [h1] at h2
                simp [hji] at h2
              simp only [Array.getD_eq_getD_getElem?, put_other a o.dst v d hne]
              simp only [Array.getD_eq_getD_getElem?] at hd
              exact Sstab _ _ _ _ hd hRw
        · intro t ht
          rw [put_other a o.dst v t (ht o (List.mem_of_getElem? hil)), hI.other t ht]
      · intro hq j hj
        have hs : i < listed.size := by rw [hI.lsize]; exact hlt
        by_cases hji : j = i
        · subst hji
          simp [Array.getD_eq_getD_getElem?, hs]
        · have hjl : listed.getD j false = true := by
            by_cases hil2 : i = l.length - 1
            · obtain ⟨e, he, hej, hbd⟩ := hlast o (by rw [← hil2]; exact hil) j (by omega)
              have hl := haft e (by simpa using he) hbd
              rw [hej] at hl
              have hjs : j < listed.size := by rw [hI.lsize]; exact hj
              simp [Array.getD_eq_getD_getElem?, hjs] at hl ⊢
              exact hl
            · have hq2 : listed.getD (l.length - 1) false = true := by
                simpa [Array.getD_eq_getD_getElem?, Array.getElem?_setIfInBounds_ne hil2] using hq
              exact hLa hq2 j hj
          simpa [Array.getD_eq_getD_getElem?, Array.getElem?_setIfInBounds_ne (Ne.symm hji)] using hjl
      · intro hq t ht
        have hil2 : i ≠ l.length - 1 := by
          rintro rfl
          have hs : l.length - 1 < listed.size := by rw [hI.lsize]; exact hlt
          simp [Array.getD_eq_getD_getElem?, hs] at hq
        have hq2 : listed.getD (l.length - 1) false = false := by
          simpa [Array.getD_eq_getD_getElem?, Array.getElem?_setIfInBounds_ne hil2] using hq
        have hod : o ∈ l.dropLast := by
          rw [List.getElem?_eq_getElem hlt] at hil
          cases hil
          rw [List.mem_iff_getElem]
          exact ⟨i, by simp; omega, by simp⟩
        rw [put_other a o.dst v t (ht o hod)]
        exact hLb hq2 t ht
      · have hlt2 : ((List.range l.length).filter fun j => !(listed.setIfInBounds i true).getD j false).length < ((List.range l.length).filter fun j => !listed.getD j false).length := by
          rw [← List.countP_eq_length_filter, ← List.countP_eq_length_filter]
          refine countP_lt_of (List.range l.length) i (List.mem_range.2 hlt) (by simp [hunf]) ?_ ?_
          · have hs : i < listed.size := by rw [hI.lsize]; exact hlt
            simp [Array.getD_eq_getD_getElem?, hs]
          · intro j hj
            by_cases hji : i = j
            · subst hji; simp [hunf]
            · simpa [Array.getD_eq_getD_getElem?, Array.getElem?_setIfInBounds_ne hji] using hj
        omega
    have hy : ∀ (j : Nat) (b : Bool), (yielded l.toArray a.tmps j == some b) = true ↔ ∃ d, (l.map (·.dst)).getD j none = some d ∧ a.eval (.tmp d) = .bool b := by
      intro j b
      rw [hdst]
      unfold yielded
      rw [List.getElem?_toArray]
      cases hd : (l[j]?).bind (·.dst) with
      | none => simp
      | some d =>
        have hlt' : d < a.tmps.size := by
          rw [hI.size]
          cases hlj : l[j]? with
          | none => simp [hlj] at hd
          | some oj =>
            simp [hlj] at hd
            exact hb d (List.mem_filterMap.2 ⟨oj, List.mem_of_getElem? hlj, hd⟩)
        have he : a.eval (.tmp d) = a.tmps[d] := by simp [Act.eval, Array.getD_eq_getD_getElem?, hlt']
        simp only [Option.bind_some, Array.getElem?_eq_getElem hlt', Option.some.injEq, exists_eq_left', he]
        cases a.tmps[d] <;> simp
    unfold wpOp
    rw [ho]
    unfold guardF at hst
    show if Region.wanted o (yielded l.toArray a.tmps) = true then _ else _
    unfold Region.wanted
    cases hg : o.guard with
    | none =>
      rw [hg] at hst
      simp only [if_true]
      exact .inl (opOk_wp hst (fun v w' h => next v w' h.1 h.2))
    | some jb =>
      obtain ⟨j, b⟩ := jb
      rw [hg] at hst
      simp only at hst ⊢
      by_cases hw : (yielded l.toArray a.tmps j == some b) = true
      · rw [if_pos hw]
        obtain ⟨d, hd, he⟩ := (hy j b).1 hw
        rw [hd] at hst
        exact .inl (opOk_wp (hst.1 he) (fun v w' h => next v w' h.1 h.2))
      · rw [if_neg hw]
        refine next undef w ?_ (Rrefl w)
        cases hd : (l.map (·.dst)).getD j none with
        | none => rw [hd] at hst; exact hst
        | some d =>
          rw [hd] at hst
          exact hst.2 (fun he => hw ((hy j b).2 ⟨d, hd, he⟩))

/-- The region's law, where the last operation waits for all the others: what it alone writes stands till then. -/
theorem wp_region_growL {id : Nat} (hm : P.follows .mixedOrders = true) (hds : dstsOk l a0.tmps.size = true) (hx : lexOk l = true) (hla : lastOk l = true)
    (Rrefl : ∀ a, R a a) (Rtrans : ∀ a b c, R a b → R b c → R a c) (Rdraw : ∀ a, R a a.drew) (Sstab : ∀ i v w w', S i v w → R w w' → S i v w')
    (H : AllOps P (RhoAt a0 l.dropLast) R S (l.map (·.dst)) w0 l 0)
    (hQ : ∀ (vals : Nat → Value) (w : World), R w0 w → (∀ i, i < l.length → S i (vals i) w) → Q .normal (fillFrom vals l 0 a0) w) :
    (Code.region id l.toArray true).wp P Q a0 w0 := by
  simp only [dstsOk, Bool.and_eq_true, decide_eq_true_eq, List.all_eq_true] at hds
  refine wp_region_any hm ?_
  have hΦ : ∀ listed a w, RInv S l a0 listed a w → (∀ t, (∀ o ∈ l.dropLast, o.dst ≠ some t) → a.tmps[t]? = a0.tmps[t]?) → RhoAt a0 l.dropLast a.eval := fun listed a w hI hT => ⟨RhoOk.act a, fun t ht => by
    have h1 := hT t (fun o ho he => by
      have := List.all_eq_true.1 ht o ho
      rw [he] at this
      simp at this)
    simp [Act.eval, Array.getD_eq_getD_getElem?, h1]⟩
  refine wpAny_growL Rrefl Rtrans Sstab hds.1 hds.2 hΦ (lastOk_of hla) H hQ hx _ _ _ _ (Rdraw w0) ?_ ?_ (fun _ _ _ => rfl) ?_
  · refine ⟨rfl, rfl, ?_, fun _ _ => rfl, by simp⟩
    intro i o _ h
    simp [Array.getD_eq_getD_getElem?, Array.getElem?_replicate] at h
    split at h <;> simp at h
  · intro h
    simp [Array.getD_eq_getD_getElem?, Array.getElem?_replicate] at h
    split at h <;> simp at h
  · have := List.length_filter_le (fun i => !(Array.replicate l.toArray.size false).getD i false) (List.range l.length)
    simpa using this
end

theorem wp_region_grL {P : Program} {Q : Exit → Act → World → Prop} {l : List Oper} {a0 : Act} {w0 : World} {id : Nat} (L : List (Value → World → Prop)) (hm : P.follows .mixedOrders = true) (hds : dstsOk l a0.tmps.size = true) (hx : lexOk l = true) (hla : lastOk l = true)
    (hst : StabAll GrR L) (H : AllOps P (RhoAt a0 l.dropLast) GrR (factAt L) (l.map (·.dst)) w0 l 0)
    (hQ : ∀ (vals : Nat → Value) (w : World), GrR w0 w → (∀ i, i < l.length → factAt L i (vals i) w) → Q .normal (fillFrom vals l 0 a0) w) : (Code.region id l.toArray true).wp P Q a0 w0 :=
  wp_region_growL hm hds hx hla GrR.refl (fun _ _ _ => gr_trans) (fun a => (Below.refl _ _).drew) (factAt_stab hst) H hQ
end Go.FL



namespace Go.FL

open Go.RowKit

/-- The how manieth writer operation k is. -/
def wrAt : List Nat → Nat → Option Nat
  | [], _ => none
  | x :: r, k => if k = x then some 0 else (wrAt r k).map (· + 1)
theorem wrAt_none : ∀ {ws : List Nat} {k : Nat}, wrAt ws k = none → k ∉ ws
  | [], _, _ => by simp
  | x :: r, k, h => by
    unfold wrAt at h
    split at h
    · cases h
    · rename_i hne
      simp at h
      simp only [List.mem_cons, not_or]
      exact ⟨hne, wrAt_none h⟩
theorem wrAt_some : ∀ {ws : List Nat} {k j : Nat}, wrAt ws k = some j → ws[j]? = some k
  | [], _, _, h => by cases h
  | x :: r, k, j, h => by
    unfold wrAt at h
    split at h
    · rename_i he
      cases h
      simp [he]
    · cases hq : wrAt r k with
      | none => simp [hq] at h
      | some j' =>
        simp [hq] at h
        subst h
        simpa using wrAt_some hq

/-- Operation t waits for operation j, through others too. -/
def anc (l : List Oper) : Nat → Nat → Nat → Bool
  | 0, _, _ => false
  | n + 1, t, j => match l[t]? with
    | none => false
    | some o => (depsOf o).contains j || (depsOf o).any fun e => anc l n e j
/-- What is done is done with all that it waits for. -/
def Closed (l : List Oper) (listed : Array Bool) : Prop := ∀ t o, l[t]? = some o → listed.getD t false = true → ∀ e ∈ depsOf o, listed.getD e false = true
theorem anc_of {l : List Oper} {listed : Array Bool} (hc : Closed l listed) : ∀ (n t j : Nat), anc l n t j = true → (∀ o, l[t]? = some o → ∀ e ∈ depsOf o, listed.getD e false = true) → listed.getD j false = true
  | 0, _, _, h, _ => by cases h
  | n + 1, t, j, h, hd => by
    unfold anc at h
    cases ho : l[t]? with
    | none => simp [ho] at h
    | some o =>
      simp only [ho, Bool.or_eq_true] at h
      rcases h with h | h
      · exact hd o ho j (by simpa using h)
      · rw [List.any_eq_true] at h
        obtain ⟨e, he, hj⟩ := h
        refine anc_of hc n e j hj (fun o' ho' e' he' => hc e o' ho' (hd o ho e he) e' he')
/-- From operation n on each waits for all ahead of it. -/
def tailOk (l : List Oper) (n : Nat) : Bool := (List.range l.length).all fun t => decide (t < n) || (List.range t).all fun j => anc l l.length t j
theorem tailOk_of {l : List Oper} {n : Nat} (h : tailOk l n = true) : ∀ t, n ≤ t → t < l.length → ∀ j, j < t → anc l l.length t j = true := by
  intro t h1 h2 j hj
  simp only [tailOk, List.all_eq_true] at h
  have := h t (List.mem_range.2 h2)
  simp only [Bool.or_eq_true, decide_eq_true_eq, List.all_eq_true] at this
  rcases this with h | h
  · omega
  · exact h j (List.mem_range.2 hj)
theorem ready_deps {l : List Oper} {listed : Array Bool} (hs : listed.size = l.length) (hlex : lexOk l = true) {i : Nat} {o : Oper} (hil : l[i]? = some o) (haft : ∀ e ∈ o.after, Region.binds .any e = true → listed.getD e.on false = true) : ∀ e ∈ depsOf o, listed.getD e false = true := by
  intro j hj
  unfold depsOf at hj
  obtain ⟨e, he, hej⟩ := List.mem_filterMap.1 hj
  by_cases hbd : Region.binds .any e = true
  · simp [hbd] at hej
    subst hej
    exact haft e (by simpa using he) hbd
  · simp [hbd] at hej

/-- The tail, its order forced. -/
theorem wpAny_tail {P : Program} {Q : Exit → Act → World → Prop} {l : List Oper} {n : Nat} (hlex : lexOk l = true) (htl : tailOk l n = true) :
    ∀ (k s : Nat) (fuel : Nat) (listed : Array Bool) (a : Act) (w : World), l.length - (n + s) = k → n + s ≤ l.length → listed.size = l.length → (∀ j, j < l.length → (listed.getD j false = true ↔ j < n + s)) → k ≤ fuel →
      wpList P l.toArray Q (l.drop (n + s)) a w → wpAny P .any l.toArray Q fuel listed a w
  | 0, s, fuel, listed, a, w, hk, hle, hs, hl, hf, h => by
    have hz : l.drop (n + s) = [] := List.drop_eq_nil_of_le (by omega)
    rw [hz] at h
    refine wpAny_done ?_ h fuel
    unfold Region.ready
    rw [List.filter_eq_nil_iff]
    intro j hj
    have hj' : j < l.length := by simpa using hj
    have h1 := (hl j hj').2 (by omega)
    have h2 : listed.getD j true = true := by
      have hjs : j < listed.size := by omega
      rw [Array.getD_eq_getD_getElem?, Array.getElem?_eq_getElem hjs] at h1 ⊢
      exact h1
    simp [h2]
  | k + 1, s, 0, listed, a, w, hk, hle, hs, hl, hf, h => by omega
  | k + 1, s, fuel + 1, listed, a, w, hk, hle, hs, hl, hf, h => by
    have hlt : n + s < l.length := by omega
    have hcl : Closed l listed := by
      intro t o ho ht e he
      have htl' : t < l.length := by
        rcases Nat.lt_or_ge t l.length with h | h
        · exact h
        · simp [List.getElem?_eq_none h] at ho
      have h1 := (hl t htl').1 ht
      unfold depsOf at he
      obtain ⟨x, hx, hxe⟩ := List.mem_filterMap.1 he
      by_cases hbd : Region.binds .any x = true
      · simp [hbd] at hxe
        subst hxe
        unfold lexOk at hlex
        rw [List.all_eq_true] at hlex
        have h3 := hlex (o, t) (List.mem_zipIdx_iff_getElem?.2 ho)
        rw [Array.all_eq_true'] at h3
        have h4 := h3 x (by simpa using hx)
        simp [hbd] at h4
        exact (hl _ (by omega)).2 (by omega)
      · simp [hbd] at hxe
    have hunl : listed.getD (n + s) false = false := by
      cases hq : listed.getD (n + s) false
      · rfl
      · have := (hl _ hlt).1 hq
        omega
    refine ⟨fun h0 => ?_, fun i hi => ?_⟩
    · have := all_of_ready_nil hlex listed hs h0 (n + s) hlt
      rw [hunl] at this
      cases this
    · obtain ⟨hun, o, ho, haft⟩ := mem_ready' hi
      have hil : l[i]? = some o := by simpa using ho
      have hli : i < l.length := by
        rcases Nat.lt_or_ge i l.length with h | h
        · exact h
        · simp [List.getElem?_eq_none h] at hil
      have hge : n + s ≤ i := by
        rcases Nat.lt_or_ge i (n + s) with h | h
        · have h1 := (hl i hli).2 h
          have hjs : i < listed.size := by omega
          rw [Array.getD_eq_getD_getElem?, Array.getElem?_eq_getElem hjs] at h1 hun
          simp at h1 hun
          rw [h1] at hun
          cases hun
        · exact h
      have hieq : i = n + s := by
        rcases Nat.lt_or_ge (n + s) i with h | h
        · exfalso
          have ha := tailOk_of htl i (by omega) hli (n + s) h
          have := anc_of hcl _ _ _ ha (fun o' ho' => by
            rw [hil] at ho'
            cases ho'
            exact ready_deps hs hlex hil (fun e he hb => haft e (by simpa using he) hb))
          rw [hunl] at this
          cases this
        · omega
      subst hieq
      have hd : l.drop (n + s) = o :: l.drop (n + (s + 1)) := by
        rw [List.drop_eq_getElem_cons hlt]
        congr 1
        exact Option.some.inj ((List.getElem?_eq_getElem hlt).symm.trans hil)
      rw [hd] at h
      have hop : wpOp P l.toArray Q (n + s) (wpList P l.toArray Q (l.drop (n + (s + 1)))) a w := by
        unfold wpOp
        rw [ho]
        exact h
      refine wpOp_mono (fun a' w' h' => wpAny_tail hlex htl k (s + 1) fuel (listed.setIfInBounds (n + s) true) a' w' (by omega) (by omega) (by simp [hs]) ?_ (by omega) h') hop
      intro j hj
      by_cases hji : n + s = j
      · subst hji
        have hjs : n + s < listed.size := by omega
        simp [Array.getD_eq_getD_getElem?, hjs]
      · have := hl j hj
        rw [Array.getD_eq_getD_getElem?] at this
        rw [Array.getD_eq_getD_getElem?, Array.getElem?_setIfInBounds_ne hji, this]
        omega

/-- Each writer waits for the one ahead of it; all stand ahead of the last operation; none twice. -/
def chainOk (l : List Oper) (n : Nat) (ws : List Nat) : Bool :=
  decide ws.Nodup && ws.all (fun k => decide (k < n)) &&
  (List.range ws.length).all fun j => match ws[j]?, ws[j + 1]? with
    | some x, some y => (match l[y]? with | some o => o.after.any fun e => e.on == x && Region.binds .any e | none => false)
    | _, _ => true
theorem chainOk_of {l : List Oper} {n : Nat} {ws : List Nat} (h : chainOk l n ws = true) : ws.Nodup ∧ (∀ k ∈ ws, k < n) ∧ ∀ j x y, ws[j]? = some x → ws[j + 1]? = some y → ∀ o, l[y]? = some o → ∃ e ∈ o.after, e.on = x ∧ Region.binds .any e = true := by
  simp only [chainOk, Bool.and_eq_true, decide_eq_true_eq, List.all_eq_true] at h
  obtain ⟨⟨h1, h2⟩, h3⟩ := h
  refine ⟨h1, h2, fun j x y hx hy o ho => ?_⟩
  have hj : j < ws.length := by
    rcases Nat.lt_or_ge j ws.length with h | h
    · exact h
    · simp [List.getElem?_eq_none h] at hx
  have := h3 j (List.mem_range.2 hj)
  simp only [hx, hy, ho] at this
  rw [Array.any_eq_true'] at this
  obtain ⟨e, he, h4⟩ := this
  simp only [Bool.and_eq_true, beq_iff_eq] at h4
  exact ⟨e, he, h4⟩

/-- Each operation: one of the writers finds what they share as the ones ahead left it, and leaves it as the next wants it; any other one leaves it alone. -/
def AllOpsC (P : Program) (Φ : (Operand → Value) → Prop) (R R' : World → World → Prop) (J : Nat → World → Prop) (ws : List Nat) (S : Nat → Value → World → Prop) (ds : List (Option Tmp)) (w0 : World) : List Oper → Nat → Prop
  | [], _ => True
  | o :: r, k => (∀ (ρ : Operand → Value) (w : World), Φ ρ → R w0 w → depFacts ds S ρ w (depsOf o) →
      match wrAt ws k with
      | none => guardF ds o ρ (opOk P o ρ w fun v w' => S k v w' ∧ R' w w') (S k undef w)
      | some j => o.guard = none ∧ (J j w → opOk P o ρ w fun v w' => S k v w' ∧ R w w' ∧ J (j + 1) w')) ∧ AllOpsC P Φ R R' J ws S ds w0 r (k + 1)
theorem AllOpsC_get {P : Program} {Φ : (Operand → Value) → Prop} {R R' : World → World → Prop} {J : Nat → World → Prop} {ws : List Nat} {S : Nat → Value → World → Prop} {ds : List (Option Tmp)} {w0 : World} :
    ∀ (m : List Oper) (k : Nat), AllOpsC P Φ R R' J ws S ds w0 m k → ∀ i o, m[i]? = some o → ∀ (ρ : Operand → Value) (w : World), Φ ρ → R w0 w → depFacts ds S ρ w (depsOf o) →
      match wrAt ws (k + i) with
      | none => guardF ds o ρ (opOk P o ρ w fun v w' => S (k + i) v w' ∧ R' w w') (S (k + i) undef w)
      | some j => o.guard = none ∧ (J j w → opOk P o ρ w fun v w' => S (k + i) v w' ∧ R w w' ∧ J (j + 1) w')
  | [], _, _, i, o, h => by simp at h
  | o' :: r, k, hA, i, o, h => by
    cases i with
    | zero => simp at h; subst h; exact hA.1
    | succ i =>
      have := AllOpsC_get r (k + 1) hA.2 i o (by simpa using h)
      intro ρ w h0 h1 h2
      rw [show k + (i + 1) = k + 1 + i by omega]
      exact this ρ w h0 h1 h2

/-- The frame as it is in the midst of the front. -/
structure RInvC (S : Nat → Value → World → Prop) (f : List Oper) (a0 : Act) (listed : Array Bool) (a : Act) (w : World) : Prop where
  size : a.tmps.size = a0.tmps.size
  defers : a.defers = a0.defers
  done : ∀ (i : Nat) (o : Oper), f[i]? = some o → listed.getD i false = true → match o.dst with | some d => S i (a.tmps.getD d undef) w | none => ∃ v, S i v w
  other : ∀ t, (∀ o ∈ f, o.dst ≠ some t) → a.tmps[t]? = a0.tmps[t]?
theorem RInvC.toR {S : Nat → Value → World → Prop} {f : List Oper} {a0 : Act} {listed : Array Bool} {a : Act} {w : World} (h : RInvC S f a0 listed a w) : RInv S f a0 (Array.ofFn (n := f.length) fun i => listed.getD i.1 false) a w :=
  ⟨h.size, h.defers, fun i o hi hl => h.done i o hi (by
    have hlt : i < f.length := by
      rcases Nat.lt_or_ge i f.length with h | h
      · exact h
      · simp [List.getElem?_eq_none h] at hi
    simpa [Array.getD_eq_getD_getElem?, hlt] using hl), h.other, by simp⟩

section

variable {P : Program} {R R' : World → World → Prop} {J : Nat → World → Prop} {ws : List Nat} {S : Nat → Value → World → Prop} {f T : List Oper} {Q : Exit → Act → World → Prop} {a0 : Act} {w0 : World}

theorem wpAny_chain (Rrefl : ∀ a, R a a) (Rtrans : ∀ a b c, R a b → R b c → R a c) (Rsub : ∀ a b, R' a b → R a b) (R'refl : ∀ a, R' a a) (Jstab : ∀ c a b, J c a → R' a b → J c b) (Sstab : ∀ i v w w', S i v w → R w w' → S i v w')
    (hn : (f.filterMap (·.dst)).Nodup) (hb : ∀ d ∈ f.filterMap (·.dst), d < a0.tmps.size)
    {Φ : (Operand → Value) → Prop} (hΦ : ∀ listed a w, RInvC S f a0 listed a w → Φ a.eval)
    (htl : tailOk (f ++ T) f.length = true) (hT : T ≠ [])
    (hch : chainOk (f ++ T) f.length ws = true) (hgd : ∀ o ∈ f, ∀ j b, o.guard = some (j, b) → j < f.length)
    (H : AllOpsC P Φ R R' J ws S (f.map (·.dst)) w0 f 0)
    (hQ : ∀ (vals : Nat → Value) (w : World), R w0 w → J ws.length w → (∀ i, i < f.length → S i (vals i) w) → wpList P (f ++ T).toArray Q T (fillFrom vals f 0 a0) w)
    (hx : lexOk (f ++ T) = true) :
    ∀ (fuel : Nat) (listed : Array Bool) (a : Act) (w : World) (c : Nat), R w0 w → RInvC S f a0 listed a w → listed.size = f.length + T.length → (∀ j, f.length ≤ j → listed.getD j false = false) → Closed (f ++ T) listed →
      (∀ j x, ws[j]? = some x → (listed.getD x false = true ↔ j < c)) → c ≤ ws.length → J c w →
      ((List.range (f.length + T.length)).filter fun i => !listed.getD i false).length ≤ fuel → wpAny P .any (f ++ T).toArray Q fuel listed a w := by
  obtain ⟨hnd, hwlt, hwch⟩ := chainOk_of hch
  have hlen : (f ++ T).length = f.length + T.length := by simp
  have hTl : 0 < T.length := List.length_pos_iff.2 hT
  have fin : ∀ (listed : Array Bool) (a : Act) (w : World), R w0 w → J ws.length w → RInvC S f a0 listed a w → (∀ i, i < f.length → listed.getD i false = true) → wpList P (f ++ T).toArray Q T a w := by
    intro listed a w hR hJ hI hall
    have hch : ∀ i, ∃ v, (∀ (o : Oper) (d : Nat), f[i]? = some o → o.dst = some d → v = a.tmps.getD d undef) ∧ (i < f.length → S i v w) := by
      intro i
      cases hi : f[i]? with
      | none =>
        have : ¬ i < f.length := by simpa using hi
        exact ⟨undef, fun o d h => by simp at h, fun h => absurd h this⟩
      | some o =>
        have hlt : i < f.length := by
          rcases Nat.lt_or_ge i f.length with h | h
          · exact h
          · simp [List.getElem?_eq_none h] at hi
        have hd := hI.done i o hi (hall i hlt)
        cases hdst : o.dst with
        | none =>
          rw [hdst] at hd
          obtain ⟨v, hv⟩ := hd
          exact ⟨v, (fun o' d h h' => by simp at h; subst h; rw [hdst] at h'; cases h'), fun _ => hv⟩
        | some d =>
          rw [hdst] at hd
          exact ⟨_, (fun o' d' h h' => by simp at h; subst h; rw [hdst] at h'; cases h'; rfl), fun _ => hd⟩
    have hvals : ∃ vals : Nat → Value, ∀ i, (∀ (o : Oper) (d : Nat), f[i]? = some o → o.dst = some d → vals i = a.tmps.getD d undef) ∧ (i < f.length → S i (vals i) w) :=
      ⟨fun i => (hch i).choose, fun i => (hch i).choose_spec⟩
    obtain ⟨vals, hv⟩ := hvals
    rw [hI.toR.isFill hn hb vals (fun i o d h h' => (hv i).1 o d h h')]
    exact hQ vals w hR hJ (fun i hi => (hv i).2 hi)
  intro fuel
  induction fuel with
  | zero =>
    intro listed a w c hR hI hs hun hclo hc hcl hJ hf
    have h0 : ((List.range (f.length + T.length)).filter fun i => !listed.getD i false) = [] := List.eq_nil_of_length_eq_zero (by omega)
    rw [List.filter_eq_nil_iff] at h0
    have := h0 f.length (List.mem_range.2 (by omega))
    simp [hun f.length (Nat.le_refl _)] at this
  | succ fuel ih =>
    intro listed a w c hR hI hs hun hclo hc hcl hJ hf
    refine ⟨fun h => ?_, fun i hi => ?_⟩
    · have := all_of_ready_nil hx listed (by rw [hs, hlen]) h f.length (by omega)
      rw [hun f.length (Nat.le_refl _)] at this
      cases this
    obtain ⟨hunl, o, ho, haft⟩ := mem_ready' hi
    have hil : (f ++ T)[i]? = some o := by simpa using ho
    have hlt : i < f.length + T.length := by
      rcases Nat.lt_or_ge i (f ++ T).length with h | h
      · omega
      · simp [List.getElem?_eq_none h] at hil
    have hunf : listed.getD i false = false := by
      have hs' : i < listed.size := by rw [hs]; exact hlt
      simp [Array.getD_eq_getD_getElem?, hs'] at hunl ⊢
      exact hunl
    have hdl := ready_deps (by rw [hs, hlen]) hx hil (fun e he hb => haft e (by simpa using he) hb)
    by_cases hil2 : f.length ≤ i
    · have hall : ∀ j, j < i → listed.getD j false = true := by
        intro j hj
        exact anc_of hclo _ _ _ (tailOk_of htl i hil2 (by omega) j hj) (fun o' ho' => by
          rw [hil] at ho'
          cases ho'
          exact hdl)
      have hi0 : i = f.length := by
        rcases Nat.lt_or_ge f.length i with h | h
        · have h1 := hall f.length h
          rw [hun f.length (Nat.le_refl _)] at h1
          cases h1
        · omega
      subst hi0
      have hcw : c = ws.length := by
        rcases Nat.lt_or_ge c ws.length with h | h
        · have h1 : ws[c]? = some ws[c] := List.getElem?_eq_getElem h
          have h2 := (hc c _ h1).1 (hall _ (hwlt _ (List.mem_of_getElem? h1)))
          omega
        · omega
      rw [hcw] at hJ
      have hfin := fin listed a w hR hJ hI hall
      have hlist : ∀ j, j < (f ++ T).length → (listed.getD j false = true ↔ j < f.length + 0) := by
        intro j hj
        constructor
        · intro h
          rcases Nat.lt_or_ge j f.length with h' | h'
          · omega
          · rw [hun j h'] at h
            cases h
        · intro h
          exact hall j (by omega)
      have hgo := wpAny_tail (P := P) (Q := Q) hx htl ((f ++ T).length - (f.length + 0)) 0 (fuel + 1) listed a w rfl (by omega) (by rw [hs, hlen]) hlist ?_ (by simpa using hfin)
      · exact hgo.2 _ hi
      · have : ((List.range (f.length + T.length)).filter fun i => !listed.getD i false).length = T.length := by
          rw [List.range_add, List.filter_append, List.length_append, List.filter_eq_nil_iff.2 (fun j hj => by simp [hall j (List.mem_range.1 hj)]), List.filter_eq_self.2]
          · simp
          · intro j hj
            obtain ⟨k, _, rfl⟩ := List.mem_map.1 hj
            simp [hun (f.length + k) (by omega)]
        omega
    have hif : i < f.length := by omega
    have hfi : f[i]? = some o := by rwa [List.getElem?_append_left hif] at hil
    have hdst : ∀ j, (f.map (·.dst)).getD j none = (f[j]?).bind (·.dst) := by
      intro j
      simp [List.getD_eq_getElem?_getD, List.getElem?_map]
      cases f[j]? <;> rfl
    have hlexi : ∀ e ∈ o.after, Region.binds .any e = true → e.on < i := by
      unfold lexOk at hx
      rw [List.all_eq_true] at hx
      have h3 := hx (o, i) (List.mem_zipIdx_iff_getElem?.2 hil)
      rw [Array.all_eq_true'] at h3
      intro e he hbd
      simpa [hbd] using h3 e he
    have hdeps : depFacts (f.map (·.dst)) S a.eval w (depsOf o) := by
      have hone : ∀ j ∈ depsOf o, j < f.length ∧ listed.getD j false = true := by
        intro j hj
        unfold depsOf at hj
        obtain ⟨e, he, hej⟩ := List.mem_filterMap.1 hj
        by_cases hbd : Region.binds .any e = true
        · simp [hbd] at hej
          subst hej
          have hl := haft e (by simpa using he) hbd
          have hjl : e.on < f.length := by have := hlexi e (by simpa using he) hbd; omega
          have hjs : e.on < listed.size := by omega
          refine ⟨hjl, ?_⟩
          simp [Array.getD_eq_getD_getElem?, hjs] at hl ⊢
          exact hl
        · simp [hbd] at hej
      generalize depsOf o = dl at hone
      induction dl with
      | nil => trivial
      | cons j r ihr =>
        refine ⟨?_, ihr (fun j' hj' => hone j' (List.mem_cons_of_mem _ hj'))⟩
        obtain ⟨hjl, hlj⟩ := hone j List.mem_cons_self
        rw [hdst, List.getElem?_eq_getElem hjl]
        have hd := hI.done j f[j] (List.getElem?_eq_getElem hjl) hlj
        cases hdj : f[j].dst with
        | none => simp [hdj]
        | some d =>
          rw [hdj] at hd
          simp only [Option.bind_some, hdj]
          exact hd
    have hst := AllOpsC_get f 0 H i o hfi a.eval w (hΦ listed a w hI) hR hdeps
    rw [Nat.zero_add] at hst
    have next : ∀ (v : Value) (w' : World) (c' : Nat), S i v w' → R w w' → J c' w' → c' ≤ ws.length → (∀ j x, ws[j]? = some x → ((listed.setIfInBounds i true).getD x false = true ↔ j < c')) → wpAny P .any (f ++ T).toArray Q fuel (listed.setIfInBounds i true) (a.put o.dst v) w' := by
      intro v w' c' hS hRw hJ' hcl' hc'
      refine ih (listed.setIfInBounds i true) (a.put o.dst v) w' c' (Rtrans _ _ _ hR hRw) ?_ (by simp [hs]) ?_ ?_ hc' hcl' hJ' ?_
      · refine ⟨by rw [put_size, hI.size], by rw [put_defers, hI.defers], ?_, ?_⟩
        · intro j oj hj hlj
          by_cases hji : j = i
          · subst hji
            rw [hfi] at hj
            cases hj
            cases hdst : o.dst with
            | none => exact ⟨v, hS⟩
            | some d =>
              have hlt' : d < a.tmps.size := by rw [hI.size]; exact hb d (List.mem_filterMap.2 ⟨o, List.mem_of_getElem? hfi, hdst⟩)
              simp only [Array.getD_eq_getD_getElem?, put_same a d v hlt', Option.getD_some]
              exact hS
          · have hlj' : listed.getD j false = true := by
              simpa [Array.getD_eq_getD_getElem?, Array.getElem?_setIfInBounds_ne (Ne.symm hji)] using hlj
            have hd := hI.done j oj hj hlj'
            cases hdst : oj.dst with
            | none =>
              rw [hdst] at hd
              obtain ⟨u, hu⟩ := hd
              exact ⟨u, Sstab _ _ _ _ hu hRw⟩
            | some d =>
              rw [hdst] at hd
              have hne : o.dst ≠ some d := by
                intro he
                have h1 := fillFrom_at (fun n => if n = i then .bool true else .bool false) f 0 a0 hn hb i o d hfi he
                have h2 := fillFrom_at (fun n => if n = i then .bool true else .bool false) f 0 a0 hn hb j oj d hj hdst
                rw [h1] at h2
                simp [hji] at h2
              simp only [Array.getD_eq_getD_getElem?, put_other a o.dst v d hne]
              simp only [Array.getD_eq_getD_getElem?] at hd
              exact Sstab _ _ _ _ hd hRw
        · intro t ht
          rw [put_other a o.dst v t (ht o (List.mem_of_getElem? hfi)), hI.other t ht]
      · intro j hj
        have h1 := hun j hj
        rw [Array.getD_eq_getD_getElem?] at h1
        rw [Array.getD_eq_getD_getElem?, Array.getElem?_setIfInBounds_ne (by omega), h1]
      · intro t ot hto htl2 e he
        have hup : ∀ j, listed.getD j false = true → (listed.setIfInBounds i true).getD j false = true := by
          intro j h1
          by_cases hij : i = j
          · subst hij
            have hsi : i < listed.size := by omega
            simp [Array.getD_eq_getD_getElem?, hsi]
          · rw [Array.getD_eq_getD_getElem?] at h1
            rw [Array.getD_eq_getD_getElem?, Array.getElem?_setIfInBounds_ne hij, h1]
        by_cases hit : i = t
        · subst hit
          rw [hil] at hto
          cases hto
          exact hup _ (hdl e he)
        · refine hup _ (hclo t ot hto ?_ e he)
          rw [Array.getD_eq_getD_getElem?, Array.getElem?_setIfInBounds_ne hit] at htl2
          rw [Array.getD_eq_getD_getElem?]
          exact htl2
      · have hlt2 : ((List.range (f.length + T.length)).filter fun j => !(listed.setIfInBounds i true).getD j false).length < ((List.range (f.length + T.length)).filter fun j => !listed.getD j false).length := by
          rw [← List.countP_eq_length_filter, ← List.countP_eq_length_filter]
          refine countP_lt_of (List.range (f.length + T.length)) i (List.mem_range.2 hlt) (by simp [hunf]) ?_ ?_
          · have hs' : i < listed.size := by rw [hs]; exact hlt
            simp [Array.getD_eq_getD_getElem?, hs']
          · intro j hj
            by_cases hji : i = j
            · subst hji; simp [hunf]
            · simpa [Array.getD_eq_getD_getElem?, Array.getElem?_setIfInBounds_ne hji] using hj
        omega
    have hsi : i < listed.size := by omega
    cases hwr : wrAt ws i with
    | none =>
      rw [hwr] at hst
      simp only at hst
      have hni := wrAt_none hwr
      have hck : ∀ j x, ws[j]? = some x → ((listed.setIfInBounds i true).getD x false = true ↔ j < c) := by
        intro j x hx'
        have hne : i ≠ x := fun e => hni (by rw [e]; exact List.mem_of_getElem? hx')
        have := hc j x hx'
        simpa [Array.getD_eq_getD_getElem?, Array.getElem?_setIfInBounds_ne hne] using this
      have nx : ∀ (v : Value) (w' : World), S i v w' → R' w w' → wpAny P .any (f ++ T).toArray Q fuel (listed.setIfInBounds i true) (a.put o.dst v) w' := fun v w' h1 h2 => next v w' c h1 (Rsub _ _ h2) (Jstab _ _ _ hJ h2) hcl hck
      have hy : ∀ (j : Nat) (b : Bool), j < f.length → ((yielded (f ++ T).toArray a.tmps j == some b) = true ↔ ∃ d, (f.map (·.dst)).getD j none = some d ∧ a.eval (.tmp d) = .bool b) := by
        intro j b hjf
        rw [hdst]
        unfold yielded
        rw [List.getElem?_toArray, List.getElem?_append_left hjf]
        cases hd : (f[j]?).bind (·.dst) with
        | none => simp
        | some d =>
          have hlt' : d < a.tmps.size := by
            rw [hI.size]
            cases hlj : f[j]? with
            | none => simp [hlj] at hd
            | some oj =>
              simp [hlj] at hd
              exact hb d (List.mem_filterMap.2 ⟨oj, List.mem_of_getElem? hlj, hd⟩)
          have he : a.eval (.tmp d) = a.tmps[d] := by simp [Act.eval, Array.getD_eq_getD_getElem?, hlt']
          simp only [Option.bind_some, Array.getElem?_eq_getElem hlt', Option.some.injEq, exists_eq_left', he]
          cases a.tmps[d] <;> simp
      unfold wpOp
      rw [ho]
      unfold guardF at hst
      show if Region.wanted o (yielded (f ++ T).toArray a.tmps) = true then _ else _
      unfold Region.wanted
      cases hg : o.guard with
      | none =>
        rw [hg] at hst
        simp only [if_true]
        exact .inl (opOk_wp hst (fun v w' h => nx v w' h.1 h.2))
      | some jb =>
        obtain ⟨j, b⟩ := jb
        rw [hg] at hst
        simp only at hst ⊢
        have hjf : j < f.length := hgd o (List.mem_of_getElem? hfi) j b hg
        by_cases hw : (yielded (f ++ T).toArray a.tmps j == some b) = true
        · rw [if_pos hw]
          obtain ⟨d, hd, he⟩ := (hy j b hjf).1 hw
          rw [hd] at hst
          exact .inl (opOk_wp (hst.1 he) (fun v w' h => nx v w' h.1 h.2))
        · rw [if_neg hw]
          refine nx undef w ?_ (R'refl w)
          cases hd : (f.map (·.dst)).getD j none with
          | none => rw [hd] at hst; exact hst
          | some d =>
            rw [hd] at hst
            exact hst.2 (fun he => hw ((hy j b hjf).2 ⟨d, hd, he⟩))
    | some j =>
      rw [hwr] at hst
      simp only at hst
      have hwj := wrAt_some hwr
      have hjc : j = c := by
        have h1 : ¬ j < c := by
          intro h
          have := (hc j i hwj).2 h
          rw [hunf] at this
          cases this
        rcases Nat.lt_or_ge c j with h | h
        · exfalso
          have hj1 : j - 1 + 1 = j := by omega
          have hjl : j < ws.length := by
            rcases Nat.lt_or_ge j ws.length with h | h
            · exact h
            · simp [List.getElem?_eq_none h] at hwj
          have hp : ws[j - 1]? = some (ws[j - 1]'(by omega)) := List.getElem?_eq_getElem (by omega)
          obtain ⟨e, he, hej, hbd⟩ := hwch (j - 1) _ i hp (by rw [hj1]; exact hwj) o hil
          have hl := haft e (by simpa using he) hbd
          rw [hej] at hl
          have hjs : ws[j - 1]'(by omega) < listed.size := by have := hwlt _ (List.mem_of_getElem? hp); omega
          have hl' : listed.getD (ws[j - 1]'(by omega)) false = true := by
            simp [Array.getD_eq_getD_getElem?, hjs] at hl ⊢
            exact hl
          have := (hc (j - 1) _ hp).1 hl'
          omega
        · omega
      subst hjc
      have hjl : j < ws.length := by
        rcases Nat.lt_or_ge j ws.length with h | h
        · exact h
        · simp [List.getElem?_eq_none h] at hwj
      have hck : ∀ j' x, ws[j']? = some x → ((listed.setIfInBounds i true).getD x false = true ↔ j' < j + 1) := by
        intro j' x hx'
        by_cases hxi : i = x
        · subst hxi
          have : j' = j := by
            have h1 := List.getElem?_eq_some_iff.1 hx'
            have h2 := List.getElem?_eq_some_iff.1 hwj
            obtain ⟨p1, q1⟩ := h1
            obtain ⟨p2, q2⟩ := h2
            exact (List.getElem_inj hnd).1 (q1.trans q2.symm)
          subst this
          simp [Array.getD_eq_getD_getElem?, hsi]
        · have := hc j' x hx'
          have hne : j' ≠ j := by
            rintro rfl
            rw [hx'] at hwj
            exact hxi (Option.some.inj hwj).symm
          simp only [Array.getD_eq_getD_getElem?, Array.getElem?_setIfInBounds_ne hxi] at this ⊢
          rw [this]
          omega
      unfold wpOp
      rw [ho]
      show if Region.wanted o (yielded (f ++ T).toArray a.tmps) = true then _ else _
      unfold Region.wanted
      rw [hst.1]
      simp only [if_true]
      exact .inl (opOk_wp (hst.2 hJ) (fun v w' h => next v w' (j + 1) h.1 h.2.1 h.2.2 (by omega) hck))

def guardsOk (f : List Oper) : Bool := f.all fun o => match o.guard with | none => true | some x => decide (x.1 < f.length)
/-- **The region's law**: a chain of writers, the last operations by themselves. -/
theorem wp_region_chain {id : Nat} {l : List Oper} (n : Nat) (ws : List Nat) (J : Nat → World → Prop) (hl : f ++ T = l) (hfn : f.length = n) (hT : T ≠ []) (hm : P.follows .mixedOrders = true) (hds : dstsOk f a0.tmps.size = true) (hx : lexOk l = true) (hla : tailOk l n = true) (hch : chainOk l n ws = true) (hg : guardsOk f = true)
    (Rrefl : ∀ a, R a a) (Rtrans : ∀ a b c, R a b → R b c → R a c) (Rsub : ∀ a b, R' a b → R a b) (R'refl : ∀ a, R' a a) (Rdraw : ∀ a, R' a a.drew) (Jstab : ∀ c a b, J c a → R' a b → J c b) (Sstab : ∀ i v w w', S i v w → R w w' → S i v w')
    (J0 : J 0 w0) (H : AllOpsC P (RhoAt a0 f) R R' J ws S (f.map (·.dst)) w0 f 0)
    (hQ : ∀ (vals : Nat → Value) (w : World), R w0 w → J ws.length w → (∀ i, i < f.length → S i (vals i) w) → wpList P l.toArray Q T (fillFrom vals f 0 a0) w) :
    (Code.region id l.toArray true).wp P Q a0 w0 := by
  subst hl hfn
  simp only [dstsOk, Bool.and_eq_true, decide_eq_true_eq, List.all_eq_true] at hds
  refine wp_region_any hm ?_
  have hΦ : ∀ listed a w, RInvC S f a0 listed a w → RhoAt a0 f a.eval := fun listed a w hI => ⟨RhoOk.act a, fun t ht => by
    have h1 := hI.other t (fun o ho he => by
      have := List.all_eq_true.1 ht o ho
      rw [he] at this
      simp at this)
    simp [Act.eval, Array.getD_eq_getD_getElem?, h1]⟩
  have hgd : ∀ o ∈ f, ∀ j b, o.guard = some (j, b) → j < f.length := by
    intro o ho j b hob
    have := List.all_eq_true.1 hg o ho
    rw [hob] at this
    simpa using this
  have hrep : ∀ i, (Array.replicate (f ++ T).toArray.size false).getD i false = false := by
    intro i
    simp [Array.getD_eq_getD_getElem?, Array.getElem?_replicate]
    split <;> simp
  refine wpAny_chain Rrefl Rtrans Rsub R'refl Jstab Sstab hds.1 hds.2 hΦ hla hT hch hgd H hQ hx _ _ _ _ 0 (Rsub _ _ (Rdraw w0)) ?_ (by simp) (fun j _ => hrep j) ?_ ?_ (Nat.zero_le _) (Jstab _ _ _ J0 (Rdraw w0)) ?_
  · refine ⟨rfl, rfl, ?_, fun _ _ => rfl⟩
    intro i o _ h
    rw [hrep] at h
    cases h
  · intro t o _ h
    rw [hrep] at h
    cases h
  · intro j x _
    rw [hrep]
    simp
  · have := List.length_filter_le (fun i => !(Array.replicate (f ++ T).toArray.size false).getD i false) (List.range (f.length + T.length))
    simpa using this
end

end Go.FL




namespace Go.FL

open Go.RowKit

theorem AllOpsC_nil {P : Program} {Φ : (Operand → Value) → Prop} {R : World → World → Prop} {S : Nat → Value → World → Prop} {ds : List (Option Tmp)} {w0 : World} {J : Nat → World → Prop} :
    ∀ (m : List Oper) (k : Nat), AllOps P Φ R S ds w0 m k → AllOpsC P Φ R R J [] S ds w0 m k
  | [], _, _ => trivial
  | _ :: r, k, h => ⟨h.1, AllOpsC_nil r (k + 1) h.2⟩
section

variable {P : Program} {l : List Oper} {Q : Exit → Act → World → Prop} {a0 : Act} {w0 : World}

theorem wp_region_tail {id : Nat} (n : Nat) (L : List (Value → World → Prop)) (hm : P.follows .mixedOrders = true) (hds : dstsOk (l.take n) a0.tmps.size = true) (hx : lexOk l = true) (hla : tailOk l n = true) (hlen : decide (n < l.length) = true) (hg : guardsOk (l.take n) = true)
    (hst : StabAll GrR L) (H : AllOps P (RhoAt a0 (l.take n)) GrR (factAt L) ((l.take n).map (·.dst)) w0 (l.take n) 0)
    (hQ : ∀ (vals : Nat → Value) (w : World), GrR w0 w → (∀ i, i < n → factAt L i (vals i) w) → wpList P l.toArray Q (l.drop n) (fillFrom vals (l.take n) 0 a0) w) : (Code.region id l.toArray true).wp P Q a0 w0 := by
  have hlt : n < l.length := of_decide_eq_true hlen
  have hfl : (l.take n).length = n := by rw [List.length_take]; omega
  exact wp_region_chain (f := l.take n) (T := l.drop n) (R := GrR) (R' := GrR) n [] (fun _ _ => True) (List.take_append_drop n l) hfl (fun h => by have := congrArg List.length h; simp at this; omega) hm hds hx hla (by simp [chainOk]) hg
    GrR.refl (fun _ _ _ => gr_trans) (fun _ _ h => h) GrR.refl (fun a => (Below.refl _ _).drew) (fun _ _ _ _ _ => trivial) (factAt_stab hst) trivial (AllOpsC_nil _ _ H) (fun vals w h1 _ h3 => hQ vals w h1 (fun i hi => h3 i (by omega)))
/-- Block number g alone, of those that were there, may have changed. -/
def GbR (g : Nat) (a b : World) : Prop := a.grownBy b (some g)
theorem wp_region_take {id : Nat} (n : Nat) (g : Nat) (ws : List Nat) (J : Nat → World → Prop) (L : List (Value → World → Prop)) (hm : P.follows .mixedOrders = true) (hds : dstsOk (l.take n) a0.tmps.size = true) (hx : lexOk l = true) (hla : tailOk l n = true) (hlen : decide (n < l.length) = true) (hch : chainOk l n ws = true) (hg : guardsOk (l.take n) = true)
    (J0 : J 0 w0) (Jst : ∀ c a b, J c a → GrR a b → J c b) (hst : StabAll (GbR g) L) (H : AllOpsC P (RhoAt a0 (l.take n)) (GbR g) GrR J ws (factAt L) ((l.take n).map (·.dst)) w0 (l.take n) 0)
    (hQ : ∀ (vals : Nat → Value) (w : World), GbR g w0 w → J ws.length w → (∀ i, i < n → factAt L i (vals i) w) → wpList P l.toArray Q (l.drop n) (fillFrom vals (l.take n) 0 a0) w) : (Code.region id l.toArray true).wp P Q a0 w0 := by
  have hlt : n < l.length := of_decide_eq_true hlen
  have hfl : (l.take n).length = n := by rw [List.length_take]; omega
  exact wp_region_chain (f := l.take n) (T := l.drop n) (R := GbR g) (R' := GrR) n ws J (List.take_append_drop n l) hfl (fun h => by have := congrArg List.length h; simp at this; omega) hm hds hx hla hch hg
    (fun a => gb_refl a _) (fun _ _ _ => gb_trans) (fun _ _ h => gb_of_gr h _) GrR.refl (fun a => (Below.refl _ _).drew) Jst (factAt_stab hst) J0 H (fun vals w h1 h2 h3 => hQ vals w h1 h2 (fun i hi => h3 i (by omega)))
end

/-- A slice of values. -/
def RdVF (l : List Value) : Value → World → Prop := fun v w => RdV w v l
theorem RdVF.gr (l : List Value) : Stab GrR (RdVF l) := fun _ _ _ h k => h.mono k
/-- A new row. -/
def NewF (B e : Nat) (l : List Value) : Value → World → Prop := fun v w => ∃ h, v = .pointer (some ⟨h, 0, none⟩) ∧ B ≤ h ∧ RowV w h e l
theorem NewF.gr (B e : Nat) (l : List Value) : Stab GrR (NewF B e l) := fun _ _ _ ⟨h, h1, h2, h3⟩ k => ⟨h, h1, h2, h3.mono k⟩
theorem NewF.gb {B e g : Nat} (l : List Value) (hg : g < B) : Stab (GbR g) (NewF B e l) := fun _ _ _ ⟨h, h1, h2, h3⟩ k => ⟨h, h1, h2, h3.grown k (fun e => by simp at e; omega)⟩
theorem OwnF.gb {B e g : Nat} (l : List UInt8) (hg : g < B) : Stab (GbR g) (OwnF B e l) := fun v _ _ h k => by
  rcases h with ⟨rfl, rfl⟩ | ⟨g', sp, h1, rfl, hr, hm⟩
  · exact .inl ⟨rfl, rfl⟩
  · exact .inr ⟨g', sp, h1, rfl, hr.grown k (fun e => by simp at e; omega), hm⟩
theorem cell_gb {w w' : World} {g : Nat} (hb : GbR g w w') {a : Addr} {v : Value} (hc : w.cell? a = some v) (hg : a.block ≠ g) : w'.cell? a = some v :=
  (World.cell?_of_block (hb.block a.block (World.block_lt_of_cell? w a hc) (fun e => hg (by simp at e; exact e)))).trans hc
end Go.FL



namespace Go.FL

open Go.RowKit

/-- The blocks below B stand; a row from B on keeps its type and its length, and each of its cells, or it holds what Φ lets stand there. -/
structure GrS (B : Nat) (Φ : Nat → Value → Prop) (a b : World) : Prop where
  below : Below B a b
  shape : ∀ g e (l : List Value), B ≤ g → RowV a g e l → ∃ l', RowV b g e l' ∧ l'.length = l.length ∧ ∀ i : Nat, l'[i]? = l[i]? ∨ ∃ v, l'[i]? = some v ∧ Φ i v
theorem GrS.refl (B : Nat) (Φ : Nat → Value → Prop) (a : World) : GrS B Φ a a := ⟨Below.refl _ _, fun _ _ l _ h => ⟨l, h, rfl, fun _ => .inl rfl⟩⟩
theorem GrS.trans {B : Nat} {Φ : Nat → Value → Prop} {a b c : World} (h : GrS B Φ a b) (k : GrS B Φ b c) : GrS B Φ a c := by
  refine ⟨h.below.trans k.below, fun g e l hg hr => ?_⟩
  obtain ⟨l1, r1, n1, p1⟩ := h.shape g e l hg hr
  obtain ⟨l2, r2, n2, p2⟩ := k.shape g e l1 hg r1
  refine ⟨l2, r2, n2.trans n1, fun i => ?_⟩
  rcases p2 i with q | q
  · rcases p1 i with q1 | ⟨v, q1, q2⟩
    · exact .inl (q.trans q1)
    · exact .inr ⟨v, q.trans q1, q2⟩
  · exact .inr q
theorem GrS.of_gr {B : Nat} (Φ : Nat → Value → Prop) {a b : World} (hB : B ≤ a.heap.size) (h : GrR a b) : GrS B Φ a b :=
  ⟨h.mono hB, fun _ _ l _ hr => ⟨l, hr.mono h, rfl, fun _ => .inl rfl⟩⟩
theorem GrS.drew (B : Nat) (Φ : Nat → Value → Prop) (a : World) : GrS B Φ a a.drew := ⟨(Below.refl _ _).drew, fun _ _ l _ hr => ⟨l, hr.drew, rfl, fun _ => .inl rfl⟩⟩
theorem GrS.size {B : Nat} {Φ : Nat → Value → Prop} {a b : World} (h : GrS B Φ a b) : a.heap.size ≤ b.heap.size := h.below.size
theorem below_set {B : Nat} {w : World} {g i : Nat} {v : Value} (h : B ≤ g) : Below B w (w.setCell ⟨g, i, none⟩ v) :=
  ⟨rfl, rfl, rfl, by simp [World.setCell], fun k hk => Below.heap_setCell w _ v k (fun e => by have e' : k = g := e; omega)⟩
theorem rowV_fun {w : World} {g e e' : Nat} {l l' : List Value} (h : RowV w g e l) (h' : RowV w g e' l') : e = e' ∧ l = l' := by
  unfold RowV at h h'
  rw [h] at h'
  simp only [Option.some.injEq, Obj.cells.injEq] at h'
  refine ⟨h'.2.1, ?_⟩
  have := congrArg Array.toList h'.1
  simpa using this
theorem GrS.set {B : Nat} {Φ : Nat → Value → Prop} {a : World} {g i : Nat} {v : Value} (hB : B ≤ g) (hΦ : Φ i v) : GrS B Φ a (a.setCell ⟨g, i, none⟩ v) := by
  refine ⟨below_set hB, fun g' e' l' _ hr => ?_⟩
  by_cases hg : g' = g
  · subst hg
    refine ⟨l'.set i v, hr.store i v, by simp, fun j => ?_⟩
    by_cases hj : i = j
    · subst hj
      by_cases hl : i < l'.length
      · exact .inr ⟨v, by simp [hl], hΦ⟩
      · exact .inl (by simp [hl])
    · exact .inl (by simp [hj])
  · exact ⟨l', hr.other _ _ (fun e => hg e.symm), rfl, fun _ => .inl rfl⟩
theorem Is.gs (B : Nat) (Φ : Nat → Value → Prop) (v0 : Value) : Stab (GrS B Φ) (Is v0) := Is.stab _ _
theorem AnyF.gs (B : Nat) (Φ : Nat → Value → Prop) : Stab (GrS B Φ) AnyF := fun _ _ _ _ _ => trivial
/-- A new row of so many cells. -/
def ShF (B e n : Nat) : Value → World → Prop := fun v w => ∃ h l, v = .pointer (some ⟨h, 0, none⟩) ∧ B ≤ h ∧ RowV w h e l ∧ l.length = n
theorem ShF.gs (B : Nat) (Φ : Nat → Value → Prop) (e n : Nat) : Stab (GrS B Φ) (ShF B e n) := fun _ _ _ ⟨h, l, h1, h2, h3, h4⟩ k => by
  obtain ⟨l', r1, n1, -⟩ := k.shape h e l h2 h3
  exact ⟨h, l', h1, h2, r1, n1.trans h4⟩
/-- The region. -/
theorem wp_region_gs {P : Program} {Q : Exit → Act → World → Prop} {l : List Oper} {a0 : Act} {w0 : World} {id : Nat} (B : Nat) (Φ : Nat → Value → Prop) (L : List (Value → World → Prop)) (hm : P.follows .mixedOrders = true) (hds : dstsOk l a0.tmps.size = true) (hx : lexOk l = true)
    (hst : StabAll (GrS B Φ) L) (H : AllOps P (RhoAt a0 l) (GrS B Φ) (factAt L) (l.map (·.dst)) w0 l 0)
    (hQ : ∀ (vals : Nat → Value) (w : World), GrS B Φ w0 w → (∀ i, i < l.length → factAt L i (vals i) w) → Q .normal (fillFrom vals l 0 a0) w) : (Code.region id l.toArray true).wp P Q a0 w0 :=
  wp_region_grow hm hds hx (GrS.refl B Φ) (fun _ _ _ => GrS.trans) (GrS.drew B Φ) (factAt_stab hst) H hQ
theorem opOk_skipS {P : Program} {o : Oper} {ρ : Operand → Value} {w w' : World} {post : Value → World → Prop} (h : (execOp ρ o).run P w = .ok .skip w') (hp : post undef w') : opOk P o ρ w post := by
  unfold opOk
  rw [h]
  exact hp
end Go.FL



namespace Go.FL

open Go.RowKit

/-- Of the blocks of a those in S alone may have changed. -/
structure Chg (S : Nat → Prop) (a b : World) : Prop where
  os : b.os = a.os
  tape : b.tape = a.tape
  output : b.output = a.output
  size : a.heap.size ≤ b.heap.size
  block : ∀ k, k < a.heap.size → ¬ S k → b.heap[k]? = a.heap[k]?
theorem Chg.refl (S : Nat → Prop) (w : World) : Chg S w w := ⟨rfl, rfl, rfl, Nat.le_refl _, fun _ _ _ => rfl⟩
theorem Chg.trans {S : Nat → Prop} {a b c : World} (h : Chg S a b) (k : Chg S b c) : Chg S a c :=
  ⟨k.os.trans h.os, k.tape.trans h.tape, k.output.trans h.output, Nat.le_trans h.size k.size, fun i hi hs => (k.block i (Nat.lt_of_lt_of_le hi h.size) hs).trans (h.block i hi hs)⟩
/-- What follows may change new blocks too. -/
theorem Chg.then {S T : Nat → Prop} {a b c : World} (h : Chg S a b) (k : Chg T b c) (hT : ∀ i, i < a.heap.size → T i → S i) : Chg S a c :=
  ⟨k.os.trans h.os, k.tape.trans h.tape, k.output.trans h.output, Nat.le_trans h.size k.size, fun i hi hs => (k.block i (Nat.lt_of_lt_of_le hi h.size) (fun ht => hs (hT i hi ht))).trans (h.block i hi hs)⟩
theorem Chg.weak {S T : Nat → Prop} {a b : World} (h : Chg S a b) (hT : ∀ i, i < a.heap.size → S i → T i) : Chg T a b :=
  ⟨h.os, h.tape, h.output, h.size, fun i hi hs => h.block i hi (fun h' => hs (hT i hi h'))⟩
theorem Chg.of_gr {S : Nat → Prop} {a b : World} (h : Below a.heap.size a b) : Chg S a b := ⟨h.os, h.tape, h.output, h.size, fun k hk _ => h.block k hk⟩
theorem Chg.of_below {B : Nat} {a b : World} (h : Below B a b) : Chg (fun k => B ≤ k) a b := ⟨h.os, h.tape, h.output, h.size, fun k _ hs => h.block k (by omega)⟩
theorem Chg.of_grown {r : Option Nat} {a b : World} (h : a.grownBy b r) : Chg (fun k => r = some k) a b := ⟨h.os, h.tape, h.output, h.size, fun k hk hs => h.block k hk (fun e => hs e.symm)⟩
theorem Chg.below {S : Nat → Prop} {B : Nat} {a b : World} (h : Chg S a b) (hB : B ≤ a.heap.size) (hS : ∀ k, S k → B ≤ k) : Below B a b :=
  ⟨h.os, h.tape, h.output, h.size, fun k hk => h.block k (by omega) (fun hs => by have := hS k hs; omega)⟩
theorem Chg.drew {S : Nat → Prop} {a b : World} (h : Chg S a b) : Chg S a b.drew := ⟨h.os, h.tape, h.output, h.size, h.block⟩
theorem Chg.drewN {S : Nat → Prop} {a b : World} (h : Chg S a b) (n : Nat) : Chg S a (b.drewN n) := ⟨h.os, h.tape, h.output, h.size, h.block⟩
theorem Chg.alloc {S : Nat → Prop} {a b : World} (h : Chg S a b) (o : Obj) : Chg S a (b.alloc o) := h.trans (.of_gr ((Below.refl _ _).alloc (Nat.le_refl _) o))
theorem Chg.set {S : Nat → Prop} {a b : World} (h : Chg S a b) (p : Addr) (u : Value) (hp : S p.block ∨ a.heap.size ≤ p.block) : Chg S a (b.setCell p u) :=
  ⟨h.os, h.tape, h.output, Nat.le_trans h.size (by simp [World.setCell]), fun k hk hs => (Below.heap_setCell b p u k (fun e => by subst e; rcases hp with hp | hp; exact hs hp; omega)).trans (h.block k hk hs)⟩
theorem RowV.chg {S : Nat → Prop} {w w' : World} {g e : Nat} {l : List Value} (h : RowV w g e l) (hb : Chg S w w') (hg : ¬ S g) : RowV w' g e l := by
  have h0 := h.lt
  unfold RowV at *
  rw [hb.block g h0 hg, h]
theorem Row.chg {S : Nat → Prop} {w w' : World} {g e : Nat} {l : List UInt8} (h : Row w g e l) (hb : Chg S w w') (hg : ¬ S g) : Row w' g e l := by
  have h0 := h.lt
  unfold Row at *
  rw [hb.block g h0 hg, h]
theorem Own.chg {S : Nat → Prop} {w w' : World} {base e : Nat} {v : Value} {l : List UInt8} (h : Own w base e v l) (hb : Chg S w w') (hr : ∀ k, v.ownBlock = some k → ¬ S k) : Own w' base e v l := by
  rcases h with ⟨rfl, rfl⟩ | ⟨g, sp, h1, rfl, hg, hm⟩
  · exact .inl ⟨rfl, rfl⟩
  · exact .inr ⟨g, sp, h1, rfl, hg.chg hb (hr g (by simp [Value.ownBlock])), hm⟩
theorem cell_chg {S : Nat → Prop} {w w' : World} (hb : Chg S w w') {a : Addr} {v : Value} (hc : w.cell? a = some v) (hg : ¬ S a.block) : w'.cell? a = some v :=
  (World.cell?_of_block (hb.block a.block (World.block_lt_of_cell? w a hc) hg)).trans hc
theorem Rd.chg {S : Nat → Prop} {w w' : World} {v : Value} {l : List UInt8} (h : Rd w v l) (hb : Chg S w w') (hr : ∀ k, v.ownBlock = some k → ¬ S k) : Rd w' v l := by
  obtain ⟨p, c, rfl, h2, h3, h4, h5⟩ := h
  refine ⟨p, c, rfl, h2, h3, h4, fun j hj => ?_⟩
  obtain ⟨b, off, rfl, hc⟩ := h5 j hj
  exact ⟨b, off, rfl, cell_chg hb hc (hr b (by simp [Value.ownBlock]))⟩
end Go.FL

/- Joined: RowK, Chg, BodPairs, BodPutFwd, BodPutSack, BodPutInit. -/
import Derived.Test.YtfiblhdejglpaaaBaseA
import Derived.Test.YtfiblhdejglpaaaBaseC
import Derived.Test.YtfiblhdejglpaaaBaseB
import Derived.Test.YtfiblhdejglpaaaBodPuts
import Derived.Test.YtfiblhdejglpaaaBaseD
namespace Go.FL
open Go.RowKit

/-- The slice value v of n elements reads as these cells, one behind the other. -/
def RdK (w : World) (K : Nat) (v : Value) (n : Nat) (l : List Value) : Prop :=
  l.length = n * K ∧ ∃ p c, v = .slice p n c ∧ n ≤ c ∧ c ≤ maxLen ∧ (p = none → c = 0) ∧
    (∀ j (_ : j < l.length), ∃ b off, p = some ⟨b, off, none⟩ ∧ w.cell? ⟨b, off + j, none⟩ = some l[j])
theorem RdK.mono {w w' : World} {K n : Nat} {v : Value} {l : List Value} (h : RdK w K v n l) (hb : Below w.heap.size w w') : RdK w' K v n l := by
  obtain ⟨h0, p, c, h1, h2, h3, h4, h5⟩ := h
  exact ⟨h0, p, c, h1, h2, h3, h4, fun j hj => let ⟨b, off, e, hc⟩ := h5 j hj; ⟨b, off, e, cell?_of_below hb hc⟩⟩
theorem RdK.nil (w : World) (K : Nat) : RdK w K (.slice none 0 0) 0 [] := ⟨by simp, none, 0, rfl, Nat.le_refl _, Nat.zero_le _, fun _ => rfl, fun j h => by simp at h⟩

/-- v is a row of n elements of one's own, from block number base on; e: the element's type. -/
def OwnK (w : World) (base e K : Nat) (v : Value) (n : Nat) (l : List Value) : Prop :=
  l.length = n * K ∧ ((v = .slice none 0 0 ∧ n = 0) ∨
  ∃ g m sp, base ≤ g ∧ v = .slice (some ⟨g, 0, none⟩) n (n + m) ∧ List.length sp = m * K ∧ w.heap[g]? = some (.cells (l ++ sp).toArray e (0, 0)) ∧ n + m ≤ maxLen)
theorem OwnK.nil (w : World) (base e K : Nat) : OwnK w base e K (.slice none 0 0) 0 [] := ⟨by simp, .inl ⟨rfl, rfl⟩⟩
theorem OwnK.mono {w w' : World} {base e K n : Nat} {v : Value} {l : List Value} (h : OwnK w base e K v n l) (hb : Below w.heap.size w w') : OwnK w' base e K v n l := by
  obtain ⟨h0, ⟨rfl, rfl⟩ | ⟨g, m, sp, h1, rfl, h2, hr, hm⟩⟩ := h
  · exact ⟨h0, .inl ⟨rfl, rfl⟩⟩
  · exact ⟨h0, .inr ⟨g, m, sp, h1, rfl, h2, by rw [hb.block g (Array.getElem?_eq_some_iff.1 hr).1, hr], hm⟩⟩
theorem OwnK.ge {w : World} {base e K n : Nat} {v : Value} {l : List Value} (h : OwnK w base e K v n l) : ∀ k, v.ownBlock = some k → base ≤ k := by
  intro k hk
  obtain ⟨h0, ⟨rfl, rfl⟩ | ⟨g, m, sp, h1, rfl, h2, hr, hm⟩⟩ := h
  · simp [Value.ownBlock] at hk
  · simp [Value.ownBlock] at hk; omega
theorem OwnK.base {w : World} {base base' e K n : Nat} {v : Value} {l : List Value} (h : OwnK w base e K v n l) (hb : base' ≤ base) : OwnK w base' e K v n l := by
  obtain ⟨h0, ⟨rfl, rfl⟩ | ⟨g, m, sp, h1, rfl, h2, hr, hm⟩⟩ := h
  · exact ⟨h0, .inl ⟨rfl, rfl⟩⟩
  · exact ⟨h0, .inr ⟨g, m, sp, by omega, rfl, h2, hr, hm⟩⟩
theorem OwnK.rd {w : World} {base e K n : Nat} {v : Value} {l : List Value} (h : OwnK w base e K v n l) : RdK w K v n l := by
  obtain ⟨h0, ⟨rfl, rfl⟩ | ⟨g, m, sp, h1, rfl, h2, hr, hm⟩⟩ := h
  · refine ⟨h0, none, 0, rfl, Nat.le_refl _, Nat.zero_le _, fun _ => rfl, fun j h => ?_⟩
    rw [h0] at h
    omega
  · refine ⟨h0, _, _, rfl, by omega, hm, by simp, fun j hj => ⟨g, 0, rfl, ?_⟩⟩
    simp [World.cell?, hr]
    rw [List.getElem?_append_left hj, List.getElem?_eq_getElem hj]
theorem OwnK.grown {w w' : World} {base e K n : Nat} {v : Value} {l : List Value} {r : Option Nat} (h : OwnK w base e K v n l) (hb : w.grownBy w' r) (hr : ∀ k, v.ownBlock = some k → r ≠ some k) : OwnK w' base e K v n l := by
  obtain ⟨h0, ⟨rfl, rfl⟩ | ⟨g, m, sp, h1, rfl, h2, hg, hm⟩⟩ := h
  · exact ⟨h0, .inl ⟨rfl, rfl⟩⟩
  · refine ⟨h0, .inr ⟨g, m, sp, h1, rfl, h2, ?_, hm⟩⟩
    rw [hb.block g (Array.getElem?_eq_some_iff.1 hg).1 (fun e => hr g (by simp [Value.ownBlock]) e.symm), hg]

theorem rdK_new (w : World) (e K n : Nat) (l : List Value) (cs : Array Value) (hl : l.length = n * K) (hcs : cs = l.toArray) (hm : n ≤ maxLen) : RdK (w.alloc (.cells cs e (0, 0))) K (.slice (some ⟨w.heap.size, 0, none⟩) n n) n l := by
  subst hcs
  have : OwnK (w.alloc (.cells l.toArray e (0, 0))) 0 e K (.slice (some ⟨w.heap.size, 0, none⟩) n n) n l := ⟨hl, .inr ⟨w.heap.size, 0, [], Nat.zero_le _, rfl, by simp, by simpa using heap_alloc_new w _, by simpa using hm⟩⟩
  exact this.rd

theorem zeroCells_len (z : Array Value) (n : Nat) : (Builtin.zeroCells z n).toList.length = n * z.size := by simp [Builtin.zeroCells]

/-- 'append(v, x...)': v a row of one's own, x k elements more, 0 of them too. -/
theorem run_append_OwnK {P : Program} (w : World) (base : Nat) (t ty e : TypeId) (z : Value) (K B : Nat) (hz : z.cells.size = K) (hK : 0 < K) (ht : P.underlying t = some (.slice e)) (hi : (P.info? e).map (fun i => (i.zero, i.size, i.bytes)) = some (some z, K, B))
    (v x : Value) (n k : Nat) (l m : List Value) (h1m : ∀ u ∈ m, u.oneCell' = true) (hown : OwnK w base e K v n l) (hx : RdK w K x k m) (hlen : (n + k) * B ≤ 140737488355328) (hlen2 : n + k ≤ 140737488355328) (hbase : base ≤ w.heap.size) :
    ∃ v' w', (Builtin.append_ #[t, t] ty #[v, x]).run P w = .ok v' w' ∧ OwnK w' base e K v' (n + k) (l ++ m) ∧ w.grownBy w' v.ownBlock := by
  obtain ⟨i, h1, h2, h3, h4⟩ : ∃ i, P.info? e = some i ∧ i.zero = some z ∧ i.size = K ∧ i.bytes = B := by
    cases hq : P.info? e with
    | none => simp [hq] at hi
    | some i => simp [hq] at hi; exact ⟨i, rfl, hi.1, hi.2.1, hi.2.2⟩
  by_cases hk0 : k = 0
  · subst hk0
    obtain ⟨hxl, p, c, rfl, hmc, hcm, hpn, hcell0⟩ := hx
    have hm0 : m = [] := List.length_eq_zero_iff.1 (by rw [hxl]; simp)
    subst hm0
    refine ⟨v, w, ?_, by simpa using hown, ⟨rfl, rfl, rfl, Nat.le_refl _, fun _ _ _ => rfl⟩⟩
    have hle : ∃ vp vn vc, v = .slice vp vn vc ∧ vn ≤ vc := by
      obtain ⟨_, ⟨rfl, rfl⟩ | ⟨g, m, sp, _, rfl, _, _, _⟩⟩ := hown
      · exact ⟨none, 0, 0, rfl, Nat.le_refl _⟩
      · exact ⟨_, _, _, rfl, by omega⟩
    obtain ⟨vp, vn, vc, rfl, hle⟩ := hle
    cases p <;> cases vp <;> simp [Builtin.append_, run_underlying ht, sizeOf, typeInfo, h1, Builtin.lenOf, Builtin.firstCells, loadCells, loadCellsFrom, hle, storeCells]
  have hpos : 0 < k := by omega
  obtain ⟨hxl, p, c, rfl, hmc, hcm, _, hcell0⟩ := hx
  have hmpos : 0 < m.length := by rw [hxl]; exact Nat.mul_pos hpos hK
  obtain ⟨b, off, rfl, _⟩ := hcell0 0 hmpos
  have hnews : ∀ j u, m[j]? = some u → w.cell? ((⟨b, off, none⟩ : Addr).add j) = some u := by
    intro j u hu
    obtain ⟨hj, rfl⟩ := List.getElem?_eq_some_iff.1 hu
    obtain ⟨b', off', e', hc⟩ := hcell0 j hj
    simp at e'
    obtain ⟨rfl, rfl⟩ := e'
    rw [Addr.add_lit]
    exact hc
  have hnl : m.length = k * i.size := by rw [h3, hxl]
  have grown : l.length = n * K → ∀ (old : Nat), old < n + k → ∀ (row : Option Nat),
      OwnK (w.drew.alloc (.cells (l.toArray ++ m.toArray ++ Builtin.zeroCells z.cells (grownCap w (n + k) old e - (n + k))) e)) base e K
        (.slice (some ⟨w.heap.size, 0, none⟩) (n + k) (grownCap w (n + k) old e)) (n + k) (l ++ m) ∧
      w.grownBy (w.drew.alloc (.cells (l.toArray ++ m.toArray ++ Builtin.zeroCells z.cells (grownCap w (n + k) old e - (n + k))) e)) row := by
    intro hl old _ row
    have hge := grownCap_ge w (n + k) old e
    have hcm' : grownCap w (n + k) old e ≤ maxLen := grownCap_le_maxLen w (n + k) old e (by unfold maxLen; omega)
    refine ⟨⟨by rw [List.length_append, hl, hxl, Nat.add_mul], .inr ⟨w.heap.size, grownCap w (n + k) old e - (n + k), (Builtin.zeroCells z.cells (grownCap w (n + k) old e - (n + k))).toList, hbase, ?_, ?_, ?_, ?_⟩⟩, ⟨rfl, rfl, rfl, by simp, fun k hk _ => Below.heap_alloc w.drew _ k hk⟩⟩
    · rw [show n + k + (grownCap w (n + k) old e - (n + k)) = grownCap w (n + k) old e by omega]
    · rw [zeroCells_len, hz]
    · have hcs : l.toArray ++ m.toArray ++ Builtin.zeroCells z.cells (grownCap w (n + k) old e - (n + k)) = (l ++ m ++ (Builtin.zeroCells z.cells (grownCap w (n + k) old e - (n + k))).toList).toArray := by
        apply Array.ext'
        simp only [Array.toList_append]
      rw [hcs]
      exact heap_alloc_new w.drew _
    · omega
  obtain ⟨hl, ⟨rfl, rfl⟩ | ⟨g, mm, sp, hbg, rfl, hsp, hrow, hcap⟩⟩ := hown
  · have hl0 : l = [] := List.length_eq_zero_iff.1 (by rw [hl]; simp)
    subst hl0
    have hr := run_append_nil (P := P) w t ty e i z ht h1 h2 ⟨b, off, none⟩ k c m hnl hnews hpos (by omega) (by rw [h4]; simp at hlen; omega)
    have hgr := grown hl 0 (by omega) (Value.ownBlock (.slice none 0 0))
    simp only [Nat.zero_add, List.nil_append, Array.empty_append] at hgr ⊢
    exact ⟨_, _, hr, hgr.1, hgr.2⟩
  · by_cases hroom : n + k ≤ n + mm
    · have hkm : k * K ≤ mm * K := Nat.mul_le_mul_right _ (by omega)
      have hr := run_append_room (P := P) w t ty e i ht h1 g n (n + mm) (l ++ sp).toArray hrow ⟨b, off, none⟩ k c m hnl hnews h1m hroom (by rw [h3]; simp [hl, hsp, hxl]; omega)
      refine ⟨_, _, hr, ⟨by rw [List.length_append, hl, hxl, Nat.add_mul], .inr ⟨g, mm - k, sp.drop m.length, hbg, ?_, ?_, ?_, ?_⟩⟩, ⟨rfl, rfl, rfl, by simp, fun k _ hk => setRow_other w g k _ (fun e => hk (by simp [Value.ownBlock, e]))⟩⟩
      · rw [show n + k + (mm - k) = n + mm by omega]
      · rw [List.length_drop, hsp, hxl, Nat.sub_mul]
      · have hcs : (List.take (n * i.size) (l ++ sp).toArray.toList ++ m ++ List.drop (n * i.size + m.length) (l ++ sp).toArray.toList) = l ++ m ++ sp.drop m.length := by
          simp only [h3]
          rw [← hl, List.take_append_of_le_length (by omega), List.take_of_length_le (by omega), List.drop_append]
          simp
        rw [hcs]
        exact setRow_heap w g _ _ e _ hrow
      · omega
    · have holds : ∀ j u, l[j]? = some u → w.cell? ((⟨g, 0, none⟩ : Addr).add j) = some u := by
        intro j u hu
        obtain ⟨hj, rfl⟩ := List.getElem?_eq_some_iff.1 hu
        rw [Addr.add_lit, Nat.zero_add]
        simp [World.cell?, hrow, List.getElem_append_left hj, show j < l.length + sp.length by omega]
      have hr := run_append_grow (P := P) w t ty e i z ht h1 h2 ⟨g, 0, none⟩ n (n + mm) l (by rw [h3, hl]) holds ⟨b, off, none⟩ k c m hnl hnews (by omega) (by omega) (growslice_fits (by omega) (by rw [h4]; omega))
      have hgr := grown hl (n + mm) (by omega) (Value.ownBlock (.slice (some ⟨g, 0, none⟩) n (n + mm)))
      exact ⟨_, _, hr, hgr.1, hgr.2⟩

/-- The same as a step of the walk. -/
theorem wpList_append_OwnK {P : Program} {w : World} {ops : Array Oper} {rest : List Oper} {o : Oper} {a : Act} {Q : Exit → Act → World → Prop} (hgd : o.guard = none) (s x : Operand) (t : TypeId)
    (ho : o.op = .call { callee := .builtin .append, args := #[s, x], argTypes := #[t, t] })
    (base e : Nat) (z : Value) (K B : Nat) (hz : z.cells.size = K) (hK : 0 < K) (ht : P.underlying t = some (.slice e)) (hi : (P.info? e).map (fun i => (i.zero, i.size, i.bytes)) = some (some z, K, B))
    (v u : Value) (n k : Nat) (l m : List Value) (h1m : ∀ u ∈ m, u.oneCell' = true) (hs : a.eval s = v) (hown : OwnK w base e K v n l) (hx : a.eval x = u) (hrd : RdK w K u k m) (hlen : (n + k) * B ≤ 140737488355328) (hlen2 : n + k ≤ 140737488355328) (hbase : base ≤ w.heap.size)
    (h : ∀ v' w', OwnK w' base e K v' (n + k) (l ++ m) → w.grownBy w' v.ownBlock → wpList P ops Q rest (a.put o.dst v') w') : wpList P ops Q (o :: rest) a w := by
  refine wpList_plain hgd fun K' hK' => ?_
  obtain ⟨v', w', hr, h2, h3⟩ := run_append_OwnK (P := P) w base t o.type e z K B hz hK ht hi v u n k l m h1m hown hrd hlen hlen2 hbase
  unfold Oper.wp execOp
  simp only [ho, resolve, invoke, builtin, Sem.run_bind, Sem.run_pure, Result.andThen_ok, List.map_toArray, List.map_cons, List.map_nil, hs, hx, hr]
  exact hK' _ _ (h v' w' h2 h3)
end Go.FL

namespace Go.FL
open Go.RowKit

/-- Of the blocks of a those in S alone may have changed. -/
structure Chg (S : Nat → Prop) (a b : World) : Prop where
  os : b.os = a.os
  tape : b.tape = a.tape
  output : b.output = a.output
  size : a.heap.size ≤ b.heap.size
  block : ∀ k, k < a.heap.size → ¬ S k → b.heap[k]? = a.heap[k]?
theorem Chg.refl (S : Nat → Prop) (w : World) : Chg S w w := ⟨rfl, rfl, rfl, Nat.le_refl _, fun _ _ _ => rfl⟩
theorem Chg.trans {S : Nat → Prop} {a b c : World} (h : Chg S a b) (k : Chg S b c) : Chg S a c :=
  ⟨k.os.trans h.os, k.tape.trans h.tape, k.output.trans h.output, Nat.le_trans h.size k.size, fun i hi hs => (k.block i (Nat.lt_of_lt_of_le hi h.size) hs).trans (h.block i hi hs)⟩
/-- What follows may change new blocks too. -/
theorem Chg.then {S T : Nat → Prop} {a b c : World} (h : Chg S a b) (k : Chg T b c) (hT : ∀ i, i < a.heap.size → T i → S i) : Chg S a c :=
  ⟨k.os.trans h.os, k.tape.trans h.tape, k.output.trans h.output, Nat.le_trans h.size k.size, fun i hi hs => (k.block i (Nat.lt_of_lt_of_le hi h.size) (fun ht => hs (hT i hi ht))).trans (h.block i hi hs)⟩
theorem Chg.weak {S T : Nat → Prop} {a b : World} (h : Chg S a b) (hT : ∀ i, i < a.heap.size → S i → T i) : Chg T a b :=
  ⟨h.os, h.tape, h.output, h.size, fun i hi hs => h.block i hi (fun h' => hs (hT i hi h'))⟩
theorem Chg.of_gr {S : Nat → Prop} {a b : World} (h : Below a.heap.size a b) : Chg S a b := ⟨h.os, h.tape, h.output, h.size, fun k hk _ => h.block k hk⟩
theorem Chg.of_below {B : Nat} {a b : World} (h : Below B a b) : Chg (fun k => B ≤ k) a b := ⟨h.os, h.tape, h.output, h.size, fun k _ hs => h.block k (by omega)⟩
theorem Chg.of_grown {r : Option Nat} {a b : World} (h : a.grownBy b r) : Chg (fun k => r = some k) a b := ⟨h.os, h.tape, h.output, h.size, fun k hk hs => h.block k hk (fun e => hs e.symm)⟩
theorem Chg.below {S : Nat → Prop} {B : Nat} {a b : World} (h : Chg S a b) (hB : B ≤ a.heap.size) (hS : ∀ k, S k → B ≤ k) : Below B a b :=
  ⟨h.os, h.tape, h.output, h.size, fun k hk => h.block k (by omega) (fun hs => by have := hS k hs; omega)⟩
theorem Chg.drew {S : Nat → Prop} {a b : World} (h : Chg S a b) : Chg S a b.drew := ⟨h.os, h.tape, h.output, h.size, h.block⟩
theorem Chg.drewN {S : Nat → Prop} {a b : World} (h : Chg S a b) (n : Nat) : Chg S a (b.drewN n) := ⟨h.os, h.tape, h.output, h.size, h.block⟩
theorem Chg.alloc {S : Nat → Prop} {a b : World} (h : Chg S a b) (o : Obj) : Chg S a (b.alloc o) := h.trans (.of_gr ((Below.refl _ _).alloc (Nat.le_refl _) o))
theorem Chg.set {S : Nat → Prop} {a b : World} (h : Chg S a b) (p : Addr) (u : Value) (hp : S p.block ∨ a.heap.size ≤ p.block) : Chg S a (b.setCell p u) :=
  ⟨h.os, h.tape, h.output, Nat.le_trans h.size (by simp [World.setCell]), fun k hk hs => (Below.heap_setCell b p u k (fun e => by subst e; rcases hp with hp | hp; exact hs hp; omega)).trans (h.block k hk hs)⟩
theorem RowV.chg {S : Nat → Prop} {w w' : World} {g e : Nat} {l : List Value} (h : RowV w g e l) (hb : Chg S w w') (hg : ¬ S g) : RowV w' g e l := by
  have h0 := h.lt
  unfold RowV at *
  rw [hb.block g h0 hg, h]
theorem Row.chg {S : Nat → Prop} {w w' : World} {g e : Nat} {l : List UInt8} (h : Row w g e l) (hb : Chg S w w') (hg : ¬ S g) : Row w' g e l := by
  have h0 := h.lt
  unfold Row at *
  rw [hb.block g h0 hg, h]
theorem Own.chg {S : Nat → Prop} {w w' : World} {base e : Nat} {v : Value} {l : List UInt8} (h : Own w base e v l) (hb : Chg S w w') (hr : ∀ k, v.ownBlock = some k → ¬ S k) : Own w' base e v l := by
  rcases h with ⟨rfl, rfl⟩ | ⟨g, sp, h1, rfl, hg, hm⟩
  · exact .inl ⟨rfl, rfl⟩
  · exact .inr ⟨g, sp, h1, rfl, hg.chg hb (hr g (by simp [Value.ownBlock])), hm⟩
theorem cell_chg {S : Nat → Prop} {w w' : World} (hb : Chg S w w') {a : Addr} {v : Value} (hc : w.cell? a = some v) (hg : ¬ S a.block) : w'.cell? a = some v :=
  (World.cell?_of_block (hb.block a.block (World.block_lt_of_cell? w a hc) hg)).trans hc
theorem Rd.chg {S : Nat → Prop} {w w' : World} {v : Value} {l : List UInt8} (h : Rd w v l) (hb : Chg S w w') (hr : ∀ k, v.ownBlock = some k → ¬ S k) : Rd w' v l := by
  obtain ⟨p, c, rfl, h2, h3, h4, h5⟩ := h
  refine ⟨p, c, rfl, h2, h3, h4, fun j hj => ?_⟩
  obtain ⟨b, off, rfl, hc⟩ := h5 j hj
  exact ⟨b, off, rfl, cell_chg hb hc (hr b (by simp [Value.ownBlock]))⟩
end Go.FL

namespace Go.FL
open Go.RowKit
def pairV (g : Nat × Nat) : List Value := [.int .u16 (g.1 : Int), .int .u16 (g.2 : Int)]
def pairsV (l : List (Nat × Nat)) : List Value := (l.map pairV).flatten
theorem pairsV_length (l : List (Nat × Nat)) : (pairsV l).length = l.length * 2 := by
  induction l with
  | nil => rfl
  | cons g l ih =>
    show (pairV g ++ pairsV l).length = _
    rw [List.length_append, ih, List.length_cons]
    show 2 + _ = _
    omega
theorem pairsV_append (l m : List (Nat × Nat)) : pairsV (l ++ m) = pairsV l ++ pairsV m := by simp [pairsV]
theorem pairsV_one (l : List (Nat × Nat)) : ∀ u ∈ pairsV l, u.oneCell' = true := by
  intro u hu
  simp only [pairsV, List.mem_flatten, List.mem_map] at hu
  obtain ⟨_, ⟨g, _, rfl⟩, hu⟩ := hu
  simp only [pairV, List.mem_cons, List.not_mem_nil, or_false] at hu
  rcases hu with rfl | rfl <;> rfl
theorem pairsV_at : ∀ (l : List (Nat × Nat)) (j : Nat) (h : j < l.length), (pairsV l)[j * 2]? = some (.int .u16 (l[j].1 : Int)) ∧ (pairsV l)[j * 2 + 1]? = some (.int .u16 (l[j].2 : Int))
  | g :: l, 0, _ => ⟨rfl, rfl⟩
  | g :: l, j + 1, h => by
    have := pairsV_at l j (by simpa using h)
    have e : pairsV (g :: l) = .int .u16 (g.1 : Int) :: .int .u16 (g.2 : Int) :: pairsV l := rfl
    rw [e, show (j + 1) * 2 = j * 2 + 1 + 1 by omega]
    simpa using this
/-- The slice v reads as these pairs, two cells each. -/
def RdP (w : World) (v : Value) (l : List (Nat × Nat)) : Prop :=
  ∃ p c, v = .slice p l.length c ∧ l.length ≤ c ∧ c ≤ maxLen ∧ (p = none → c = 0) ∧ ∀ j (_ : j < l.length), ∃ b off, p = some ⟨b, off, none⟩ ∧ w.cell? ⟨b, off + j * 2, none⟩ = some (.int .u16 (l[j].1 : Int)) ∧ w.cell? ⟨b, off + j * 2 + 1, none⟩ = some (.int .u16 (l[j].2 : Int))
theorem RdP.mono {w w' : World} {v : Value} {l : List (Nat × Nat)} (h : RdP w v l) (hb : Below w.heap.size w w') : RdP w' v l := by
  obtain ⟨p, c, h1, h2, h3, h4, h5⟩ := h
  refine ⟨p, c, h1, h2, h3, h4, fun j hj => ?_⟩
  obtain ⟨b, off, e, c0, c1⟩ := h5 j hj
  exact ⟨b, off, e, cell?_of_below hb c0, cell?_of_below hb c1⟩
theorem RdP.nil (w : World) : RdP w (.slice none 0 0) [] := ⟨none, 0, rfl, Nat.le_refl _, Nat.zero_le _, fun _ => rfl, fun j h => by simp at h⟩
theorem RdK.pairs {w : World} {v : Value} {l : List (Nat × Nat)} (h : RdK w 2 v l.length (pairsV l)) : RdP w v l := by
  obtain ⟨h0, p, c, h1, h2, h3, h4, h5⟩ := h
  refine ⟨p, c, h1, h2, h3, h4, fun j hj => ?_⟩
  obtain ⟨e0, e1⟩ := pairsV_at l j hj
  have hl := pairsV_length l
  obtain ⟨b, off, rfl, c0⟩ := h5 (j * 2) (by omega)
  obtain ⟨b', off', hp, c1⟩ := h5 (j * 2 + 1) (by omega)
  simp only [Option.some.injEq, Addr.mk.injEq, and_true] at hp
  obtain ⟨rfl, rfl⟩ := hp
  refine ⟨b, off, rfl, ?_, ?_⟩
  · rw [c0, ← List.getElem?_eq_getElem, e0]
  · rw [show off + j * 2 + 1 = off + (j * 2 + 1) by omega, c1, ← List.getElem?_eq_getElem, e1]
/-- v is a row of pairs of one's own. -/
def OwnP (w : World) (base e : Nat) (v : Value) (l : List (Nat × Nat)) : Prop := OwnK w base e 2 v l.length (pairsV l)
theorem OwnP.rd {w : World} {base e : Nat} {v : Value} {l : List (Nat × Nat)} (h : OwnP w base e v l) : RdP w v l := RdK.pairs (OwnK.rd h)
theorem OwnP.nil (w : World) (base e : Nat) : OwnP w base e (.slice none 0 0) [] := OwnK.nil w base e 2
/-- A new row, as a slice. -/
def NewSF (B e n : Nat) (l : List Value) : Value → World → Prop := fun v w => ∃ h, v = .slice (some ⟨h, 0, none⟩) n n ∧ B ≤ h ∧ RowV w h e l
theorem NewSF.gb {B e n g : Nat} (l : List Value) (hg : g < B) : Stab (GbR g) (NewSF B e n l) := fun _ _ _ ⟨h, h1, h2, h3⟩ k => ⟨h, h1, h2, h3.grown k (fun e => by simp at e; omega)⟩
theorem RowV.rdK {w : World} {h e n K : Nat} {l : List Value} (hr : RowV w h e l) (hl : l.length = n * K) (hn : n ≤ maxLen) : RdK w K (.slice (some ⟨h, 0, none⟩) n n) n l :=
  OwnK.rd (base := h) (e := e) ⟨hl, .inr ⟨h, 0, [], Nat.le_refl _, rfl, by simp, by unfold RowV at hr; simpa using hr, by simpa using hn⟩⟩
theorem OwnP.keep {w w' : World} {base e : Nat} {v : Value} {l : List (Nat × Nat)} {r : Option Nat} (h : OwnP w base e v l) (hb : w.grownBy w' r) (hr : ∀ k, v.ownBlock = some k → r ≠ some k) : OwnP w' base e v l := OwnK.grown h hb hr
theorem OwnP.mono {w w' : World} {base e : Nat} {v : Value} {l : List (Nat × Nat)} (h : OwnP w base e v l) (hb : Below w.heap.size w w') : OwnP w' base e v l := OwnK.mono h hb
theorem OwnP.ge {w : World} {base e : Nat} {v : Value} {l : List (Nat × Nat)} (h : OwnP w base e v l) : ∀ k, v.ownBlock = some k → base ≤ k := OwnK.ge h
theorem OwnP.form {w : World} {base e : Nat} {v : Value} {l : List (Nat × Nat)} (h : OwnP w base e v l) : ∃ p c, v = .slice p l.length c ∧ c ≤ maxLen := by
  obtain ⟨p, c, h1, h2, h3, h4, h5⟩ := h.rd
  exact ⟨p, c, h1, h3⟩
end Go.FL

namespace Go.FL
open Go.RowKit
def FwdAt (w : World) (v : Value) (f : FwdD) : Prop := ∃ s, v = .agg #[.int .u32 (f.cum : Int), s] ∧ RdP w s f.skips
theorem FwdAt.mono {w w' : World} {v : Value} {f : FwdD} (h : FwdAt w v f) (hb : Below w.heap.size w w') : FwdAt w' v f := by
  obtain ⟨s, h1, h2⟩ := h
  exact ⟨s, h1, h2.mono hb⟩
def FwdD.wf (f : FwdD) : Prop := f.cum < 4294967296 ∧ pairsWf f.skips
theorem gaps_step (l : List (Nat × Nat)) (j : Nat) (h : j < l.length) : gapsBytes (l.take (j + 1)) = gapsBytes (l.take j) ++ catBE 2 [l[j].1, l[j].2] := by
  rw [List.take_succ_eq_append_getElem h, gapsBytes_append]
  simp [gapsBytes, gapBytes, catBE]
end Go.FL
namespace Go.Proofs.Ytfiblhdejglpaaa
open Go.RowKit Go.FL Go.ChangeShapes

theorem putFwd_ret {a : Act} {W : World} {g : Nat} {R : Ending → World → Prop} (v0 v1 v2 : Value) (h2 : a.tmps.getD 2 undef = .pointer (some ⟨g, 0, none⟩)) (hd : a.defers = [])
    (hc : RowV W g 28 [v0, v1, v2]) (hR : R (.returned (.agg #[v0, v1, v2])) W) : bodyPost Try.prog Try.f29 R .ret a W := by
  refine bodyPost_ret (v := .agg #[v0, v1, v2]) ?_ hd hR
  obtain ⟨c0, c1, c2⟩ := RowV.three hc
  simp only [Array.getD_eq_getD_getElem?] at h2
  simp [results, Try.results29, go_sem, h2, asAddr, c0, c1, c2]

set_option maxRecDepth 100000 in
set_option maxHeartbeats 4000000 in
theorem putFwd_any (v : Value) (d : FwdD) (hw : d.wf) (w : World) (h : FwdAt w v d) (hl : d.skips.length ≤ 1000000) :
    Calls Try.prog 29 #[v] w (RetChk w 5 d.chk) := by
  obtain ⟨s, rfl, hrd⟩ := h
  have HV := hid hrd
  obtain ⟨p, c, rfl, hlc, hcm, hpn, hcell⟩ := hrd
  unfold maxLen at hcm
  clear hcell
  show Calls _ _ _ _ (RetChk w 5 ⟨192, 0, beBytes 4 d.cum ++ gapsBytes d.skips⟩)
  obtain ⟨hcu, hpw⟩ := hw
  have HPW := hid hpw
  obtain ⟨cum, l⟩ := d
  simp only at *
  clear hpw
  have hw1 := wrap64_nat cum (by omega)
  obtain ⟨W0, hW0⟩ : ∃ W0, W0 = w.alloc (.cells #[.int .u32 (cum : Int), .slice p l.length c] 49 (0, 0)) := ⟨_, rfl⟩
  have hs0 : W0.heap.size = w.heap.size + 1 := by rw [hW0]; simp
  obtain ⟨W, hW⟩ : ∃ W, W = W0.alloc (.cells #[.int .u8 0, .int .u8 0, .slice none 0 0] 28 (0, 0)) := ⟨_, rfl⟩
  have hs1 : W.heap.size = w.heap.size + 2 := by rw [hW]; simp [hs0]
  have HR := hid (show RowV W w.heap.size 49 [.int .u32 (cum : Int), .slice p l.length c] by rw [hW, hW0]; exact (RowV.new w 49 _).alloc _)
  have HQ := hid (show RowV W (w.heap.size + 1) 28 [.int .u8 0, .int .u8 0, .slice none 0 0] by rw [hW, ← hs0]; exact RowV.new W0 28 _)
  have G0 := hid (show Below w.heap.size w W by rw [hW, hW0]; exact ((Below.refl _ _).alloc (Nat.le_refl _) _).alloc (by simp) _)
  rw [hW0] at hW
  have HE := hid hW
  clear hW hW0 hs0
  go_enter Try.func29, Try.ntmps29
  go_wp2_with fail
  rw [← HE.out, ← hs1]
  refine (bput_new _ [] 4 _ rfl (by omega) [cum] W _ 1 rfl rfl (Rd.nil _) (by simp; omega) (by simp) (by simp) (by simp)).mono ?_
  rintro e w1 ⟨v1, rfl, ho1, hb1⟩
  rw [show [] ++ catBE 4 [cum] = beBytes 4 cum by simp [catBE]] at ho1
  obtain ⟨b4, hb4⟩ : ∃ x, x = beBytes 4 cum := ⟨_, rfl⟩
  rw [← hb4] at ho1
  have HB4 := hid hb4
  have HL4 := hid (show b4.length = 4 by rw [hb4, beBytes_length])
  have HO1 := hid ho1
  obtain ⟨p1, c1, rfl, -, -, -, -⟩ := ho1.rd
  have HR1 := hid (HR.out.mono hb1)
  have HQ1 := hid (HQ.out.mono hb1)
  have G1 := hid (gr_trans G0.out hb1)
  have hsW := hb1.size
  have k1 := HR1.out.at 1 (by simp)
  simp only [List.getElem_cons_succ, List.getElem_cons_zero] at k1
  rw [HL4.out] at HO1 ⊢
  clear ho1 hb1 hb4
  go_wp2_with fail
  go_loopw [3, 5, 14] (fun o x y wr => ∃ (j : Nat) (z : Option Addr) (cc : Nat), j ≤ l.length ∧ y = .int .i64 (j : Int) ∧ o = .slice z (4 + 4 * j) cc ∧ Hid (Own wr W.heap.size 5 o (b4 ++ gapsBytes (l.take j))) ∧ Hid (Below w1.heap.size w1 wr)) (fun _ _ y _ => l.length - (intOf y).toNat)
  case atStart => exact ⟨0, p1, c1, Nat.zero_le _, rfl, rfl, hid (by simpa [gapsBytes] using HO1.out), hid (Below.refl _ _)⟩
  case round =>
    obtain ⟨j, z, cc, hj, rfl, rfl, HO, HB⟩ := hrel
    by_cases hlt : j < l.length
    · have HVr := hid (HV.out.mono (gr_trans G1.out HB.out))
      obtain ⟨pp, ccc, hpe, -, -, -, hcel⟩ := HVr.out
      simp only [Value.slice.injEq] at hpe
      obtain ⟨rfl, -, rfl⟩ := hpe
      obtain ⟨bb, off, rfl, d0, d1⟩ := hcel j hlt
      obtain ⟨n1, n2⟩ := HPW.out _ (List.getElem_mem hlt)
      have HST := hid (gaps_step l j hlt)
      have HLJ := hid (show (b4 ++ gapsBytes (l.take j)).length = 4 + 4 * j by rw [List.length_append, gapsBytes_length, List.length_take, Nat.min_eq_left hj, HL4.out])
      generalize l[j] = gj at *
      obtain ⟨ga, gb⟩ := gj
      simp only at d0 d1 n1 n2 HST
      have hwa := wrap64_nat ga (by omega)
      have hwb := wrap64_nat gb (by omega)
      have i0 : (0 : Int) ≤ (j : Int) := by omega
      have i1 : (j : Int) < (l.length : Int) := by omega
      have i2 : ((j : Int)).toNat = j := by omega
      obtain ⟨W5, hW5⟩ : ∃ W5, W5 = wr.alloc (.cells #[.int .u16 (ga : Int), .int .u16 (gb : Int)] 101 (0, 0)) := ⟨_, rfl⟩
      have hs5 : W5.heap.size = wr.heap.size + 1 := by rw [hW5]; simp
      have g5 : Below wr.heap.size wr W5 := by rw [hW5]; exact (Below.refl _ _).alloc (Nat.le_refl _) _
      have HO5 := hid (HO.out.mono g5)
      have HB5 := hid (gr_trans HB.out g5)
      have HE5 := hid hW5
      clear hcel hW5 g5 k1
      go_wp2_with fail
      rw [← HE5.out, ← hs5]
      refine (bput_new _ (b4 ++ gapsBytes (l.take j)) 2 _ rfl (by omega) [ga, gb] W5 _ 2 rfl rfl HO5.out.rd (by simp; omega) (by simp) (by simp) (by rw [HLJ.out]; omega)).mono ?_
      rintro e w2 ⟨v2, rfl, ho2, hb2⟩
      rw [List.append_assoc, ← HST.out] at ho2
      have HO2 := hid (ho2.base (Nat.le_trans hsW HB5.out.size))
      have HB2 := hid (gr_trans HB5.out hb2)
      obtain ⟨z1, c3, rfl, -, -, -, -⟩ := ho2.rd
      have hln : (b4 ++ gapsBytes (l.take (j + 1))).length = 4 + 4 * (j + 1) := by rw [List.length_append, gapsBytes_length, List.length_take, Nat.min_eq_left (by omega), HL4.out]
      rw [hln] at HO2 ⊢
      clear ho2 hb2 d0 d1 hln
      go_wp2_with fail
      go_roundw
      case rel => exact ⟨j + 1, z1, c3, by omega, by go_num, rfl, HO2, HB2⟩
      case measure => simp [intOf]; omega
    · obtain rfl : j = l.length := by omega
      have hOf := HO.out
      rw [List.take_length] at hOf
      have HOF := hid hOf
      have HQr := hid (HQ1.out.mono HB.out)
      have Gr := hid (gr_trans G1.out HB.out)
      obtain ⟨q0, q1, q2⟩ := HQr.out.three
      have f0 := HQr.out.frozen 0
      have f1 := HQr.out.frozen 1
      have f2 := HQr.out.frozen 2
      clear hOf k1
      go_wp2_with fail
      refine putFwd_ret (.int .u8 192) (.int .u8 0) _ rfl rfl (((HQr.out.store 0 _).store 1 _).store 2 _) ⟨_, rfl, ?_, ((Gr.out.setCell (by simp) _).setCell (by simp) _).setCell (by simp) _⟩
      show Own _ _ _ _ (beBytes 4 cum ++ gapsBytes l)
      rw [← HB4.out]
      exact (HOF.out.keep (r := some (w.heap.size + 1)) (gb_set (gb_set (gb_set (gb_refl _ _) 0 _) 1 _) 2 _) (fun k hk e => by have := HOF.out.ge k hk; simp at e; omega)).base (by omega)
end Go.Proofs.Ytfiblhdejglpaaa

namespace Go.FL
open Go.RowKit
def SackAt (w : World) (v : Value) (s : SackD) : Prop := ∃ sg sd, v = .agg #[.int .u32 (s.cum : Int), .int .u32 (s.rwnd : Int), sg, sd] ∧ RdP w sg s.gaps ∧ RdV w sd (s.dups.map fun x : Nat => Value.int .u32 (x : Int))
theorem SackAt.mono {w w' : World} {v : Value} {s : SackD} (h : SackAt w v s) (hb : Below w.heap.size w w') : SackAt w' v s := by
  obtain ⟨sg, sd, h1, h2, h3⟩ := h
  exact ⟨sg, sd, h1, h2.mono hb, h3.mono hb⟩
def SackD.wf (s : SackD) : Prop := s.cum < 4294967296 ∧ s.rwnd < 4294967296 ∧ pairsWf s.gaps ∧ numsWf s.dups
theorem cat_step (l : List Nat) (j : Nat) (h : j < l.length) : catBE 4 (l.take (j + 1)) = catBE 4 (l.take j) ++ catBE 4 [l[j]] := by
  rw [List.take_succ_eq_append_getElem h, catBE_append]
theorem RdV.nums {w : World} {v : Value} {l : List Nat} (h : RdV w v (l.map fun x : Nat => Value.int .u32 (x : Int))) : ∃ p c, v = .slice p l.length c ∧ l.length ≤ c ∧ c ≤ maxLen ∧ ∀ j (_ : j < l.length), ∃ b off, p = some ⟨b, off, none⟩ ∧ w.cell? ⟨b, off + j, none⟩ = some (.int .u32 (l[j] : Int)) := by
  obtain ⟨p, c, h1, h2, h3, h4, h5⟩ := h
  rw [List.length_map] at h1 h2
  refine ⟨p, c, h1, h2, h3, fun j hj => ?_⟩
  obtain ⟨b, off, e, hc⟩ := h5 j (by simpa using hj)
  exact ⟨b, off, e, by simpa using hc⟩
end Go.FL
namespace Go.Proofs.Ytfiblhdejglpaaa
open Go.RowKit Go.FL Go.ChangeShapes

theorem putSack_ret {a : Act} {W : World} {g : Nat} {R : Ending → World → Prop} (v0 v1 v2 : Value) (h2 : a.tmps.getD 2 undef = .pointer (some ⟨g, 0, none⟩)) (hd : a.defers = [])
    (hc : RowV W g 28 [v0, v1, v2]) (hR : R (.returned (.agg #[v0, v1, v2])) W) : bodyPost Try.prog Try.f24 R .ret a W := by
  refine bodyPost_ret (v := .agg #[v0, v1, v2]) ?_ hd hR
  obtain ⟨c0, c1, c2⟩ := RowV.three hc
  simp only [Array.getD_eq_getD_getElem?] at h2
  simp [results, Try.results24, go_sem, h2, asAddr, c0, c1, c2]

set_option maxRecDepth 100000 in
set_option maxHeartbeats 4000000 in
theorem putSack_any (v : Value) (d : SackD) (hw : d.wf) (w : World) (h : SackAt w v d) (hl : d.gaps.length ≤ 1000000) (hl2 : d.dups.length ≤ 1000000) :
    Calls Try.prog 24 #[v] w (RetChk w 5 d.chk) := by
  obtain ⟨sg, sd, rfl, hrd, hrd2⟩ := h
  have HV := hid hrd
  have HU := hid hrd2
  obtain ⟨p, c, rfl, hlc, hcm, hpn, hcell⟩ := hrd
  obtain ⟨q, cq, rfl, hlq, hcq, hcelq⟩ := hrd2.nums
  unfold maxLen at hcm hcq
  clear hcell hcelq hrd2
  have HBD := hid (show d.body = (beBytes 4 d.cum ++ beBytes 4 d.rwnd ++ (beBytes 2 d.gaps.length ++ beBytes 2 d.dups.length)) ++ gapsBytes d.gaps ++ catBE 4 d.dups by simp [SackD.body, SackD.head])
  show Calls _ _ _ _ (RetChk w 5 ⟨3, 0, d.body⟩)
  obtain ⟨hcu, hrw, hpw, hnw⟩ := hw
  have HPW := hid hpw
  have HNW := hid hnw
  rw [HBD.out]
  obtain ⟨cum, rwnd, l, m⟩ := d
  simp only at *
  clear hpw hnw HBD
  have W1 := hid (wrap64_nat cum (by omega))
  have W2 := hid (wrap64_nat rwnd (by omega))
  obtain ⟨ng, hng⟩ : ∃ n, n = l.length := ⟨_, rfl⟩
  obtain ⟨nd, hnd⟩ : ∃ n, n = m.length := ⟨_, rfl⟩
  have HNG := hid hng
  have HND := hid hnd
  have W3 := hid (wrap64_nat ng (by omega))
  have W4 := hid (wrap64_nat nd (by omega))
  rw [← hng] at HV hl hlc ⊢
  rw [← hnd] at HU hl2 hlq ⊢
  obtain ⟨b8, hb8⟩ : ∃ x, x = beBytes 4 cum ++ beBytes 4 rwnd := ⟨_, rfl⟩
  have HL8 := hid (show b8.length = 8 by rw [hb8]; simp [beBytes_length])
  obtain ⟨b12, hb12⟩ : ∃ x, x = b8 ++ (beBytes 2 ng ++ beBytes 2 nd) := ⟨_, rfl⟩
  have HL12 := hid (show b12.length = 12 by rw [hb12]; simp [HL8.out, beBytes_length])
  rw [← hb8, ← hb12]
  have HB8 := hid (show [] ++ catBE 4 [cum, rwnd] = b8 by rw [hb8]; simp [catBE])
  have HB12 := hid (show b8 ++ catBE 2 [ng, nd] = b12 by rw [hb12]; simp [catBE])
  clear hb8 hb12 hng hnd
  obtain ⟨W0, hW0⟩ : ∃ W0, W0 = w.alloc (.cells #[.int .u32 (cum : Int), .int .u32 (rwnd : Int), .slice p ng c, .slice q nd cq] 45 (0, 0)) := ⟨_, rfl⟩
  have hs0 : W0.heap.size = w.heap.size + 1 := by rw [hW0]; simp
  obtain ⟨W, hW⟩ : ∃ W, W = W0.alloc (.cells #[.int .u8 0, .int .u8 0, .slice none 0 0] 28 (0, 0)) := ⟨_, rfl⟩
  have hs1 : W.heap.size = w.heap.size + 2 := by rw [hW]; simp [hs0]
  have HR := hid (show RowV W w.heap.size 45 [.int .u32 (cum : Int), .int .u32 (rwnd : Int), .slice p ng c, .slice q nd cq] by rw [hW, hW0]; exact (RowV.new w 45 _).alloc _)
  have HQ := hid (show RowV W (w.heap.size + 1) 28 [.int .u8 0, .int .u8 0, .slice none 0 0] by rw [hW, ← hs0]; exact RowV.new W0 28 _)
  have G0 := hid (show Below w.heap.size w W by rw [hW, hW0]; exact ((Below.refl _ _).alloc (Nat.le_refl _) _).alloc (by simp) _)
  rw [hW0] at hW
  have HE := hid hW
  clear hW hW0 hs0
  have K0 := hid (HR.out.at 0 (by simp))
  have K1 := hid (HR.out.at 1 (by simp))
  have K2 := hid (HR.out.at 2 (by simp))
  have K3 := hid (HR.out.at 3 (by simp))
  simp only [List.getElem_cons_succ, List.getElem_cons_zero] at K0 K1 K2 K3
  go_enter Try.func24, Try.ntmps24
  go_wp2_with fail
  rw [← HE.out]
  refine wp_region_gr [Is (.pointer (some ⟨w.heap.size, 0, none⟩)), Is (.int .u32 (cum : Int)), Is (.int .u64 (cum : Int)), Is (.pointer (some ⟨w.heap.size, 1, none⟩)), Is (.int .u32 (rwnd : Int)), Is (.int .u64 (rwnd : Int)), RdVF [.int .u64 (cum : Int), .int .u64 (rwnd : Int)], OwnF W.heap.size 5 b8, Is (.pointer (some ⟨w.heap.size, 2, none⟩)), Is (.slice p ng c), Is (.int .i64 ((ng : Nat) : Int)), Is (.int .u64 (ng : Int)), Is (.pointer (some ⟨w.heap.size, 3, none⟩)), Is (.slice q nd cq), Is (.int .i64 ((nd : Nat) : Int)), Is (.int .u64 (nd : Int)), RdVF [.int .u64 (ng : Int), .int .u64 (nd : Int)], OwnF W.heap.size 5 b12, OwnF W.heap.size 5 b12] (by kernel_rfl) (by kernel_rfl) (by kernel_rfl) ?_ ?_ ?_
  · simp only [StabAll, Is.gr, RdF.gr, OwnF.gr, AnyF.gr, RdVF.gr, and_self]
  · rename_i Kk hKk; clear hKk Kk
    simp only [AllOps, List.map_cons, List.map_nil, depsOf, List.filterMap_cons, List.filterMap_nil, Region.binds, depFacts, guardF, reduceIte, List.getD_eq_getElem?_getD, List.getElem?_cons_succ, List.getElem?_cons_zero, Option.getD_some, factAt, and_true]
    refine ⟨?_, ?_, ?_, ?_, ?_, ?_, ?_, ?_, ?_, ?_, ?_, ?_, ?_, ?_, ?_, ?_, ?_, ?_, ?_⟩
    all_goals intro ρ wv hρ hR hd
    all_goals try simp only [Is] at hd
    · exact opOk_val (v := .pointer (some ⟨w.heap.size, 0, none⟩)) (w' := wv) (by simp [execOp, go_sem, hρ.1.const, hρ.1.func, hd, (hρ.2 1 rfl)]) ⟨rfl, GrR.refl _⟩
    · (have h0 := cell?_of_below hR K0.out; exact opOk_val (v := .int .u32 (cum : Int)) (w' := wv) (by simp [execOp, go_sem, hd, h0]) ⟨rfl, GrR.refl _⟩)
    · exact opOk_val (v := .int .u64 (cum : Int)) (w' := wv) (by simp [execOp, go_sem, hρ.1.const, hρ.1.func, hd, W1.out]) ⟨rfl, GrR.refl _⟩
    · exact opOk_val (v := .pointer (some ⟨w.heap.size, 1, none⟩)) (w' := wv) (by simp [execOp, go_sem, hρ.1.const, hρ.1.func, hd, (hρ.2 1 rfl)]) ⟨rfl, GrR.refl _⟩
    · (have h0 := cell?_of_below hR K1.out; exact opOk_val (v := .int .u32 (rwnd : Int)) (w' := wv) (by simp [execOp, go_sem, hd, h0]) ⟨rfl, GrR.refl _⟩)
    · exact opOk_val (v := .int .u64 (rwnd : Int)) (w' := wv) (by simp [execOp, go_sem, hρ.1.const, hρ.1.func, hd, W2.out]) ⟨rfl, GrR.refl _⟩
    · exact opOk_val (v := .slice (some ⟨wv.heap.size, 0, none⟩) 2 2) (w' := wv.alloc (.cells #[.int .u64 (cum : Int), .int .u64 (rwnd : Int)] 86 (0, 0))) (by simp [execOp, go_sem, hρ.1.const, hd]) ⟨rdV_new wv 86 [.int .u64 (cum : Int), .int .u64 (rwnd : Int)] 2 _ rfl rfl (by unfold maxLen; omega), (Below.refl _ _).alloc (Nat.le_refl _) _⟩
    · exact opOk_call hρ.1 rfl rfl Try.func48 (by kernel_rfl) rfl (by simp [hd, hρ.1.const]) ((bput_any _ _ [] 4 _ rfl (by omega) [cum, rwnd] _ (Rd.nil _) hd (by simp; omega) (by simp) (by simp) (by simp)).mono fun e w' ⟨v', h1, h2, h3⟩ => ⟨v', h1, by rw [HB8.out] at h2; exact h2.base hR.size, h3⟩)
    · exact opOk_val (v := .pointer (some ⟨w.heap.size, 2, none⟩)) (w' := wv) (by simp [execOp, go_sem, hρ.1.const, hρ.1.func, hd, (hρ.2 1 rfl)]) ⟨rfl, GrR.refl _⟩
    · (have h0 := cell?_of_below hR K2.out; exact opOk_val (v := .slice p ng c) (w' := wv) (by simp [execOp, go_sem, hd, h0]) ⟨rfl, GrR.refl _⟩)
    · exact opOk_len rfl _ Try.underlying42 _ (ng) _ (by first | exact hρ.2 _ rfl | exact hd | exact hd.1 | exact hd.2 | simp [hd]) ⟨rfl, GrR.refl _⟩
    · exact opOk_val (v := .int .u64 (ng : Int)) (w' := wv) (by simp [execOp, go_sem, hρ.1.const, hρ.1.func, hd, W3.out]) ⟨rfl, GrR.refl _⟩
    · exact opOk_val (v := .pointer (some ⟨w.heap.size, 3, none⟩)) (w' := wv) (by simp [execOp, go_sem, hρ.1.const, hρ.1.func, hd, (hρ.2 1 rfl)]) ⟨rfl, GrR.refl _⟩
    · (have h0 := cell?_of_below hR K3.out; exact opOk_val (v := .slice q nd cq) (w' := wv) (by simp [execOp, go_sem, hd, h0]) ⟨rfl, GrR.refl _⟩)
    · exact opOk_len rfl _ Try.underlying43 _ (nd) _ (by first | exact hρ.2 _ rfl | exact hd | exact hd.1 | exact hd.2 | simp [hd]) ⟨rfl, GrR.refl _⟩
    · exact opOk_val (v := .int .u64 (nd : Int)) (w' := wv) (by simp [execOp, go_sem, hρ.1.const, hρ.1.func, hd, W4.out]) ⟨rfl, GrR.refl _⟩
    · exact opOk_val (v := .slice (some ⟨wv.heap.size, 0, none⟩) 2 2) (w' := wv.alloc (.cells #[.int .u64 (ng : Int), .int .u64 (nd : Int)] 86 (0, 0))) (by simp [execOp, go_sem, hρ.1.const, hd]) ⟨rdV_new wv 86 [.int .u64 (ng : Int), .int .u64 (nd : Int)] 2 _ rfl rfl (by unfold maxLen; omega), (Below.refl _ _).alloc (Nat.le_refl _) _⟩
    · exact opOk_call hρ.1 rfl rfl Try.func48 (by kernel_rfl) rfl (by simp [hd, hρ.1.const]) ((bput_any _ _ b8 2 _ rfl (by omega) [ng, nd] _ hd.1.rd hd.2.1 (by simp; omega) (by simp) (by simp) (by rw [HL8.out]; omega)).mono fun e w' ⟨v', h1, h2, h3⟩ => ⟨v', h1, by rw [HB12.out] at h2; exact h2.base hR.size, h3⟩)
    · exact opOk_move (.inr rfl) ⟨(by first | exact hd | exact hd.1), GrR.refl _⟩
  · intro vals wv hR hall
    have h18 := hall 18 (by simp)
    simp only [factAt, OwnF, List.getD_eq_getElem?_getD, List.getElem?_cons_succ, List.getElem?_cons_zero, Option.getD_some] at h18
    clear hall
    obtain ⟨p1, c1, hv1, -, -, -, -⟩ := h18.rd
    simp only [fillFrom, Act.put, hv1, List.setIfInBounds_toArray, List.set_cons_zero, List.set_cons_succ, Nat.zero_add, Nat.reduceAdd]
    rw [hv1] at h18
    have HO1 := hid h18
    rename_i Kk hKk
    refine hKk _ _ ?_
    obtain ⟨w1, hw1⟩ : ∃ x, x = wv := ⟨_, rfl⟩
    subst hw1
    clear hKk Kk hv1 h18
    have HR1 := hid (HR.out.mono hR)
    have HQ1 := hid (HQ.out.mono hR)
    have G1 := hid (gr_trans G0.out hR)
    have hsW := hR.size
    have k2 := HR1.out.at 2 (by simp)
    simp only [List.getElem_cons_succ, List.getElem_cons_zero] at k2
    rw [HL12.out] at HO1 ⊢
    clear hR K0 K1 K2 K3
    go_wp2_with fail
    go_loopw [3, 5, 29] (fun o x y wr => ∃ (j : Nat) (z : Option Addr) (cc : Nat), j ≤ ng ∧ y = .int .i64 (j : Int) ∧ o = .slice z (12 + 4 * j) cc ∧ Hid (Own wr W.heap.size 5 o (b12 ++ gapsBytes (l.take j))) ∧ Hid (Below w1.heap.size w1 wr)) (fun _ _ y _ => ng - (intOf y).toNat)
    case atStart => exact ⟨0, p1, c1, Nat.zero_le _, rfl, rfl, hid (by simpa [gapsBytes] using HO1.out), hid (Below.refl _ _)⟩
    case round =>
      obtain ⟨j, z, cc, hj, rfl, rfl, HO, HB⟩ := hrel
      by_cases hlt : j < ng
      · have HVr := hid (HV.out.mono (gr_trans G1.out HB.out))
        obtain ⟨pp, ccc, hpe, -, -, -, hcel⟩ := HVr.out
        simp only [Value.slice.injEq] at hpe
        obtain ⟨rfl, -, rfl⟩ := hpe
        have hltl : j < l.length := by rw [← HNG.out]; exact hlt
        obtain ⟨bb, off, rfl, d0, d1⟩ := hcel j hltl
        obtain ⟨n1, n2⟩ := HPW.out _ (List.getElem_mem hltl)
        have HST := hid (gaps_step l j hltl)
        have HLJ := hid (show (b12 ++ gapsBytes (l.take j)).length = 12 + 4 * j by rw [List.length_append, gapsBytes_length, List.length_take, Nat.min_eq_left (by omega), HL12.out])
        have HLK := hid (show (b12 ++ gapsBytes (l.take (j + 1))).length = 12 + 4 * (j + 1) by rw [List.length_append, gapsBytes_length, List.length_take, Nat.min_eq_left (by omega), HL12.out])
        generalize l[j] = gj at *
        obtain ⟨ga, gb⟩ := gj
        simp only at d0 d1 n1 n2 HST
        have hwa := wrap64_nat ga (by omega)
        have hwb := wrap64_nat gb (by omega)
        have i0 : (0 : Int) ≤ (j : Int) := by omega
        have i1 : (j : Int) < (ng : Int) := by omega
        have i2 : ((j : Int)).toNat = j := by omega
        obtain ⟨W5, hW5⟩ : ∃ W5, W5 = wr.alloc (.cells #[.int .u16 (ga : Int), .int .u16 (gb : Int)] 80 (0, 0)) := ⟨_, rfl⟩
        have hs5 : W5.heap.size = wr.heap.size + 1 := by rw [hW5]; simp
        have g5 : Below wr.heap.size wr W5 := by rw [hW5]; exact (Below.refl _ _).alloc (Nat.le_refl _) _
        have HO5 := hid (HO.out.mono g5)
        have HB5 := hid (gr_trans HB.out g5)
        have HE5 := hid hW5
        clear hcel hW5 g5 k2 hltl
        go_wp2_with fail
        rw [← HE5.out, ← hs5]
        refine (bput_new _ (b12 ++ gapsBytes (l.take j)) 2 _ rfl (by omega) [ga, gb] W5 _ 2 rfl rfl HO5.out.rd (by simp; omega) (by simp) (by simp) (by rw [HLJ.out]; omega)).mono ?_
        rintro e w2 ⟨v2, rfl, ho2, hb2⟩
        rw [List.append_assoc, ← HST.out] at ho2
        have HO2 := hid (ho2.base (Nat.le_trans hsW HB5.out.size))
        have HB2 := hid (gr_trans HB5.out hb2)
        obtain ⟨z1, c3, rfl, -, -, -, -⟩ := ho2.rd
        rw [HLK.out] at HO2 ⊢
        clear ho2 hb2 d0 d1
        go_wp2_with fail
        go_roundw
        case rel => exact ⟨j + 1, z1, c3, by omega, by go_num, rfl, HO2, HB2⟩
        case measure => simp [intOf]; omega
      · obtain rfl : j = ng := by omega
        obtain ⟨wo, hwo⟩ : ∃ x, x = wr := ⟨_, rfl⟩
        subst hwo
        have hOf := HO.out
        rw [HNG.out, List.take_length, ← HNG.out] at hOf
        obtain ⟨bg, hbg⟩ : ∃ x, x = b12 ++ gapsBytes l := ⟨_, rfl⟩
        rw [← hbg] at hOf
        have HBG := hid hbg
        have HLG := hid (show bg.length = 12 + 4 * j by rw [hbg, List.length_append, gapsBytes_length, HL12.out, HNG.out])
        have HOF := hid hOf
        have HQr := hid (HQ1.out.mono HB.out)
        have HRr := hid (HR1.out.mono HB.out)
        have Gr := hid (gr_trans G1.out HB.out)
        have hsR := Nat.le_trans hsW HB.out.size
        have k3 := HRr.out.at 3 (by simp)
        simp only [List.getElem_cons_succ, List.getElem_cons_zero] at k3
        clear hOf hbg k2 HO
        go_wp2_with fail
        go_loopw [3, 7, 46] (fun o x y ws => ∃ (i : Nat) (z : Option Addr) (cc : Nat), i ≤ nd ∧ y = .int .i64 (i : Int) ∧ o = .slice z (12 + 4 * j + 4 * i) cc ∧ Hid (Own ws W.heap.size 5 o (bg ++ catBE 4 (m.take i))) ∧ Hid (Below wo.heap.size wo ws)) (fun _ _ y _ => nd - (intOf y).toNat)
        case atStart => exact ⟨0, z, cc, Nat.zero_le _, rfl, rfl, hid (by simpa [catBE] using HOF.out), hid (Below.refl _ _)⟩
        case round =>
          obtain ⟨i, z2, cc2, hi, rfl, rfl, HO2, HB2⟩ := hrel
          by_cases hlt2 : i < nd
          · obtain ⟨pp, ccc, hpe, -, -, hcel⟩ := (HU.out.mono (gr_trans Gr.out HB2.out)).nums
            rw [← HND.out] at hpe
            simp only [Value.slice.injEq] at hpe
            obtain ⟨rfl, -, rfl⟩ := hpe
            have hltl : i < m.length := by rw [← HND.out]; exact hlt2
            obtain ⟨bb, off, rfl, d0⟩ := hcel i hltl
            have n1 := HNW.out _ (List.getElem_mem hltl)
            have HST := hid (cat_step m i hltl)
            have HLJ := hid (show (bg ++ catBE 4 (m.take i)).length = 12 + 4 * j + 4 * i by rw [List.length_append, catBE_length, List.length_take, Nat.min_eq_left (by omega), HLG.out])
            have HLK := hid (show (bg ++ catBE 4 (m.take (i + 1))).length = 12 + 4 * j + 4 * (i + 1) by rw [List.length_append, catBE_length, List.length_take, Nat.min_eq_left (by omega), HLG.out])
            generalize m[i] = mi at *
            have hwa := wrap64_nat mi (by omega)
            have i0 : (0 : Int) ≤ (i : Int) := by omega
            have i1 : (i : Int) < (nd : Int) := by omega
            have i2 : ((i : Int)).toNat = i := by omega
            clear hcel hltl k3
            go_wp2_with fail
            refine (bput_new _ (bg ++ catBE 4 (m.take i)) 4 _ rfl (by omega) [mi] wr _ 1 rfl rfl HO2.out.rd (by simp; omega) (by simp) (by simp) (by rw [HLJ.out]; omega)).mono ?_
            rintro e w3 ⟨v3, rfl, ho3, hb3⟩
            rw [List.append_assoc, ← HST.out] at ho3
            have HO3 := hid (ho3.base (Nat.le_trans hsR HB2.out.size))
            have HB3 := hid (gr_trans HB2.out hb3)
            obtain ⟨z3, c3, rfl, -, -, -, -⟩ := ho3.rd
            rw [HLK.out] at HO3 ⊢
            clear ho3 hb3 d0
            go_wp2_with fail
            go_roundw
            case rel => exact ⟨i + 1, z3, c3, by omega, by go_num, rfl, HO3, HB3⟩
            case measure => simp [intOf]; omega
          · obtain rfl : i = nd := by omega
            have hOg := HO2.out
            rw [HND.out, List.take_length, ← HND.out] at hOg
            have HOG := hid hOg
            have HQs := hid (HQr.out.mono HB2.out)
            have Gs := hid (gr_trans Gr.out HB2.out)
            obtain ⟨q0, q1, q2⟩ := HQs.out.three
            have f0 := HQs.out.frozen 0
            have f1 := HQs.out.frozen 1
            have f2 := HQs.out.frozen 2
            clear hOg k3 HO2
            go_wp2_with fail
            refine putSack_ret (.int .u8 3) (.int .u8 0) _ rfl rfl (((HQs.out.store 0 _).store 1 _).store 2 _) ⟨_, rfl, ?_, ((Gs.out.setCell (by simp) _).setCell (by simp) _).setCell (by simp) _⟩
            show Own _ _ _ _ (b12 ++ gapsBytes l ++ catBE 4 m)
            rw [← HBG.out]
            exact (HOG.out.keep (r := some (w.heap.size + 1)) (gb_set (gb_set (gb_set (gb_refl _ _) 0 _) 1 _) 2 _) (fun k hk e => by have := HOG.out.ge k hk; simp at e; omega)).base (show w.heap.size ≤ W.heap.size by omega)
end Go.Proofs.Ytfiblhdejglpaaa

namespace Go.FL
open Go.RowKit
def InitAt (w : World) (v : Value) (i : InitD) : Prop := ∃ s, v = .agg #[.int .u32 (i.tag : Int), .int .u32 (i.rwnd : Int), .int .u16 (i.out : Int), .int .u16 (i.in_ : Int), .int .u32 (i.tsn : Int), s] ∧ Rd w s i.ck
theorem InitAt.mono {w w' : World} {v : Value} {i : InitD} (h : InitAt w v i) (hb : Below w.heap.size w w') : InitAt w' v i := by
  obtain ⟨s, h1, h2⟩ := h
  exact ⟨s, h1, h2.mono hb⟩
end Go.FL
namespace Go.Proofs.Ytfiblhdejglpaaa
open Go.RowKit Go.FL Go.ChangeShapes

theorem putInit_ret {a : Act} {W : World} {g : Nat} {R : Ending → World → Prop} (v0 v1 v2 : Value) (h2 : a.tmps.getD 4 undef = .pointer (some ⟨g, 0, none⟩)) (hd : a.defers = [])
    (hc : RowV W g 28 [v0, v1, v2]) (hR : R (.returned (.agg #[v0, v1, v2])) W) : bodyPost Try.prog Try.f42 R .ret a W := by
  refine bodyPost_ret (v := .agg #[v0, v1, v2]) ?_ hd hR
  obtain ⟨c0, c1, c2⟩ := RowV.three hc
  simp only [Array.getD_eq_getD_getElem?] at h2
  simp [results, Try.results42, go_sem, h2, asAddr, c0, c1, c2]

theorem getInit1_ret {a : Act} {W : World} {g : Nat} {R : Ending → World → Prop} (v0 v1 v2 : Value) (h2 : a.tmps.getD 3 undef = .pointer (some ⟨g, 0, none⟩)) (hd : a.defers = [])
    (hc : RowV W g 28 [v0, v1, v2]) (hR : R (.returned (.agg #[v0, v1, v2])) W) : bodyPost Try.prog Try.f67 R .ret a W := by
  refine bodyPost_ret (v := .agg #[v0, v1, v2]) ?_ hd hR
  obtain ⟨c0, c1, c2⟩ := RowV.three hc
  simp only [Array.getD_eq_getD_getElem?] at h2
  simp [results, Try.results67, go_sem, h2, asAddr, c0, c1, c2]

set_option maxRecDepth 100000 in
set_option maxHeartbeats 4000000 in
theorem putInit_any (kind : UInt8) (v : Value) (d : InitD) (hw : d.wf) (w : World) (h : InitAt w v d) (hl : d.ck.length ≤ 1000000) :
    Calls Try.prog 42 #[.int .u8 (kind.toNat : Int), v] w (RetChk w 5 (d.chk kind)) := by
  obtain ⟨s, rfl, hrd⟩ := h
  have HV := hid hrd
  obtain ⟨p, c, rfl, hlc, hcm, hpn, hcell⟩ := hrd
  unfold maxLen at hcm
  clear hcell
  show Calls _ _ _ _ (RetChk w 5 ⟨kind, 0, d.body kind⟩)
  have HBD := hid (show d.body kind = if kind = 2 then padded ((beBytes 4 d.tag ++ beBytes 4 d.rwnd ++ (beBytes 2 d.out ++ beBytes 2 d.in_) ++ beBytes 4 d.tsn) ++ (beBytes 2 7 ++ beBytes 2 (4 + d.ck.length)) ++ d.ck) else (beBytes 4 d.tag ++ beBytes 4 d.rwnd ++ (beBytes 2 d.out ++ beBytes 2 d.in_) ++ beBytes 4 d.tsn) by simp [InitD.body, InitD.more, InitD.head])
  obtain ⟨g1, g2, g3, g4, g5⟩ := hw
  rw [HBD.out]
  obtain ⟨tag, rwnd, out, in_, tsn, b⟩ := d
  simp only at *
  clear HBD
  have W1 := hid (wrap64_nat tag (by omega))
  have W2 := hid (wrap64_nat rwnd (by omega))
  have W3 := hid (wrap64_nat out (by omega))
  have W4 := hid (wrap64_nat in_ (by omega))
  have w5 := wrap64_nat tsn (by omega)
  obtain ⟨n, hn⟩ : ∃ n, n = b.length := ⟨_, rfl⟩
  have HN := hid hn
  rw [← hn] at HV hl hlc ⊢
  have w6 := wrap64_nat (4 + n) (by omega)
  obtain ⟨b8, hb8⟩ : ∃ x, x = beBytes 4 tag ++ beBytes 4 rwnd := ⟨_, rfl⟩
  have HL8 := hid (show b8.length = 8 by rw [hb8]; simp [beBytes_length])
  rw [← hb8]
  obtain ⟨b12, hb12⟩ : ∃ x, x = b8 ++ (beBytes 2 out ++ beBytes 2 in_) := ⟨_, rfl⟩
  have HL12 := hid (show b12.length = 12 by rw [hb12]; simp [HL8.out, beBytes_length])
  rw [← hb12]
  obtain ⟨b16, hb16⟩ : ∃ x, x = b12 ++ beBytes 4 tsn := ⟨_, rfl⟩
  have HL16 := hid (show b16.length = 16 by rw [hb16]; simp [HL12.out, beBytes_length])
  rw [← hb16]
  obtain ⟨b20, hb20⟩ : ∃ x, x = b16 ++ (beBytes 2 7 ++ beBytes 2 (4 + n)) := ⟨_, rfl⟩
  have HL20 := hid (show b20.length = 20 by rw [hb20]; simp [HL16.out, beBytes_length])
  rw [← hb20]
  have HB8 := hid (show [] ++ catBE 4 [tag, rwnd] = b8 by rw [hb8]; simp [catBE])
  have HB12 := hid (show b8 ++ catBE 2 [out, in_] = b12 by rw [hb12]; simp [catBE])
  have HB16 := hid (show b12 ++ catBE 4 [tsn] = b16 by rw [hb16]; simp [catBE])
  have HB20 := hid (show b16 ++ catBE 2 [7, 4 + n] = b20 by rw [hb20]; simp [catBE])
  obtain ⟨bl, hbl⟩ : ∃ x, x = (if kind = 2 then padded (b20 ++ b) else b16) := ⟨_, rfl⟩
  rw [← hbl]
  have HBL := hid hbl
  clear hb8 hb12 hb16 hb20 hn hbl
  obtain ⟨W0, hW0⟩ : ∃ W0, W0 = w.alloc (.cells #[.int .u32 (tag : Int), .int .u32 (rwnd : Int), .int .u16 (out : Int), .int .u16 (in_ : Int), .int .u32 (tsn : Int), .slice p n c] 70 (0, 0)) := ⟨_, rfl⟩
  have hs0 : W0.heap.size = w.heap.size + 1 := by rw [hW0]; simp
  obtain ⟨W, hW⟩ : ∃ W, W = W0.alloc (.cells #[.int .u8 0, .int .u8 0, .slice none 0 0] 28 (0, 0)) := ⟨_, rfl⟩
  have hs1 : W.heap.size = w.heap.size + 2 := by rw [hW]; simp [hs0]
  have HR := hid (show RowV W w.heap.size 70 [.int .u32 (tag : Int), .int .u32 (rwnd : Int), .int .u16 (out : Int), .int .u16 (in_ : Int), .int .u32 (tsn : Int), .slice p n c] by rw [hW, hW0]; exact (RowV.new w 70 _).alloc _)
  have HQ := hid (show RowV W (w.heap.size + 1) 28 [.int .u8 0, .int .u8 0, .slice none 0 0] by rw [hW, ← hs0]; exact RowV.new W0 28 _)
  have G0 := hid (show Below w.heap.size w W by rw [hW, hW0]; exact ((Below.refl _ _).alloc (Nat.le_refl _) _).alloc (by simp) _)
  rw [hW0] at hW
  have HE := hid hW
  clear hW hW0 hs0
  have K0 := hid (HR.out.at 0 (by simp))
  have K1 := hid (HR.out.at 1 (by simp))
  have K2 := hid (HR.out.at 2 (by simp))
  have K3 := hid (HR.out.at 3 (by simp))
  simp only [List.getElem_cons_succ, List.getElem_cons_zero] at K0 K1 K2 K3
  have hkb := byte_lt kind
  go_enter Try.func42, Try.ntmps42
  go_wp2_with fail
  rw [← HE.out]
  refine wp_region_gr [Is (.pointer (some ⟨w.heap.size, 0, none⟩)), Is (.int .u32 (tag : Int)), Is (.int .u64 (tag : Int)), Is (.pointer (some ⟨w.heap.size, 1, none⟩)), Is (.int .u32 (rwnd : Int)), Is (.int .u64 (rwnd : Int)), RdVF [.int .u64 (tag : Int), .int .u64 (rwnd : Int)], OwnF W.heap.size 5 b8, Is (.pointer (some ⟨w.heap.size, 2, none⟩)), Is (.int .u16 (out : Int)), Is (.int .u64 (out : Int)), Is (.pointer (some ⟨w.heap.size, 3, none⟩)), Is (.int .u16 (in_ : Int)), Is (.int .u64 (in_ : Int)), RdVF [.int .u64 (out : Int), .int .u64 (in_ : Int)], OwnF W.heap.size 5 b12, OwnF W.heap.size 5 b12] (by kernel_rfl) (by kernel_rfl) (by kernel_rfl) ?_ ?_ ?_
  · simp only [StabAll, Is.gr, RdF.gr, OwnF.gr, AnyF.gr, RdVF.gr, and_self]
  · rename_i Kk hKk; clear hKk Kk
    simp only [AllOps, List.map_cons, List.map_nil, depsOf, List.filterMap_cons, List.filterMap_nil, Region.binds, depFacts, guardF, reduceIte, List.getD_eq_getElem?_getD, List.getElem?_cons_succ, List.getElem?_cons_zero, Option.getD_some, factAt, and_true]
    refine ⟨?_, ?_, ?_, ?_, ?_, ?_, ?_, ?_, ?_, ?_, ?_, ?_, ?_, ?_, ?_, ?_, ?_⟩
    all_goals intro ρ wv hρ hR hd
    all_goals try simp only [Is] at hd
    · exact opOk_val (v := .pointer (some ⟨w.heap.size, 0, none⟩)) (w' := wv) (by simp [execOp, go_sem, hρ.1.const, hρ.1.func, hd, (hρ.2 3 rfl)]) ⟨rfl, GrR.refl _⟩
    · (have h0 := cell?_of_below hR K0.out; exact opOk_val (v := .int .u32 (tag : Int)) (w' := wv) (by simp [execOp, go_sem, hd, h0]) ⟨rfl, GrR.refl _⟩)
    · exact opOk_val (v := .int .u64 (tag : Int)) (w' := wv) (by simp [execOp, go_sem, hρ.1.const, hρ.1.func, hd, W1.out]) ⟨rfl, GrR.refl _⟩
    · exact opOk_val (v := .pointer (some ⟨w.heap.size, 1, none⟩)) (w' := wv) (by simp [execOp, go_sem, hρ.1.const, hρ.1.func, hd, (hρ.2 3 rfl)]) ⟨rfl, GrR.refl _⟩
    · (have h0 := cell?_of_below hR K1.out; exact opOk_val (v := .int .u32 (rwnd : Int)) (w' := wv) (by simp [execOp, go_sem, hd, h0]) ⟨rfl, GrR.refl _⟩)
    · exact opOk_val (v := .int .u64 (rwnd : Int)) (w' := wv) (by simp [execOp, go_sem, hρ.1.const, hρ.1.func, hd, W2.out]) ⟨rfl, GrR.refl _⟩
    · exact opOk_val (v := .slice (some ⟨wv.heap.size, 0, none⟩) 2 2) (w' := wv.alloc (.cells #[.int .u64 (tag : Int), .int .u64 (rwnd : Int)] 86 (0, 0))) (by simp [execOp, go_sem, hρ.1.const, hd]) ⟨rdV_new wv 86 [.int .u64 (tag : Int), .int .u64 (rwnd : Int)] 2 _ rfl rfl (by unfold maxLen; omega), (Below.refl _ _).alloc (Nat.le_refl _) _⟩
    · exact opOk_call hρ.1 rfl rfl Try.func48 (by kernel_rfl) rfl (by simp [hd, hρ.1.const]) ((bput_any _ _ [] 4 _ rfl (by omega) [tag, rwnd] _ (Rd.nil _) hd (by simp; omega) (by simp) (by simp) (by simp)).mono fun e w' ⟨v', h1, h2, h3⟩ => ⟨v', h1, by rw [HB8.out] at h2; exact h2.base hR.size, h3⟩)
    · exact opOk_val (v := .pointer (some ⟨w.heap.size, 2, none⟩)) (w' := wv) (by simp [execOp, go_sem, hρ.1.const, hρ.1.func, hd, (hρ.2 3 rfl)]) ⟨rfl, GrR.refl _⟩
    · (have h0 := cell?_of_below hR K2.out; exact opOk_val (v := .int .u16 (out : Int)) (w' := wv) (by simp [execOp, go_sem, hd, h0]) ⟨rfl, GrR.refl _⟩)
    · exact opOk_val (v := .int .u64 (out : Int)) (w' := wv) (by simp [execOp, go_sem, hρ.1.const, hρ.1.func, hd, W3.out]) ⟨rfl, GrR.refl _⟩
    · exact opOk_val (v := .pointer (some ⟨w.heap.size, 3, none⟩)) (w' := wv) (by simp [execOp, go_sem, hρ.1.const, hρ.1.func, hd, (hρ.2 3 rfl)]) ⟨rfl, GrR.refl _⟩
    · (have h0 := cell?_of_below hR K3.out; exact opOk_val (v := .int .u16 (in_ : Int)) (w' := wv) (by simp [execOp, go_sem, hd, h0]) ⟨rfl, GrR.refl _⟩)
    · exact opOk_val (v := .int .u64 (in_ : Int)) (w' := wv) (by simp [execOp, go_sem, hρ.1.const, hρ.1.func, hd, W4.out]) ⟨rfl, GrR.refl _⟩
    · exact opOk_val (v := .slice (some ⟨wv.heap.size, 0, none⟩) 2 2) (w' := wv.alloc (.cells #[.int .u64 (out : Int), .int .u64 (in_ : Int)] 86 (0, 0))) (by simp [execOp, go_sem, hρ.1.const, hd]) ⟨rdV_new wv 86 [.int .u64 (out : Int), .int .u64 (in_ : Int)] 2 _ rfl rfl (by unfold maxLen; omega), (Below.refl _ _).alloc (Nat.le_refl _) _⟩
    · exact opOk_call hρ.1 rfl rfl Try.func48 (by kernel_rfl) rfl (by simp [hd, hρ.1.const]) ((bput_any _ _ b8 2 _ rfl (by omega) [out, in_] _ hd.1.rd hd.2.1 (by simp; omega) (by simp) (by simp) (by rw [HL8.out]; omega)).mono fun e w' ⟨v', h1, h2, h3⟩ => ⟨v', h1, by rw [HB12.out] at h2; exact h2.base hR.size, h3⟩)
    · exact opOk_move (.inr rfl) ⟨(by first | exact hd | exact hd.1), GrR.refl _⟩
  · intro vals wv hR hall
    have h16 := hall 16 (by simp)
    simp only [factAt, OwnF, List.getD_eq_getElem?_getD, List.getElem?_cons_succ, List.getElem?_cons_zero, Option.getD_some] at h16
    clear hall
    obtain ⟨p1, c1, hv1, -, -, -, -⟩ := h16.rd
    simp only [fillFrom, Act.put, hv1, List.setIfInBounds_toArray, List.set_cons_zero, List.set_cons_succ, Nat.zero_add, Nat.reduceAdd]
    rw [hv1] at h16
    have HO1 := hid h16
    rename_i Kk hKk
    refine hKk _ _ ?_
    obtain ⟨w1, hw1⟩ : ∃ x, x = wv := ⟨_, rfl⟩
    subst hw1
    clear hKk Kk hv1 h16
    have HR1 := hid (HR.out.mono hR)
    have HQ1 := hid (HQ.out.mono hR)
    have G1 := hid (gr_trans G0.out hR)
    have hsW := hR.size
    have k4 := HR1.out.at 4 (by simp)
    simp only [List.getElem_cons_succ, List.getElem_cons_zero] at k4
    rw [HL12.out] at HO1 ⊢
    clear hR K0 K1 K2 K3
    go_wp2_with fail
    refine (bput_new _ b12 4 _ rfl (by omega) [tsn] w1 _ 1 rfl rfl HO1.out.rd (by simp; omega) (by simp) (by simp) (by rw [HL12.out]; omega)).mono ?_
    rintro e w2 ⟨v2, rfl, ho2, hb2⟩
    rw [HB16.out] at ho2
    have HO2 := hid ho2
    have HR2 := hid (HR1.out.mono hb2)
    have HQ2 := hid (HQ1.out.mono hb2)
    have G2 := hid (gr_trans G1.out hb2)
    obtain ⟨p2, c2, rfl, -, -, -, -⟩ := ho2.rd
    have hs2 := hb2.size
    rw [HL16.out] at HO2 ⊢
    have k5 := HR2.out.at 5 (by simp)
    simp only [List.getElem_cons_succ, List.getElem_cons_zero] at k5
    clear ho2 hb2 k4
    by_cases hk2 : kind = 2
    · subst hk2
      rw [if_pos rfl] at HBL
      go_wp2_with fail
      refine (bput_new _ b16 2 _ rfl (by omega) [7, 4 + n] w2 _ 2 (by simp) rfl HO2.out.rd (by simp; omega) (by simp) (by simp) (by rw [HL16.out]; omega)).mono ?_
      rintro e w3 ⟨v3, rfl, ho3, hb3⟩
      rw [HB20.out] at ho3
      have HO3 := hid ho3
      have HR3 := hid (HR2.out.mono hb3)
      have HQ3 := hid (HQ2.out.mono hb3)
      have G3 := hid (gr_trans G2.out hb3)
      obtain ⟨p3, c3, rfl, -, -, -, -⟩ := ho3.rd
      have hs3 := hb3.size
      rw [HL20.out] at HO3 ⊢
      have k6 := HR3.out.at 5 (by simp)
      simp only [List.getElem_cons_succ, List.getElem_cons_zero] at k6
      clear ho3 hb3 k5
      go_wp2_with (at_builtin; refine wpList_append_Own rfl (.tmp 38) (.tmp 40) 24 rfl w2.heap.size 5 Try.underlying24 infoU8 _ _ b20 b rfl HO3.out rfl (HV.out.mono G3.out) (by rw [HL20.out, ← HN.out]; omega) hs3 ?_)
      intro v4 w4 ho4 hg4
      have hq3 := HQ3.out.lt
      have hlw := HR3.out.lt
      have hq2 := HQ2.out.lt
      have HQ4 := hid (HQ3.out.grown hg4 (fun e => by have := HO3.out.ge _ e; omega))
      have G4 := hid (show Below w.heap.size w w4 from G3.out.grown hg4 G3.out.size (fun k hk => Nat.le_trans G2.out.size (HO3.out.ge k hk)))
      obtain ⟨p4, c4, rfl, -, -, -, -⟩ := ho4.rd
      have HO4 := hid ho4
      have HLT := hid (show (b20 ++ b).length = 20 + n by rw [List.length_append, HL20.out, HN.out])
      obtain ⟨bb, hbb⟩ : ∃ x, x = b20 ++ b := ⟨_, rfl⟩
      have HBB := hid hbb
      rw [← hbb] at HLT HO4 ⊢
      have h4s := hg4.size
      rw [HLT.out] at HO4 ⊢
      clear ho4 hg4 k6 hbb
      go_wp2_with fail
      refine (pad_any _ bb _ HO4.out.rd (by rw [HLT.out]; omega)).mono ?_
      rintro e w5 ⟨v5, rfl, ho5, hb5⟩
      have HO5 := hid ho5
      have HQ5 := hid (HQ4.out.mono hb5)
      have G5 := hid (gr_trans G4.out hb5)
      obtain ⟨p5, c5, rfl, -, -, -, -⟩ := ho5.rd
      obtain ⟨pd, hpd⟩ : ∃ x, x = padded bb := ⟨_, rfl⟩
      have HPD := hid hpd
      rw [← hpd] at HO5 ⊢
      have hq4 := HQ4.out.lt
      clear ho5 hb5 hpd
      obtain ⟨q0, q1, q2⟩ := HQ5.out.three
      have f0 := HQ5.out.frozen 0
      have f1 := HQ5.out.frozen 1
      have f2 := HQ5.out.frozen 2
      go_wp2_with fail
      refine putInit_ret (.int .u8 2) (.int .u8 0) _ rfl rfl (((HQ5.out.store 0 _).store 1 _).store 2 _) ⟨_, rfl, ?_, ((G5.out.setCell (by simp) _).setCell (by simp) _).setCell (by simp) _⟩
      show Own _ _ _ _ bl
      rw [HBL.out, ← HBB.out, ← HPD.out]
      exact (HO5.out.keep (r := some (w.heap.size + 1)) (gb_set (gb_set (gb_set (gb_refl _ _) 0 _) 1 _) 2 _) (fun k hk e => by have := HO5.out.ge k hk; simp at e; omega)).base (show w.heap.size ≤ w4.heap.size by omega)
    · rw [if_neg hk2] at HBL
      have hkn : ((kind.toNat : Int) == 2) = false := by
        rw [beq_eq_false_iff_ne, ne_eq]
        intro h
        exact hk2 (by rw [← UInt8.toNat_inj]; have h3 : kind.toNat = 2 := by omega
                      exact h3)
      have HQ2' := hid HQ2.out
      obtain ⟨q0, q1, q2⟩ := HQ2.out.three
      have f0 := HQ2.out.frozen 0
      have f1 := HQ2.out.frozen 1
      have f2 := HQ2.out.frozen 2
      go_wp2_with fail
      refine putInit_ret (.int .u8 (kind.toNat : Int)) (.int .u8 0) _ rfl rfl (((HQ2.out.store 0 _).store 1 _).store 2 _) ⟨_, rfl, ?_, ((G2.out.setCell (by simp) _).setCell (by simp) _).setCell (by simp) _⟩
      show Own _ _ _ _ bl
      rw [HBL.out]
      exact (HO2.out.keep (r := some (w.heap.size + 1)) (gb_set (gb_set (gb_set (gb_refl _ _) 0 _) 1 _) 2 _) (fun k hk e => by have := HO2.out.ge k hk; simp at e; omega)).base (show w.heap.size ≤ w1.heap.size by omega)

set_option maxRecDepth 20000 in
set_option maxHeartbeats 1000000 in
theorem getInit1_any (k f : UInt8) (s : Value) (v : Value) (d : InitD) (hw : d.wf) (gc : Nat) (w : World) (h : InitAt w v d) (hl : d.ck.length ≤ 1000000) (hc : RowV w gc 28 [.int .u8 (k.toNat : Int), .int .u8 (f.toNat : Int), s]) :
    Calls Try.prog 67 #[v, .pointer (some ⟨gc, 0, none⟩)] w (RetChk w 5 (d.chk k)) := by
  have HI := hid h
  have HWF := hid hw
  obtain ⟨sx, rfl, hrd⟩ := h
  obtain ⟨p, n, c, rfl⟩ := hrd.form
  have HIN := hid (fun (wx : World) (h : InitAt wx (.agg #[.int .u32 (d.tag : Int), .int .u32 (d.rwnd : Int), .int .u16 (d.out : Int), .int .u16 (d.in_ : Int), .int .u32 (d.tsn : Int), .slice p n c]) d) => putInit_any k _ d HWF.out wx h hl)
  obtain ⟨bl, hbl⟩ : ∃ x, x = d.body k := ⟨_, rfl⟩
  show Calls _ _ _ _ (RetChk w 5 ⟨k, 0, d.body k⟩)
  have HIN2 := hid (show ∀ (wx : World) (h : InitAt wx (.agg #[.int .u32 (d.tag : Int), .int .u32 (d.rwnd : Int), .int .u16 (d.out : Int), .int .u16 (d.in_ : Int), .int .u32 (d.tsn : Int), .slice p n c]) d), Calls Try.prog 42 #[.int .u8 (k.toNat : Int), .agg #[.int .u32 (d.tag : Int), .int .u32 (d.rwnd : Int), .int .u16 (d.out : Int), .int .u16 (d.in_ : Int), .int .u32 (d.tsn : Int), .slice p n c]] wx (RetChk wx 5 ⟨k, 0, bl⟩) by rw [hbl]; exact HIN.out)
  rw [← hbl]
  clear hrd HIN hbl hw HWF
  obtain ⟨W0, hW0⟩ : ∃ W0, W0 = w.alloc (.cells #[.int .u32 (d.tag : Int), .int .u32 (d.rwnd : Int), .int .u16 (d.out : Int), .int .u16 (d.in_ : Int), .int .u32 (d.tsn : Int), .slice p n c] 70 (0, 0)) := ⟨_, rfl⟩
  have hs0 : W0.heap.size = w.heap.size + 1 := by rw [hW0]; simp
  obtain ⟨W, hW⟩ : ∃ W, W = W0.alloc (.cells #[.int .u8 0, .int .u8 0, .slice none 0 0] 28 (0, 0)) := ⟨_, rfl⟩
  have HR := hid (show RowV W w.heap.size 70 [.int .u32 (d.tag : Int), .int .u32 (d.rwnd : Int), .int .u16 (d.out : Int), .int .u16 (d.in_ : Int), .int .u32 (d.tsn : Int), .slice p n c] by rw [hW, hW0]; exact (RowV.new w 70 _).alloc _)
  have HQ := hid (show RowV W (w.heap.size + 1) 28 [.int .u8 0, .int .u8 0, .slice none 0 0] by rw [hW, ← hs0]; exact RowV.new W0 28 _)
  have G0 := hid (show Below w.heap.size w W by rw [hW, hW0]; exact ((Below.refl _ _).alloc (Nat.le_refl _) _).alloc (by simp) _)
  have c0 : W.cell? ⟨gc, 0, none⟩ = some (.int .u8 (k.toNat : Int)) := (hc.mono G0.out).at 0 (by simp)
  have i0 := HR.out.at 0 (by simp)
  have i1 := HR.out.at 1 (by simp)
  have i2 := HR.out.at 2 (by simp)
  have i3 := HR.out.at 3 (by simp)
  have i4 := HR.out.at 4 (by simp)
  have i5 := HR.out.at 5 (by simp)
  simp only [List.getElem_cons_succ, List.getElem_cons_zero] at i0 i1 i2 i3 i4 i5
  rw [hW0] at hW
  have HE := hid hW
  rw [hW] at c0 i0 i1 i2 i3 i4 i5
  clear hW hW0 hs0
  go_enter Try.func67, Try.ntmps67
  go_wp2_with fail
  rw [← HE.out]
  refine (HIN2.out _ (HI.out.mono G0.out)).mono ?_
  rintro e w1 ⟨v1, rfl, ho1, hb1⟩
  have HO1 := hid ho1
  simp only at ho1
  obtain ⟨p1, c1, rfl, -, -, -, -⟩ := ho1.rd
  have HQ1 := hid (HQ.out.mono hb1)
  have G1 := hid (gr_trans G0.out hb1)
  have hsz := G0.out.size
  have hq := HQ.out.lt
  obtain ⟨q0, q1, q2⟩ := HQ1.out.three
  have f0 := HQ1.out.frozen 0
  have f1 := HQ1.out.frozen 1
  have f2 := HQ1.out.frozen 2
  clear ho1 hb1 c0 i0 i1 i2 i3 i4 i5
  go_wp2_with fail
  refine getInit1_ret (.int .u8 (k.toNat : Int)) (.int .u8 0) _ rfl rfl (((HQ1.out.store 0 _).store 1 _).store 2 _) ⟨_, rfl, ?_, ((G1.out.setCell (by simp) _).setCell (by simp) _).setCell (by simp) _⟩
  exact (HO1.out.keep (r := some (w.heap.size + 1)) (gb_set (gb_set (gb_set (gb_refl _ _) 0 _) 1 _) 2 _) (fun k hk e => by have := HO1.out.ge k hk; simp at e; omega)).base hsz
end Go.Proofs.Ytfiblhdejglpaaa

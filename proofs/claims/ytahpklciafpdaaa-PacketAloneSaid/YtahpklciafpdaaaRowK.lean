/- Rows of elements of K cells: what a slice of them reads as; a row of one's own; append to it. Conditions: none. No program in sight. -/
import Derived.Test.YtahpklciafpdaaaBaseA
set_option linter.unusedSimpArgs false
set_option linter.unusedVariables false
namespace Go.FL
open Go.RowKit

/-- The slice value v of n elements reads as these cells, one behind the other. -/
def RdK (w : World) (K : Nat) (v : Value) (n : Nat) (l : List Value) : Prop :=
  l.length = n * K ∧ ∃ p c, v = .slice p n c ∧ n ≤ c ∧ c ≤ maxLen ∧ (p = none → c = 0) ∧
    (∀ j (_ : j < l.length), ∃ b off, p = some ⟨b, off, none⟩ ∧ w.cell? ⟨b, off + j, none⟩ = some l[j])
theorem RdK.mono {w w' : World} {K n : Nat} {v : Value} {l : List Value} (h : RdK w K v n l) (hb : Below w.heap.size w w') : RdK w' K v n l := by
  obtain ⟨h0, p, c, h1, h2, h3, h4, h5⟩ := h
  exact ⟨h0, p, c, h1, h2, h3, h4, fun j hj => let ⟨b, off, e, hc⟩ := h5 j hj; ⟨b, off, e, cell?_of_below hb hc⟩⟩
theorem RdK.nil (w : World) (K : Nat) : RdK w K (.slice none 0 0) 0 [] := ⟨by simp, none, 0, rfl, Nat.le_refl _, Nat.zero_le _, fun _ => rfl, fun j h => by simp at h⟩

/-- v is a row of n elements of one's own, from block number base on; e: the element's type. -/
def OwnK (w : World) (base e K : Nat) (v : Value) (n : Nat) (l : List Value) : Prop :=
  l.length = n * K ∧ ((v = .slice none 0 0 ∧ n = 0) ∨
  ∃ g m sp, base ≤ g ∧ v = .slice (some ⟨g, 0, none⟩) n (n + m) ∧ List.length sp = m * K ∧ w.heap[g]? = some (.cells (l ++ sp).toArray e (0, 0)) ∧ n + m ≤ maxLen)
theorem OwnK.nil (w : World) (base e K : Nat) : OwnK w base e K (.slice none 0 0) 0 [] := ⟨by simp, .inl ⟨rfl, rfl⟩⟩
theorem OwnK.mono {w w' : World} {base e K n : Nat} {v : Value} {l : List Value} (h : OwnK w base e K v n l) (hb : Below w.heap.size w w') : OwnK w' base e K v n l := by
  obtain ⟨h0, ⟨rfl, rfl⟩ | ⟨g, m, sp, h1, rfl, h2, hr, hm⟩⟩ := h
  · exact ⟨h0, .inl ⟨rfl, rfl⟩⟩
  · exact ⟨h0, .inr ⟨g, m, sp, h1, rfl, h2, by rw [hb.block g (Array.getElem?_eq_some_iff.1 hr).1, hr], hm⟩⟩
theorem OwnK.ge {w : World} {base e K n : Nat} {v : Value} {l : List Value} (h : OwnK w base e K v n l) : ∀ k, v.ownBlock = some k → base ≤ k := by
  intro k hk
  obtain ⟨h0, ⟨rfl, rfl⟩ | ⟨g, m, sp, h1, rfl, h2, hr, hm⟩⟩ := h
  · simp [Value.ownBlock] at hk
  · simp [Value.ownBlock] at hk; omega
theorem OwnK.base {w : World} {base base' e K n : Nat} {v : Value} {l : List Value} (h : OwnK w base e K v n l) (hb : base' ≤ base) : OwnK w base' e K v n l := by
  obtain ⟨h0, ⟨rfl, rfl⟩ | ⟨g, m, sp, h1, rfl, h2, hr, hm⟩⟩ := h
  · exact ⟨h0, .inl ⟨rfl, rfl⟩⟩
  · exact ⟨h0, .inr ⟨g, m, sp, by omega, rfl, h2, hr, hm⟩⟩
theorem OwnK.rd {w : World} {base e K n : Nat} {v : Value} {l : List Value} (h : OwnK w base e K v n l) : RdK w K v n l := by
  obtain ⟨h0, ⟨rfl, rfl⟩ | ⟨g, m, sp, h1, rfl, h2, hr, hm⟩⟩ := h
  · refine ⟨h0, none, 0, rfl, Nat.le_refl _, Nat.zero_le _, fun _ => rfl, fun j h => ?_⟩
    rw [h0] at h
    omega
  · refine ⟨h0, _, _, rfl, by omega, hm, by simp, fun j hj => ⟨g, 0, rfl, ?_⟩⟩
    simp [World.cell?, hr]
    rw [List.getElem?_append_left hj, List.getElem?_eq_getElem hj]
theorem OwnK.grown {w w' : World} {base e K n : Nat} {v : Value} {l : List Value} {r : Option Nat} (h : OwnK w base e K v n l) (hb : w.grownBy w' r) (hr : ∀ k, v.ownBlock = some k → r ≠ some k) : OwnK w' base e K v n l := by
  obtain ⟨h0, ⟨rfl, rfl⟩ | ⟨g, m, sp, h1, rfl, h2, hg, hm⟩⟩ := h
  · exact ⟨h0, .inl ⟨rfl, rfl⟩⟩
  · refine ⟨h0, .inr ⟨g, m, sp, h1, rfl, h2, ?_, hm⟩⟩
    rw [hb.block g (Array.getElem?_eq_some_iff.1 hg).1 (fun e => hr g (by simp [Value.ownBlock]) e.symm), hg]

theorem rdK_new (w : World) (e K n : Nat) (l : List Value) (cs : Array Value) (hl : l.length = n * K) (hcs : cs = l.toArray) (hm : n ≤ maxLen) : RdK (w.alloc (.cells cs e (0, 0))) K (.slice (some ⟨w.heap.size, 0, none⟩) n n) n l := by
  subst hcs
  have : OwnK (w.alloc (.cells l.toArray e (0, 0))) 0 e K (.slice (some ⟨w.heap.size, 0, none⟩) n n) n l := ⟨hl, .inr ⟨w.heap.size, 0, [], Nat.zero_le _, rfl, by simp, by simpa using heap_alloc_new w _, by simpa using hm⟩⟩
  exact this.rd

theorem zeroCells_len (z : Array Value) (n : Nat) : (Builtin.zeroCells z n).toList.length = n * z.size := by simp [Builtin.zeroCells]

/-- 'append(v, x...)': v a row of one's own, x k elements more, 0 of them too. -/
theorem run_append_OwnK {P : Program} (w : World) (base : Nat) (t ty e : TypeId) (z : Value) (K B : Nat) (hz : z.cells.size = K) (hK : 0 < K) (ht : P.underlying t = some (.slice e)) (hi : (P.info? e).map (fun i => (i.zero, i.size, i.bytes)) = some (some z, K, B))
    (v x : Value) (n k : Nat) (l m : List Value) (h1m : ∀ u ∈ m, u.oneCell' = true) (hown : OwnK w base e K v n l) (hx : RdK w K x k m) (hlen : (n + k) * B ≤ 140737488355328) (hlen2 : n + k ≤ 140737488355328) (hbase : base ≤ w.heap.size) :
    ∃ v' w', (Builtin.append_ #[t, t] ty #[v, x]).run P w = .ok v' w' ∧ OwnK w' base e K v' (n + k) (l ++ m) ∧ w.grownBy w' v.ownBlock := by
  obtain ⟨i, h1, h2, h3, h4⟩ : ∃ i, P.info? e = some i ∧ i.zero = some z ∧ i.size = K ∧ i.bytes = B := by
    cases hq : P.info? e with
    | none => simp [hq] at hi
    | some i => simp [hq] at hi; exact ⟨i, rfl, hi.1, hi.2.1, hi.2.2⟩
  by_cases hk0 : k = 0
  · subst hk0
    obtain ⟨hxl, p, c, rfl, hmc, hcm, hpn, hcell0⟩ := hx
    have hm0 : m = [] := List.length_eq_zero_iff.1 (by rw [hxl]; simp)
    subst hm0
    refine ⟨v, w, ?_, by simpa using hown, ⟨rfl, rfl, rfl, Nat.le_refl _, fun _ _ _ => rfl⟩⟩
    have hle : ∃ vp vn vc, v = .slice vp vn vc ∧ vn ≤ vc := by
      obtain ⟨_, ⟨rfl, rfl⟩ | ⟨g, m, sp, _, rfl, _, _, _⟩⟩ := hown
      · exact ⟨none, 0, 0, rfl, Nat.le_refl _⟩
      · exact ⟨_, _, _, rfl, by omega⟩
    obtain ⟨vp, vn, vc, rfl, hle⟩ := hle
    cases p <;> cases vp <;> simp [Builtin.append_, run_underlying ht, sizeOf, typeInfo, h1, Builtin.lenOf, Builtin.firstCells, loadCells, loadCellsFrom, hle, storeCells]
  have hpos : 0 < k := by omega
  obtain ⟨hxl, p, c, rfl, hmc, hcm, _, hcell0⟩ := hx
  have hmpos : 0 < m.length := by rw [hxl]; exact Nat.mul_pos hpos hK
  obtain ⟨b, off, rfl, _⟩ := hcell0 0 hmpos
  have hnews : ∀ j u, m[j]? = some u → w.cell? ((⟨b, off, none⟩ : Addr).add j) = some u := by
    intro j u hu
    obtain ⟨hj, rfl⟩ := List.getElem?_eq_some_iff.1 hu
    obtain ⟨b', off', e', hc⟩ := hcell0 j hj
    simp at e'
    obtain ⟨rfl, rfl⟩ := e'
    rw [Addr.add_lit]
    exact hc
  have hnl : m.length = k * i.size := by rw [h3, hxl]
  have grown : l.length = n * K → ∀ (old : Nat), old < n + k → ∀ (row : Option Nat),
      OwnK (w.drew.alloc (.cells (l.toArray ++ m.toArray ++ Builtin.zeroCells z.cells (grownCap w (n + k) old e - (n + k))) e)) base e K
        (.slice (some ⟨w.heap.size, 0, none⟩) (n + k) (grownCap w (n + k) old e)) (n + k) (l ++ m) ∧
      w.grownBy (w.drew.alloc (.cells (l.toArray ++ m.toArray ++ Builtin.zeroCells z.cells (grownCap w (n + k) old e - (n + k))) e)) row := by
    intro hl old _ row
    have hge := grownCap_ge w (n + k) old e
    have hcm' : grownCap w (n + k) old e ≤ maxLen := grownCap_le_maxLen w (n + k) old e (by unfold maxLen; omega)
    refine ⟨⟨by rw [List.length_append, hl, hxl, Nat.add_mul], .inr ⟨w.heap.size, grownCap w (n + k) old e - (n + k), (Builtin.zeroCells z.cells (grownCap w (n + k) old e - (n + k))).toList, hbase, ?_, ?_, ?_, ?_⟩⟩, ⟨rfl, rfl, rfl, by simp, fun k hk _ => Below.heap_alloc w.drew _ k hk⟩⟩
    · rw [show n + k + (grownCap w (n + k) old e - (n + k)) = grownCap w (n + k) old e by omega]
    · rw [zeroCells_len, hz]
    · have hcs : l.toArray ++ m.toArray ++ Builtin.zeroCells z.cells (grownCap w (n + k) old e - (n + k)) = (l ++ m ++ (Builtin.zeroCells z.cells (grownCap w (n + k) old e - (n + k))).toList).toArray := by
        apply Array.ext'
        simp only [Array.toList_append]
      rw [hcs]
      exact heap_alloc_new w.drew _
    · omega
  obtain ⟨hl, ⟨rfl, rfl⟩ | ⟨g, mm, sp, hbg, rfl, hsp, hrow, hcap⟩⟩ := hown
  · have hl0 : l = [] := List.length_eq_zero_iff.1 (by rw [hl]; simp)
    subst hl0
    have hr := run_append_nil (P := P) w t ty e i z ht h1 h2 ⟨b, off, none⟩ k c m hnl hnews hpos (by omega) (by rw [h4]; simp at hlen; omega)
    have hgr := grown hl 0 (by omega) (Value.ownBlock (.slice none 0 0))
    simp only [Nat.zero_add, List.nil_append, Array.empty_append] at hgr ⊢
    exact ⟨_, _, hr, hgr.1, hgr.2⟩
  · by_cases hroom : n + k ≤ n + mm
    · have hkm : k * K ≤ mm * K := Nat.mul_le_mul_right _ (by omega)
      have hr := run_append_room (P := P) w t ty e i ht h1 g n (n + mm) (l ++ sp).toArray hrow ⟨b, off, none⟩ k c m hnl hnews h1m hroom (by rw [h3]; simp [hl, hsp, hxl]; omega)
      refine ⟨_, _, hr, ⟨by rw [List.length_append, hl, hxl, Nat.add_mul], .inr ⟨g, mm - k, sp.drop m.length, hbg, ?_, ?_, ?_, ?_⟩⟩, ⟨rfl, rfl, rfl, by simp, fun k _ hk => setRow_other w g k _ (fun e => hk (by simp [Value.ownBlock, e]))⟩⟩
      · rw [show n + k + (mm - k) = n + mm by omega]
      · rw [List.length_drop, hsp, hxl, Nat.sub_mul]
      · have hcs : (List.take (n * i.size) (l ++ sp).toArray.toList ++ m ++ List.drop (n * i.size + m.length) (l ++ sp).toArray.toList) = l ++ m ++ sp.drop m.length := by
          simp only [h3]
          rw [← hl, List.take_append_of_le_length (by omega), List.take_of_length_le (by omega), List.drop_append]
          simp
        rw [hcs]
        exact setRow_heap w g _ _ e _ hrow
      · omega
    · have holds : ∀ j u, l[j]? = some u → w.cell? ((⟨g, 0, none⟩ : Addr).add j) = some u := by
        intro j u hu
        obtain ⟨hj, rfl⟩ := List.getElem?_eq_some_iff.1 hu
        rw [Addr.add_lit, Nat.zero_add]
        simp [World.cell?, hrow, List.getElem_append_left hj, show j < l.length + sp.length by omega]
      have hr := run_append_grow (P := P) w t ty e i z ht h1 h2 ⟨g, 0, none⟩ n (n + mm) l (by rw [h3, hl]) holds ⟨b, off, none⟩ k c m hnl hnews (by omega) (by omega) (growslice_fits (by omega) (by rw [h4]; omega))
      have hgr := grown hl (n + mm) (by omega) (Value.ownBlock (.slice (some ⟨g, 0, none⟩) n (n + mm)))
      exact ⟨_, _, hr, hgr.1, hgr.2⟩

/-- The same as a step of the walk. -/
theorem wpList_append_OwnK {P : Program} {w : World} {ops : Array Oper} {rest : List Oper} {o : Oper} {a : Act} {Q : Exit → Act → World → Prop} (hgd : o.guard = none) (s x : Operand) (t : TypeId)
    (ho : o.op = .call { callee := .builtin .append, args := #[s, x], argTypes := #[t, t] })
    (base e : Nat) (z : Value) (K B : Nat) (hz : z.cells.size = K) (hK : 0 < K) (ht : P.underlying t = some (.slice e)) (hi : (P.info? e).map (fun i => (i.zero, i.size, i.bytes)) = some (some z, K, B))
    (v u : Value) (n k : Nat) (l m : List Value) (h1m : ∀ u ∈ m, u.oneCell' = true) (hs : a.eval s = v) (hown : OwnK w base e K v n l) (hx : a.eval x = u) (hrd : RdK w K u k m) (hlen : (n + k) * B ≤ 140737488355328) (hlen2 : n + k ≤ 140737488355328) (hbase : base ≤ w.heap.size)
    (h : ∀ v' w', OwnK w' base e K v' (n + k) (l ++ m) → w.grownBy w' v.ownBlock → wpList P ops Q rest (a.put o.dst v') w') : wpList P ops Q (o :: rest) a w := by
  refine wpList_plain hgd fun K' hK' => ?_
  obtain ⟨v', w', hr, h2, h3⟩ := run_append_OwnK (P := P) w base t o.type e z K B hz hK ht hi v u n k l m h1m hown hrd hlen hlen2 hbase
  unfold Oper.wp execOp
  simp only [ho, resolve, invoke, builtin, Sem.run_bind, Sem.run_pure, Result.andThen_ok, List.map_toArray, List.map_cons, List.map_nil, hs, hx, hr]
  exact hK' _ _ (h v' w' h2 h3)
end Go.FL

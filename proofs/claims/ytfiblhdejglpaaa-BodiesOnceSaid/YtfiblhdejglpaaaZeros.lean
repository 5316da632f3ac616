/- append(v, make([]byte, n)...): noughts behind a row of one's own. Conditions: the new length is one that memory bears. No program in sight. -/
import Derived.Test.YtfiblhdejglpaaaExt
namespace Go.FL
open Go.RowKit

theorem setRow_of (w : World) (g e : Nat) (l m sp : List UInt8) (h : Row w g e (l ++ sp)) (hm : m.length ≤ sp.length) (P : Program) :
    (storeCells ((⟨g, 0, none⟩ : Addr).add (l.length * 1)) (bytesV m)).run P w = .ok () (w.setRow g ((bytesV (l ++ sp)).toArray.toList.take l.length ++ bytesV m ++ (bytesV (l ++ sp)).toArray.toList.drop (l.length + m.length)).toArray) := by
  have hst := run_storeCells_at P g (l.length * 1) e (bytesV m) 0 (bytesV (l ++ sp)).toArray w h (by simp [bytesV_length]; omega) (bytesV_oneCell m)
  simp only [Nat.add_zero, Nat.mul_one, bytesV_length] at hst
  simpa [Addr.add_lit] using hst

theorem run_append_zeros {P : Program} (w : World) (base : Nat) (t u ty e : TypeId) (k : IntKind) (ht : P.underlying t = some (.slice e)) (hu : P.underlying u = some (.int k)) (hi : (P.info? e).map (fun i => (i.zero, i.size, i.bytes)) = some (some (.int .u8 0), 1, 1))
    (v : Value) (l : List UInt8) (n : Nat) (hown : Own w base e v l) (hlen : l.length + n ≤ 140737488355328) (hbase : base ≤ w.heap.size) :
    ∃ v' w', (Builtin.append_ #[t, u] ty #[v, .int .i64 (n : Int)]).run P w = .ok v' w' ∧ Own w' base e v' (l ++ List.replicate n 0) ∧ w.grownBy w' v.ownBlock := by
  obtain ⟨i, h1, h2, h3, h4⟩ := info_parts hi
  have hwr : IntKind.i64.wrap (n : Int) = (n : Int) := by rw [IntKind.wrap_i64]; omega
  have hn0 : ¬ ((n : Int) < 0) := by omega
  have hb0 : ¬ ((n : Int) * (i.bytes : Int) > 281474976710656) := by rw [h4]; omega
  have hz : Builtin.zeroCells (Value.int .u8 0).cells n = (bytesV (List.replicate n 0)).toArray := by
    apply Array.ext'
    rw [zeroCells_u8]
  have grown : ∀ (old : Nat), old < l.length + n → ∀ (row : Option Nat),
      Own (w.drew.alloc (.cells ((bytesV l).toArray ++ (bytesV (List.replicate n 0)).toArray ++ Builtin.zeroCells (Value.int .u8 0).cells (grownCap w (l.length + n) old e - (l.length + n))) e)) base e
        (.slice (some ⟨w.heap.size, 0, none⟩) (l.length + n) (grownCap w (l.length + n) old e)) (l ++ List.replicate n 0) ∧
      w.grownBy (w.drew.alloc (.cells ((bytesV l).toArray ++ (bytesV (List.replicate n 0)).toArray ++ Builtin.zeroCells (Value.int .u8 0).cells (grownCap w (l.length + n) old e - (l.length + n))) e)) row := by
    intro old _ row
    have hge := grownCap_ge w (l.length + n) old e
    have hcm' : grownCap w (l.length + n) old e ≤ maxLen := grownCap_le_maxLen w (l.length + n) old e (by unfold maxLen; omega)
    refine ⟨.inr ⟨w.heap.size, List.replicate (grownCap w (l.length + n) old e - (l.length + n)) 0, hbase, ?_, ?_, ?_⟩, ⟨rfl, rfl, rfl, by simp, fun k hk _ => Below.heap_alloc w.drew _ k hk⟩⟩
    · simp
      omega
    · have hcs : (bytesV l).toArray ++ (bytesV (List.replicate n 0)).toArray ++ Builtin.zeroCells (Value.int .u8 0).cells (grownCap w (l.length + n) old e - (l.length + n)) = (bytesV (l ++ List.replicate n 0 ++ List.replicate (grownCap w (l.length + n) old e - (l.length + n)) 0)).toArray := by
        apply Array.ext'
        simp only [Array.toList_append, zeroCells_u8, bytesV_append]
      rw [hcs]
      exact heap_alloc_new w.drew _
    · simp
      omega
  clear hb0
  by_cases hn : n = 0
  · subst hn
    have hw0 : IntKind.i64.wrap 0 = 0 := by decide
    clear grown
    refine ⟨v, w, ?_, by simpa using hown, ⟨rfl, rfl, rfl, Nat.le_refl _, fun _ _ _ => rfl⟩⟩
    rcases hown with ⟨rfl, rfl⟩ | ⟨g, sp, _, rfl, _, _⟩
    · simp [Builtin.append_, run_underlying ht, run_underlying hu, sizeOf, typeInfo, h1, asInt, asIntOf, hw0]
    · simp [Builtin.append_, run_underlying ht, run_underlying hu, sizeOf, typeInfo, h1, asInt, asIntOf, hw0, storeCells]
  · rcases hown with ⟨rfl, rfl⟩ | ⟨g, sp, hbg, rfl, hrow, hcap⟩
    · have hgr := grown 0 (by simp; omega) (Value.ownBlock (.slice none 0 0))
      have h48 : ¬ (281474976710656 < Builtin.nextslicecap n 0 * i.bytes) := by rw [nextslicecap_zero (by omega)]; rw [h4]; simp at hlen; omega
      have h63 : ¬ ((n : Int) > 9223372036854775807) := by simp at hlen; omega
      clear grown
      simp only [List.length_nil, Nat.zero_add, List.nil_append, bytesV, List.map_nil, Array.empty_append] at hgr
      have hb1 : ¬ (281474976710656 < (n : Int) * (i.bytes : Int)) := by rw [h4]; simp at hlen; omega
      have h63' : ¬ (9223372036854775807 < (n : Int)) := h63
      have hrun : (Builtin.append_ #[t, u] ty #[.slice none 0 0, .int .i64 (n : Int)]).run P w = .ok (.slice (some ⟨w.heap.size, 0, none⟩) n (grownCap w n 0 e)) (w.drew.alloc (.cells ((bytesV (List.replicate n 0)).toArray ++ Builtin.zeroCells (Value.int .u8 0).cells (grownCap w n 0 e - n)) e)) := by
        simp [Builtin.append_, run_underlying ht, run_underlying hu, sizeOf, typeInfo, zeroValue, h1, h2, h3, asInt, asIntOf, hwr, hn, hn0, h48, hb1, h63', hz, run_firstCells_none, Question.forced, newRow, grownCap]
      refine ⟨_, _, hrun, hgr.1, hgr.2⟩
    · by_cases hroom : n ≤ sp.length
      · have hb1 : ¬ (281474976710656 < (n : Int) * (i.bytes : Int)) := by rw [h4]; omega
        have hst := setRow_of w g e l (List.replicate n 0) sp hrow (by simpa using hroom) P
        rw [List.length_replicate] at hst
        have hst' := hst
        simp at hst'
        have hrun : (Builtin.append_ #[t, u] ty #[.slice (some ⟨g, 0, none⟩) l.length (l.length + sp.length), .int .i64 (n : Int)]).run P w = .ok (.slice (some ⟨g, 0, none⟩) (l.length + n) (l.length + sp.length)) (w.setRow g ((bytesV (l ++ sp)).toArray.toList.take l.length ++ bytesV (List.replicate n 0) ++ (bytesV (l ++ sp)).toArray.toList.drop (l.length + n)).toArray) := by
          simp [Builtin.append_, run_underlying ht, run_underlying hu, sizeOf, typeInfo, zeroValue, h1, h2, h3, asInt, asIntOf, hwr, hn, hn0, hb1, hroom, hz, hst']
        refine ⟨_, _, hrun, .inr ⟨g, sp.drop n, hbg, ?_, ?_, ?_⟩, ⟨rfl, rfl, rfl, by simp, fun k _ hk => setRow_other w g k _ (fun e => hk (by simp [Value.ownBlock, e]))⟩⟩
        · simp
          omega
        · have hcs : (List.take l.length (bytesV (l ++ sp)).toArray.toList ++ bytesV (List.replicate n 0) ++ List.drop (l.length + n) (bytesV (l ++ sp)).toArray.toList) = bytesV (l ++ List.replicate n 0 ++ sp.drop n) := by
            simp only [bytesV_append, bytesV_drop]
            have e1 : (bytesV l).length = l.length := bytesV_length l
            rw [List.take_append_of_le_length (by omega), List.take_of_length_le (by omega), List.drop_append, e1]
            simp
            omega
          rw [hcs]
          exact setRow_heap w g _ _ e _ hrow
        · simp
          omega
      · have holds : ∀ j u, (bytesV l)[j]? = some u → w.drew.cell? ((⟨g, 0, none⟩ : Addr).add j) = some u := by
          intro j u hu
          obtain ⟨hj, rfl⟩ := bytesV_get l j u hu
          have := hrow.cell j (by simp; omega)
          rw [Addr.add_lit, Nat.zero_add]
          show w.cell? _ = _
          rw [this]
          simp [hj]
        have hfo := run_firstCells_some (P := P) w.drew i.size l.length ⟨g, 0, none⟩ l.length (l.length + sp.length) (bytesV l) (by rw [bytesV_length, h3]; omega) holds
        rw [h3] at hfo
        have hgr := grown (l.length + sp.length) (by omega) (Value.ownBlock (.slice (some ⟨g, 0, none⟩) l.length (l.length + sp.length)))
        have hb1 : ¬ (281474976710656 < (n : Int) * (i.bytes : Int)) := by rw [h4]; omega
        have h63' : ¬ (9223372036854775807 < (l.length : Int) + (n : Int)) := by omega
        have hne : ¬ (l.length + n ≤ l.length + sp.length) := by omega
        have h48 : ¬ (281474976710656 < Builtin.nextslicecap (l.length + n) (l.length + sp.length) * i.bytes) := by
          have := growslice_fits (need := l.length + n) (old := l.length + sp.length) (bytes := i.bytes) (by omega) (by rw [h4]; omega)
          omega
        have hrun : (Builtin.append_ #[t, u] ty #[.slice (some ⟨g, 0, none⟩) l.length (l.length + sp.length), .int .i64 (n : Int)]).run P w = .ok (.slice (some ⟨w.heap.size, 0, none⟩) (l.length + n) (grownCap w (l.length + n) (l.length + sp.length) e)) (w.drew.alloc (.cells ((bytesV l).toArray ++ (bytesV (List.replicate n 0)).toArray ++ Builtin.zeroCells (Value.int .u8 0).cells (grownCap w (l.length + n) (l.length + sp.length) e - (l.length + n))) e)) := by
          simp [Builtin.append_, run_underlying ht, run_underlying hu, sizeOf, typeInfo, zeroValue, h1, h2, h3, asInt, asIntOf, hwr, hn, hn0, hb1, hroom, h63', h48, hz, hfo, Question.forced, newRow, grownCap]
          congr 2
          apply Array.ext'
          simp [List.append_assoc]
        exact ⟨_, _, hrun, hgr.1, hgr.2⟩

/-- The same as a step of the walk. -/
theorem wpList_append_zeros {P : Program} {w : World} {ops : Array Oper} {rest : List Oper} {o : Oper} {a : Act} {Q : Exit → Act → World → Prop} (hgd : o.guard = none) (s x : Operand) (t u : TypeId)
    (ho : o.op = .call { callee := .builtin .append, args := #[s, x], argTypes := #[t, u] })
    (base e : Nat) (k : IntKind) (ht : P.underlying t = some (.slice e)) (hu : P.underlying u = some (.int k)) (hi : (P.info? e).map (fun i => (i.zero, i.size, i.bytes)) = some (some (.int .u8 0), 1, 1))
    (v : Value) (l : List UInt8) (n : Nat) (hs : a.eval s = v) (hown : Own w base e v l) (N : Int) (hx : a.eval x = .int .i64 N) (hN : N = (n : Int)) (hlen : l.length + n ≤ 140737488355328) (hbase : base ≤ w.heap.size)
    (h : ∀ v' w', Own w' base e v' (l ++ List.replicate n 0) → w.grownBy w' v.ownBlock → wpList P ops Q rest (a.put o.dst v') w') : wpList P ops Q (o :: rest) a w := by
  subst hN
  refine wpList_plain hgd fun K hK => ?_
  obtain ⟨v', w', hr, h2, h3⟩ := run_append_zeros (P := P) w base t u o.type e k ht hu hi v l n hown hlen hbase
  unfold Oper.wp execOp
  simp only [ho, resolve, invoke, builtin, Sem.run_bind, Sem.run_pure, Result.andThen_ok, List.map_toArray, List.map_cons, List.map_nil, hs, hx, hr]
  exact hK _ _ (h v' w' h2 h3)
end Go.FL

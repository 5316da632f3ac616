/- Bytes put behind a row of one's own: where the row lies then. Conditions: none. No program in sight. -/
import Derived.Test.YtfiblhdejglpaaaApartMath
namespace Go.FL
open Go.RowKit

theorem Own.keep {w w' : World} {base e : Nat} {v : Value} {l : List UInt8} {r : Option Nat} (h : Own w base e v l) (hb : w.grownBy w' r) (hr : ∀ k, v.ownBlock = some k → r ≠ some k) : Own w' base e v l := by
  rcases h with ⟨rfl, rfl⟩ | ⟨g, sp, h1, rfl, h2, h3⟩
  · exact .inl ⟨rfl, rfl⟩
  · exact .inr ⟨g, sp, h1, rfl, h2.grown hb (hr g rfl), h3⟩
/-- 'append(v, x...)': v a row of one's own, x any bytes. -/
theorem run_append_Own2 {P : Program} (w : World) (base : Nat) (t ty e : TypeId) (ht : P.underlying t = some (.slice e)) (hi : (P.info? e).map (fun i => (i.zero, i.size, i.bytes)) = some (some (.int .u8 0), 1, 1))
    (v x : Value) (l m : List UInt8) (hown : Own w base e v l) (hx : Rd w x m) (hlen : l.length + m.length ≤ 140737488355328) (hbase : base ≤ w.heap.size) :
    ∃ v' w', (Builtin.append_ #[t, t] ty #[v, x]).run P w = .ok v' w' ∧ Own w' base e v' (l ++ m) ∧ w.grownBy w' v.ownBlock ∧ (v'.ownBlock = v.ownBlock ∨ v'.ownBlock = some w.heap.size) := by
  obtain ⟨i, h1, h2, h3, h4⟩ := info_parts hi
  by_cases hm0 : m = []
  · subst hm0
    obtain ⟨p, c, rfl, hc, hpc⟩ := hx.empty rfl
    refine ⟨v, w, ?_, by simpa using hown, ⟨rfl, rfl, rfl, Nat.le_refl _, fun _ _ _ => rfl⟩, .inl rfl⟩
    have hle : ∃ vp vn vc, v = .slice vp vn vc ∧ vn ≤ vc := by
      rcases hown with ⟨rfl, rfl⟩ | ⟨g, sp, _, rfl, _, _⟩
      · exact ⟨none, 0, 0, rfl, Nat.le_refl _⟩
      · exact ⟨_, _, _, rfl, by omega⟩
    obtain ⟨vp, vn, vc, rfl, hle⟩ := hle
    cases p <;> cases vp <;> simp [Builtin.append_, run_underlying ht, sizeOf, typeInfo, h1, Builtin.lenOf, Builtin.firstCells, loadCells, loadCellsFrom, hle, storeCells]
  · have hpos : 0 < m.length := List.length_pos_iff.2 hm0
    obtain ⟨b, off, c, rfl, hmc, hcm, hcell⟩ := hx.at hpos
    have hnews : ∀ j u, (bytesV m)[j]? = some u → w.cell? ((⟨b, off, none⟩ : Addr).add j) = some u := by
      intro j u hu
      obtain ⟨hj, rfl⟩ := bytesV_get m j u hu
      rw [Addr.add_lit]
      exact hcell j hj
    have hnl : (bytesV m).length = m.length * i.size := by rw [bytesV_length, h3]; omega
    have grown : ∀ (old : Nat), old < l.length + m.length → ∀ (row : Option Nat),
        Own (w.drew.alloc (.cells ((bytesV l).toArray ++ (bytesV m).toArray ++ Builtin.zeroCells (Value.int .u8 0).cells (grownCap w (l.length + m.length) old e - (l.length + m.length))) e)) base e
          (.slice (some ⟨w.heap.size, 0, none⟩) (l.length + m.length) (grownCap w (l.length + m.length) old e)) (l ++ m) ∧
        w.grownBy (w.drew.alloc (.cells ((bytesV l).toArray ++ (bytesV m).toArray ++ Builtin.zeroCells (Value.int .u8 0).cells (grownCap w (l.length + m.length) old e - (l.length + m.length))) e)) row := by
      intro old _ row
      have hge := grownCap_ge w (l.length + m.length) old e
      have hcm' : grownCap w (l.length + m.length) old e ≤ maxLen := grownCap_le_maxLen w (l.length + m.length) old e (by unfold maxLen; omega)
      refine ⟨.inr ⟨w.heap.size, List.replicate (grownCap w (l.length + m.length) old e - (l.length + m.length)) 0, hbase, ?_, ?_, ?_⟩, ⟨rfl, rfl, rfl, by simp, fun k hk _ => Below.heap_alloc w.drew _ k hk⟩⟩
      · simp
        omega
      · have hcs : (bytesV l).toArray ++ (bytesV m).toArray ++ Builtin.zeroCells (Value.int .u8 0).cells (grownCap w (l.length + m.length) old e - (l.length + m.length)) = (bytesV (l ++ m ++ List.replicate (grownCap w (l.length + m.length) old e - (l.length + m.length)) 0)).toArray := by
          apply Array.ext'
          simp only [Array.toList_append, zeroCells_u8, bytesV_append]
        rw [hcs]
        exact heap_alloc_new w.drew _
      · simp
        omega
    rcases hown with ⟨rfl, rfl⟩ | ⟨g, sp, hbg, rfl, hrow, hcap⟩
    · have hr := run_append_nil (P := P) w t ty e i (.int .u8 0) ht h1 h2 ⟨b, off, none⟩ m.length c (bytesV m) hnl hnews hpos (by simp at hlen; omega) (by rw [h4]; simp at hlen; omega)
      have hgr := grown 0 (by simpa using hpos) (Value.ownBlock (.slice none 0 0))
      simp only [List.length_nil, Nat.zero_add, List.nil_append, bytesV, List.map_nil, Array.empty_append] at hgr ⊢
      exact ⟨_, _, hr, hgr.1, hgr.2, .inr rfl⟩
    · by_cases hroom : l.length + m.length ≤ l.length + sp.length
      · have hr := run_append_room (P := P) w t ty e i ht h1 g l.length (l.length + sp.length) (bytesV (l ++ sp)).toArray hrow ⟨b, off, none⟩ m.length c (bytesV m) hnl hnews (bytesV_oneCell m) hroom (by rw [h3]; simp [bytesV_length]; omega)
        refine ⟨_, _, hr, .inr ⟨g, sp.drop m.length, hbg, ?_, ?_, ?_⟩, ⟨rfl, rfl, rfl, by simp, fun k _ hk => setRow_other w g k _ (fun e => hk (by simp [Value.ownBlock, e]))⟩, .inl rfl⟩
        · simp
          omega
        · have hcs : (List.take (l.length * i.size) (bytesV (l ++ sp)).toArray.toList ++ bytesV m ++ List.drop (l.length * i.size + (bytesV m).length) (bytesV (l ++ sp)).toArray.toList) = bytesV (l ++ m ++ sp.drop m.length) := by
            simp only [h3, Nat.mul_one, bytesV_append, bytesV_length, bytesV_drop]
            have e1 : (bytesV l).length = l.length := bytesV_length l
            rw [List.take_append_of_le_length (by omega), List.take_of_length_le (by omega), List.drop_append, e1]
            simp
            omega
          rw [hcs]
          exact setRow_heap w g _ _ e _ hrow
        · simp
          omega
      · have holds : ∀ j u, (bytesV l)[j]? = some u → w.cell? ((⟨g, 0, none⟩ : Addr).add j) = some u := by
          intro j u hu
          obtain ⟨hj, rfl⟩ := bytesV_get l j u hu
          have := hrow.cell j (by simp; omega)
          rw [Addr.add_lit, Nat.zero_add, this]
          simp [hj]
        have hr := run_append_grow (P := P) w t ty e i (.int .u8 0) ht h1 h2 ⟨g, 0, none⟩ l.length (l.length + sp.length) (bytesV l) (by rw [bytesV_length, h3]; omega) holds ⟨b, off, none⟩ m.length c (bytesV m) hnl hnews (by omega) (by omega) (growslice_fits (by omega) (by rw [h4]; omega))
        have hgr := grown (l.length + sp.length) (by omega) (Value.ownBlock (.slice (some ⟨g, 0, none⟩) l.length (l.length + sp.length)))
        exact ⟨_, _, hr, hgr.1, hgr.2, .inr rfl⟩

/-- The same as a step of the walk. -/
theorem wpList_append_Own2 {P : Program} {w : World} {ops : Array Oper} {rest : List Oper} {o : Oper} {a : Act} {Q : Exit → Act → World → Prop} (hgd : o.guard = none) (s x : Operand) (t : TypeId)
    (ho : o.op = .call { callee := .builtin .append, args := #[s, x], argTypes := #[t, t] })
    (base e : Nat) (ht : P.underlying t = some (.slice e)) (hi : (P.info? e).map (fun i => (i.zero, i.size, i.bytes)) = some (some (.int .u8 0), 1, 1))
    (v u : Value) (l m : List UInt8) (hs : a.eval s = v) (hown : Own w base e v l) (hx : a.eval x = u) (hrd : Rd w u m) (hlen : l.length + m.length ≤ 140737488355328) (hbase : base ≤ w.heap.size)
    (h : ∀ v' w', Own w' base e v' (l ++ m) → w.grownBy w' v.ownBlock → (v'.ownBlock = v.ownBlock ∨ v'.ownBlock = some w.heap.size) → wpList P ops Q rest (a.put o.dst v') w') : wpList P ops Q (o :: rest) a w := by
  refine wpList_plain hgd fun K hK => ?_
  obtain ⟨v', w', hr, h2, h3, h4⟩ := run_append_Own2 (P := P) w base t o.type e ht hi v u l m hown hrd hlen hbase
  unfold Oper.wp execOp
  simp only [ho, resolve, invoke, builtin, Sem.run_bind, Sem.run_pure, Result.andThen_ok, List.map_toArray, List.map_cons, List.map_nil, hs, hx, hr]
  exact hK _ _ (h v' w' h2 h3 h4)
end Go.FL

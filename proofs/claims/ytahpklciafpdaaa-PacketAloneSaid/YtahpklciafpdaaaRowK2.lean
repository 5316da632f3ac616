/- 'append' to a row of one's own, of elements of K cells: told apart whether it goes in place or to new memory; and as an operation of a region whose new rows may be written again. Conditions: lengths that fit. No program in sight. -/
import Derived.Test.YtahpklciafpdaaaRowK
import Derived.Test.YtahpklciafpdaaaRegShape
set_option linter.unusedSimpArgs false
set_option linter.unusedVariables false
namespace Go.FL
open Go.RowKit

/-- A slice of n elements of K cells each. -/
def RdL (w : World) (K : Nat) (v : Value) (n : Nat) (l : List Value) : Prop :=
  l.length = n * K ∧ ∃ p c, v = .slice p n c ∧ n ≤ c ∧ c ≤ maxLen ∧ (∀ j (_ : j < l.length), ∃ b off, p = some ⟨b, off, none⟩ ∧ w.cell? ⟨b, off + j, none⟩ = some l[j])
theorem RdK.lax {w : World} {K n : Nat} {v : Value} {l : List Value} (h : RdK w K v n l) : RdL w K v n l := by
  obtain ⟨h0, p, c, h1, h2, h3, -, h5⟩ := h
  exact ⟨h0, p, c, h1, h2, h3, h5⟩
theorem RdL.mono {w w' : World} {K n : Nat} {v : Value} {l : List Value} (h : RdL w K v n l) (hb : Below w.heap.size w w') : RdL w' K v n l := by
  obtain ⟨h0, p, c, h1, h2, h3, h5⟩ := h
  exact ⟨h0, p, c, h1, h2, h3, fun j hj => let ⟨b, off, e, hc⟩ := h5 j hj; ⟨b, off, e, cell?_of_below hb hc⟩⟩
/-- How an append went. -/
def AppK (w : World) (base e K : Nat) (v : Value) (n k : Nat) (l m : List Value) (v' : Value) (w' : World) : Prop :=
  (GrR w w' ∧ (k = 0 ∨ (OwnK w' w.heap.size e K v' (n + k) (l ++ m) ∧ ∀ g mm, v = .slice (some ⟨g, 0, none⟩) n (n + mm) → mm < k))) ∨
  (∃ g mm sp, v = .slice (some ⟨g, 0, none⟩) n (n + mm) ∧ k ≤ mm ∧ base ≤ g ∧ List.length sp = mm * K ∧ RowV w g e (l ++ sp) ∧ v' = .slice (some ⟨g, 0, none⟩) (n + k) (n + mm) ∧ RowV w' g e (l ++ m ++ sp.drop m.length) ∧ w.grownBy w' (some g))
theorem run_append_OwnL {P : Program} (w : World) (base : Nat) (t ty e : TypeId) (z : Value) (K B : Nat) (hz : z.cells.size = K) (hK : 0 < K) (ht : P.underlying t = some (.slice e)) (hi : (P.info? e).map (fun i => (i.zero, i.size, i.bytes)) = some (some z, K, B))
    (v x : Value) (n k : Nat) (l m : List Value) (h1m : ∀ u ∈ m, u.oneCell' = true) (hown : OwnK w base e K v n l) (hx : RdL w K x k m) (hlen : (n + k) * B ≤ 140737488355328) (hlen2 : n + k ≤ 140737488355328) (hbase : base ≤ w.heap.size) :
    ∃ v' w', (Builtin.append_ #[t, t] ty #[v, x]).run P w = .ok v' w' ∧ OwnK w' base e K v' (n + k) (l ++ m) ∧ w.grownBy w' v.ownBlock ∧ AppK w base e K v n k l m v' w' := by
  obtain ⟨i, h1, h2, h3, h4⟩ : ∃ i, P.info? e = some i ∧ i.zero = some z ∧ i.size = K ∧ i.bytes = B := by
    cases hq : P.info? e with
    | none => simp [hq] at hi
    | some i => simp [hq] at hi; exact ⟨i, rfl, hi.1, hi.2.1, hi.2.2⟩
  by_cases hk0 : k = 0
  · subst hk0
    obtain ⟨hxl, p, c, rfl, hmc, hcm, hcell0⟩ := hx
    have hm0 : m = [] := List.length_eq_zero_iff.1 (by rw [hxl]; simp)
    subst hm0
    refine ⟨v, w, ?_, by simpa using hown, ⟨rfl, rfl, rfl, Nat.le_refl _, fun _ _ _ => rfl⟩, .inl ⟨GrR.refl _, .inl rfl⟩⟩
    have hle : ∃ vp vn vc, v = .slice vp vn vc ∧ vn ≤ vc := by
      obtain ⟨_, ⟨rfl, rfl⟩ | ⟨g, m, sp, _, rfl, _, _, _⟩⟩ := hown
      · exact ⟨none, 0, 0, rfl, Nat.le_refl _⟩
      · exact ⟨_, _, _, rfl, by omega⟩
    obtain ⟨vp, vn, vc, rfl, hle⟩ := hle
    cases p <;> cases vp <;> simp [Builtin.append_, run_underlying ht, sizeOf, typeInfo, h1, Builtin.lenOf, Builtin.firstCells, loadCells, loadCellsFrom, hle, storeCells]
  have hpos : 0 < k := by omega
  obtain ⟨hxl, p, c, rfl, hmc, hcm, hcell0⟩ := hx
  have hmpos : 0 < m.length := by rw [hxl]; exact Nat.mul_pos hpos hK
  obtain ⟨b, off, rfl, _⟩ := hcell0 0 hmpos
  have hnews : ∀ j u, m[j]? = some u → w.cell? ((⟨b, off, none⟩ : Addr).add j) = some u := by
    intro j u hu
    obtain ⟨hj, rfl⟩ := List.getElem?_eq_some_iff.1 hu
    obtain ⟨b', off', e', hc⟩ := hcell0 j hj
    simp at e'
    obtain ⟨rfl, rfl⟩ := e'
    rw [Addr.add_lit]
    exact hc
  have hnl : m.length = k * i.size := by rw [h3, hxl]
  have grown : l.length = n * K → ∀ (bs : Nat), bs ≤ w.heap.size → ∀ (old : Nat), old < n + k → ∀ (row : Option Nat),
      OwnK (w.drew.alloc (.cells (l.toArray ++ m.toArray ++ Builtin.zeroCells z.cells (grownCap w (n + k) old e - (n + k))) e)) bs e K
        (.slice (some ⟨w.heap.size, 0, none⟩) (n + k) (grownCap w (n + k) old e)) (n + k) (l ++ m) ∧
      w.grownBy (w.drew.alloc (.cells (l.toArray ++ m.toArray ++ Builtin.zeroCells z.cells (grownCap w (n + k) old e - (n + k))) e)) row := by
    intro hl bs hbs old _ row
    have hge := grownCap_ge w (n + k) old e
    have hcm' : grownCap w (n + k) old e ≤ maxLen := grownCap_le_maxLen w (n + k) old e (by unfold maxLen; omega)
    refine ⟨⟨by rw [List.length_append, hl, hxl, Nat.add_mul], .inr ⟨w.heap.size, grownCap w (n + k) old e - (n + k), (Builtin.zeroCells z.cells (grownCap w (n + k) old e - (n + k))).toList, hbs, ?_, ?_, ?_, ?_⟩⟩, ⟨rfl, rfl, rfl, by simp, fun k hk _ => Below.heap_alloc w.drew _ k hk⟩⟩
    · rw [show n + k + (grownCap w (n + k) old e - (n + k)) = grownCap w (n + k) old e by omega]
    · rw [zeroCells_len, hz]
    · have hcs : l.toArray ++ m.toArray ++ Builtin.zeroCells z.cells (grownCap w (n + k) old e - (n + k)) = (l ++ m ++ (Builtin.zeroCells z.cells (grownCap w (n + k) old e - (n + k))).toList).toArray := by
        apply Array.ext'
        simp only [Array.toList_append]
      rw [hcs]
      exact heap_alloc_new w.drew _
    · omega
  have hgr9 : ∀ o : Obj, GrR w (w.drew.alloc o) := fun o => ((Below.refl _ _).drew).alloc (Nat.le_refl _) o
  obtain ⟨hl, ⟨rfl, rfl⟩ | ⟨g, mm, sp, hbg, rfl, hsp, hrow, hcap⟩⟩ := hown
  · have hl0 : l = [] := List.length_eq_zero_iff.1 (by rw [hl]; simp)
    subst hl0
    have hr := run_append_nil (P := P) w t ty e i z ht h1 h2 ⟨b, off, none⟩ k c m hnl hnews hpos (by omega) (by rw [h4]; simp at hlen; omega)
    have hgr := grown hl base hbase 0 (by omega) (Value.ownBlock (.slice none 0 0))
    have hgr2 := grown hl w.heap.size (Nat.le_refl _) 0 (by omega) (Value.ownBlock (.slice none 0 0))
    simp only [Nat.zero_add, List.nil_append, Array.empty_append] at hgr hgr2 ⊢
    refine ⟨_, _, hr, hgr.1, hgr.2, .inl ⟨hgr9 _, .inr ⟨?_, fun g' mm' he => by simp at he⟩⟩⟩
    simpa using hgr2.1
  · by_cases hroom : n + k ≤ n + mm
    · have hkm : k * K ≤ mm * K := Nat.mul_le_mul_right _ (by omega)
      have hr := run_append_room (P := P) w t ty e i ht h1 g n (n + mm) (l ++ sp).toArray hrow ⟨b, off, none⟩ k c m hnl hnews h1m hroom (by rw [h3]; simp [hl, hsp, hxl]; omega)
      have hcs : (List.take (n * i.size) (l ++ sp).toArray.toList ++ m ++ List.drop (n * i.size + m.length) (l ++ sp).toArray.toList) = l ++ m ++ sp.drop m.length := by
        simp only [h3]
        rw [← hl, List.take_append_of_le_length (by omega), List.take_of_length_le (by omega), List.drop_append]
        simp
      have hgb : w.grownBy (w.setRow g (List.take (n * i.size) (l ++ sp).toArray.toList ++ m ++ List.drop (n * i.size + m.length) (l ++ sp).toArray.toList).toArray) (some g) := ⟨rfl, rfl, rfl, by simp, fun k _ hk => setRow_other w g k (List.take (n * i.size) (l ++ sp).toArray.toList ++ m ++ List.drop (n * i.size + m.length) (l ++ sp).toArray.toList).toArray (fun e => hk (by simp [e]))⟩
      have hrow' := setRow_heap w g (l ++ sp).toArray (List.take (n * i.size) (l ++ sp).toArray.toList ++ m ++ List.drop (n * i.size + m.length) (l ++ sp).toArray.toList).toArray e (0, 0) hrow
      refine ⟨_, _, hr, ⟨by rw [List.length_append, hl, hxl, Nat.add_mul], .inr ⟨g, mm - k, sp.drop m.length, hbg, ?_, ?_, ?_, ?_⟩⟩, hgb, .inr ⟨g, mm, sp, rfl, by omega, hbg, hsp, hrow, rfl, ?_, hgb⟩⟩
      · rw [show n + k + (mm - k) = n + mm by omega]
      · rw [List.length_drop, hsp, hxl, Nat.sub_mul]
      · rw [hcs] at hrow' ⊢
        exact hrow'
      · omega
      · rw [hcs] at hrow' ⊢
        exact hrow'
    · have holds : ∀ j u, l[j]? = some u → w.cell? ((⟨g, 0, none⟩ : Addr).add j) = some u := by
        intro j u hu
        obtain ⟨hj, rfl⟩ := List.getElem?_eq_some_iff.1 hu
        rw [Addr.add_lit, Nat.zero_add]
        simp [World.cell?, hrow, List.getElem_append_left hj, show j < l.length + sp.length by omega]
      have hr := run_append_grow (P := P) w t ty e i z ht h1 h2 ⟨g, 0, none⟩ n (n + mm) l (by rw [h3, hl]) holds ⟨b, off, none⟩ k c m hnl hnews (by omega) (by omega) (growslice_fits (by omega) (by rw [h4]; omega))
      have hgr := grown hl base hbase (n + mm) (by omega) (Value.ownBlock (.slice (some ⟨g, 0, none⟩) n (n + mm)))
      have hgr2 := grown hl w.heap.size (Nat.le_refl _) (n + mm) (by omega) (Value.ownBlock (.slice (some ⟨g, 0, none⟩) n (n + mm)))
      refine ⟨_, _, hr, hgr.1, hgr.2, .inl ⟨hgr9 _, .inr ⟨hgr2.1, fun g' mm' he => ?_⟩⟩⟩
      simp only [Value.slice.injEq] at he
      omega
/-- Such an append keeps the shape. -/
theorem AppK.gs {w w' : World} {base e K n k : Nat} {v v' : Value} {l m : List Value} {Φ : Nat → Value → Prop} (h : AppK w base e K v n k l m v' w') (hB : base ≤ w.heap.size) (hm : m.length = k * K) (hΦ : ∀ j u, m[j]? = some u → Φ (l.length + j) u) : GrS base Φ w w' := by
  rcases h with ⟨h, -⟩ | ⟨g, mm, sp, -, hkm, hg, hsp, hr, -, hr', hgb⟩
  · exact GrS.of_gr Φ hB h
  · have hle : m.length ≤ sp.length := by rw [hm, hsp]; exact Nat.mul_le_mul_right _ hkm
    refine ⟨⟨hgb.os, hgb.tape, hgb.output, hgb.size, fun k hk => hgb.block k (by omega) (fun e => by simp at e; omega)⟩, fun g' e' l' hg' hr2 => ?_⟩
    by_cases hgg : g' = g
    · subst hgg
      obtain ⟨rfl, rfl⟩ := rowV_fun hr hr2
      refine ⟨_, hr', by simp; omega, fun i => ?_⟩
      by_cases c1 : i < l.length
      · refine .inl ?_
        rw [List.append_assoc, List.getElem?_append_left c1, List.getElem?_append_left c1]
      · by_cases c2 : i < l.length + m.length
        · have hj : i - l.length < m.length := by omega
          refine .inr ⟨m[i - l.length], ?_, ?_⟩
          · rw [List.append_assoc, List.getElem?_append_right (by omega), List.getElem?_append_left hj]
            simp [hj]
          · have := hΦ (i - l.length) m[i - l.length] (by simp [hj])
            rwa [show l.length + (i - l.length) = i by omega] at this
        · refine .inl ?_
          rw [List.append_assoc, List.getElem?_append_right (by omega), List.getElem?_append_right (by omega), List.getElem?_drop, List.getElem?_append_right (by omega)]
          congr 1
          omega
    · refine ⟨l', ?_, rfl, fun _ => .inl rfl⟩
      unfold RowV at hr2 ⊢
      rw [hgb.block g' (Array.getElem?_eq_some_iff.1 hr2).1 (fun e => hgg (by simp at e; exact e)), hr2]
/-- The append as an operation of such a region. -/
theorem opOk_append_gs {P : Program} {o : Oper} {ρ : Operand → Value} {w : World} {post : Value → World → Prop} {s x : Operand} {t : TypeId} (ho : o.op = .call { callee := .builtin .append, args := #[s, x], argTypes := #[t, t] })
    (B : Nat) (Φ : Nat → Value → Prop) (e : Nat) (z : Value) (K Bz : Nat) (hz : z.cells.size = K) (hK : 0 < K) (ht : P.underlying t = some (.slice e)) (hi : (P.info? e).map (fun i => (i.zero, i.size, i.bytes)) = some (some z, K, Bz))
    (n k : Nat) (l m : List Value) (h1m : ∀ u ∈ m, u.oneCell' = true) (hown : OwnK w B e K (ρ s) n l) (hx : RdL w K (ρ x) k m) (hlen : (n + k) * Bz ≤ 140737488355328) (hlen2 : n + k ≤ 140737488355328) (hbase : B ≤ w.heap.size)
    (hΦ : ∀ j u, m[j]? = some u → Φ (l.length + j) u) (hpost : ∀ v' w', OwnK w' B e K v' (n + k) (l ++ m) → GrS B Φ w w' → post v' w') : opOk P o ρ w post := by
  obtain ⟨v', w', hr, h1, h2, h3⟩ := run_append_OwnL (P := P) w B t o.type e z K Bz hz hK ht hi (ρ s) (ρ x) n k l m h1m hown hx hlen hlen2 hbase
  refine opOk_val (v := v') (w' := w') ?_ (hpost v' w' h1 (h3.gs hbase hx.1 hΦ))
  unfold execOp
  simp only [ho, resolve, invoke, builtin, Sem.run_bind, Sem.run_pure, Result.andThen_ok, List.map_toArray, List.map_cons, List.map_nil, hr]
/-- The same as a step of the walk. -/
theorem wpList_append_OwnL {P : Program} {w : World} {ops : Array Oper} {rest : List Oper} {o : Oper} {a : Act} {Q : Exit → Act → World → Prop} (hgd : o.guard = none) (s x : Operand) (t : TypeId)
    (ho : o.op = .call { callee := .builtin .append, args := #[s, x], argTypes := #[t, t] })
    (base e : Nat) (z : Value) (K B : Nat) (hz : z.cells.size = K) (hK : 0 < K) (ht : P.underlying t = some (.slice e)) (hi : (P.info? e).map (fun i => (i.zero, i.size, i.bytes)) = some (some z, K, B))
    (v u : Value) (n k : Nat) (l m : List Value) (h1m : ∀ u ∈ m, u.oneCell' = true) (hs : a.eval s = v) (hown : OwnK w base e K v n l) (hx : a.eval x = u) (hrd : RdL w K u k m) (hlen : (n + k) * B ≤ 140737488355328) (hlen2 : n + k ≤ 140737488355328) (hbase : base ≤ w.heap.size)
    (h : ∀ v' w', OwnK w' base e K v' (n + k) (l ++ m) → w.grownBy w' v.ownBlock → AppK w base e K v n k l m v' w' → wpList P ops Q rest (a.put o.dst v') w') : wpList P ops Q (o :: rest) a w := by
  refine wpList_plain hgd fun K' hK' => ?_
  obtain ⟨v', w', hr, h2, h3, h4⟩ := run_append_OwnL (P := P) w base t o.type e z K B hz hK ht hi v u n k l m h1m hown hrd hlen hlen2 hbase
  unfold Oper.wp execOp
  simp only [ho, resolve, invoke, builtin, Sem.run_bind, Sem.run_pure, Result.andThen_ok, List.map_toArray, List.map_cons, List.map_nil, hs, hx, hr]
  exact hK' _ _ (h v' w' h2 h3 h4)
end Go.FL

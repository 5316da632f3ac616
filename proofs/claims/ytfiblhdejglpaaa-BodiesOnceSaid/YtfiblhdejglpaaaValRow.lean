/- Rows of one-cell values (strings, slices): what a slice of them reads as; a row of one's own; append to it. Conditions: none. No program in sight. -/
import Derived.Test.YtfiblhdejglpaaaMem
namespace Go.FL
open Go.RowKit

/-- The slice value v reads as the values l in the world w. -/
def RdV (w : World) (v : Value) (l : List Value) : Prop :=
  ∃ p c, v = .slice p l.length c ∧ l.length ≤ c ∧ c ≤ maxLen ∧ (p = none → c = 0) ∧
    (∀ j (_ : j < l.length), ∃ b off, p = some ⟨b, off, none⟩ ∧ w.cell? ⟨b, off + j, none⟩ = some l[j])
theorem RdV.mono {w w' : World} {v : Value} {l : List Value} (h : RdV w v l) (hb : Below w.heap.size w w') : RdV w' v l := by
  obtain ⟨p, c, h1, h2, h3, h4, h5⟩ := h
  exact ⟨p, c, h1, h2, h3, h4, fun j hj => let ⟨b, off, e, hc⟩ := h5 j hj; ⟨b, off, e, cell?_of_below hb hc⟩⟩

/-- v is a row of values of one's own, from block number base on; e: the element's type. -/
def OwnV (w : World) (base e : Nat) (v : Value) (l : List Value) : Prop :=
  (v = .slice none 0 0 ∧ l = []) ∨
  ∃ g sp, base ≤ g ∧ v = .slice (some ⟨g, 0, none⟩) l.length (l.length + List.length sp) ∧ w.heap[g]? = some (.cells (l ++ sp).toArray e (0, 0)) ∧ l.length + sp.length ≤ maxLen
theorem OwnV.nil (w : World) (base e : Nat) : OwnV w base e (.slice none 0 0) [] := .inl ⟨rfl, rfl⟩
theorem OwnV.mono {w w' : World} {base e : Nat} {v : Value} {l : List Value} (h : OwnV w base e v l) (hb : Below w.heap.size w w') : OwnV w' base e v l := by
  rcases h with ⟨rfl, rfl⟩ | ⟨g, sp, h1, rfl, hr, hm⟩
  · exact .inl ⟨rfl, rfl⟩
  · exact .inr ⟨g, sp, h1, rfl, by rw [hb.block g (Array.getElem?_eq_some_iff.1 hr).1, hr], hm⟩
theorem OwnV.alloc {w : World} {base e : Nat} {v : Value} {l : List Value} (h : OwnV w base e v l) (o : Obj) : OwnV (w.alloc o) base e v l :=
  h.mono ((Below.refl _ _).alloc (Nat.le_refl _) o)
theorem OwnV.ge {w : World} {base e : Nat} {v : Value} {l : List Value} (h : OwnV w base e v l) : ∀ k, v.ownBlock = some k → base ≤ k := by
  intro k hk
  rcases h with ⟨rfl, rfl⟩ | ⟨g, sp, h1, rfl, hr, hm⟩
  · simp [Value.ownBlock] at hk
  · simp [Value.ownBlock] at hk; omega
theorem OwnV.rd {w : World} {base e : Nat} {v : Value} {l : List Value} (h : OwnV w base e v l) : RdV w v l := by
  rcases h with ⟨rfl, rfl⟩ | ⟨g, sp, h1, rfl, hr, hm⟩
  · exact ⟨none, 0, rfl, Nat.le_refl _, Nat.zero_le _, fun _ => rfl, fun j h => by simp at h⟩
  · refine ⟨_, _, rfl, by omega, hm, by simp, fun j hj => ⟨g, 0, rfl, ?_⟩⟩
    simp [World.cell?, hr]
    rw [List.getElem?_append_left hj, List.getElem?_eq_getElem hj]
/-- It stays where other blocks change. -/
theorem OwnV.grown {w w' : World} {base e : Nat} {v : Value} {l : List Value} {r : Option Nat} (h : OwnV w base e v l) (hb : w.grownBy w' r) (hr : ∀ k, r = some k → k < base) : OwnV w' base e v l := by
  rcases h with ⟨rfl, rfl⟩ | ⟨g, sp, h1, rfl, hg, hm⟩
  · exact .inl ⟨rfl, rfl⟩
  · refine .inr ⟨g, sp, h1, rfl, ?_, hm⟩
    rw [hb.block g (Array.getElem?_eq_some_iff.1 hg).1 (fun e => by have := hr g e.symm; omega), hg]

theorem rdV_new (w : World) (e : Nat) (l : List Value) (n : Nat) (cs : Array Value) (hn : n = l.length) (hcs : cs = l.toArray) (hm : n ≤ maxLen) : RdV (w.alloc (.cells cs e (0, 0))) (.slice (some ⟨w.heap.size, 0, none⟩) n n) l := by
  subst hn hcs
  have : OwnV (w.alloc (.cells l.toArray e (0, 0))) 0 e (.slice (some ⟨w.heap.size, 0, none⟩) l.length l.length) l := .inr ⟨w.heap.size, [], Nat.zero_le _, by simp, by simpa using heap_alloc_new w _, by simpa using hm⟩
  exact this.rd

theorem zeroCells_one (z : Value) (hz : z.cells = #[z]) (n : Nat) : (Builtin.zeroCells z.cells n).toList = List.replicate n z := by
  apply List.ext_getElem?
  intro i
  simp [Builtin.zeroCells, hz, List.getElem?_replicate]
  by_cases h : i < n <;> simp [h, Nat.mod_one]

/-- 'append(v, x...)': v a row of one's own, x any values, each one cell. -/
theorem run_append_OwnV {P : Program} (w : World) (base : Nat) (t ty e : TypeId) (z : Value) (B : Nat) (hz : z.cells = #[z]) (ht : P.underlying t = some (.slice e)) (hi : (P.info? e).map (fun i => (i.zero, i.size, i.bytes)) = some (some z, 1, B))
    (v x : Value) (l m : List Value) (h1m : ∀ u ∈ m, u.oneCell' = true) (hpos : 0 < m.length) (hown : OwnV w base e v l) (hx : RdV w x m) (hlen : (l.length + m.length) * B ≤ 140737488355328) (hlen2 : l.length + m.length ≤ 140737488355328) (hbase : base ≤ w.heap.size) :
    ∃ v' w', (Builtin.append_ #[t, t] ty #[v, x]).run P w = .ok v' w' ∧ OwnV w' base e v' (l ++ m) ∧ w.grownBy w' v.ownBlock := by
  obtain ⟨i, h1, h2, h3, h4⟩ := info_parts hi
  obtain ⟨p, c, rfl, hmc, hcm, _, hcell0⟩ := hx
  obtain ⟨b, off, rfl, _⟩ := hcell0 0 hpos
  have hnews : ∀ j u, m[j]? = some u → w.cell? ((⟨b, off, none⟩ : Addr).add j) = some u := by
    intro j u hu
    obtain ⟨hj, rfl⟩ := List.getElem?_eq_some_iff.1 hu
    obtain ⟨b', off', e', hc⟩ := hcell0 j hj
    simp at e'
    obtain ⟨rfl, rfl⟩ := e'
    rw [Addr.add_lit]
    exact hc
  have hnl : m.length = m.length * i.size := by rw [h3]; omega
  have grown : ∀ (old : Nat), old < l.length + m.length → ∀ (row : Option Nat),
      OwnV (w.drew.alloc (.cells (l.toArray ++ m.toArray ++ Builtin.zeroCells z.cells (grownCap w (l.length + m.length) old e - (l.length + m.length))) e)) base e
        (.slice (some ⟨w.heap.size, 0, none⟩) (l.length + m.length) (grownCap w (l.length + m.length) old e)) (l ++ m) ∧
      w.grownBy (w.drew.alloc (.cells (l.toArray ++ m.toArray ++ Builtin.zeroCells z.cells (grownCap w (l.length + m.length) old e - (l.length + m.length))) e)) row := by
    intro old _ row
    have hge := grownCap_ge w (l.length + m.length) old e
    have hcm' : grownCap w (l.length + m.length) old e ≤ maxLen := grownCap_le_maxLen w (l.length + m.length) old e (by unfold maxLen; omega)
    refine ⟨.inr ⟨w.heap.size, List.replicate (grownCap w (l.length + m.length) old e - (l.length + m.length)) z, hbase, ?_, ?_, ?_⟩, ⟨rfl, rfl, rfl, by simp, fun k hk _ => Below.heap_alloc w.drew _ k hk⟩⟩
    · simp
      omega
    · have hcs : l.toArray ++ m.toArray ++ Builtin.zeroCells z.cells (grownCap w (l.length + m.length) old e - (l.length + m.length)) = (l ++ m ++ List.replicate (grownCap w (l.length + m.length) old e - (l.length + m.length)) z).toArray := by
        apply Array.ext'
        simp only [Array.toList_append, zeroCells_one z hz]
      rw [hcs]
      exact heap_alloc_new w.drew _
    · simp
      omega
  rcases hown with ⟨rfl, rfl⟩ | ⟨g, sp, hbg, rfl, hrow, hcap⟩
  · have hr := run_append_nil (P := P) w t ty e i z ht h1 h2 ⟨b, off, none⟩ m.length c m hnl hnews hpos (by simp at hlen2; omega) (by rw [h4]; simp at hlen; omega)
    have hgr := grown 0 (by simpa using hpos) (Value.ownBlock (.slice none 0 0))
    simp only [List.length_nil, Nat.zero_add, List.nil_append, Array.empty_append] at hgr ⊢
    exact ⟨_, _, hr, hgr.1, hgr.2⟩
  · by_cases hroom : l.length + m.length ≤ l.length + sp.length
    · have hr := run_append_room (P := P) w t ty e i ht h1 g l.length (l.length + sp.length) (l ++ sp).toArray hrow ⟨b, off, none⟩ m.length c m hnl hnews h1m hroom (by rw [h3]; simp; omega)
      refine ⟨_, _, hr, .inr ⟨g, sp.drop m.length, hbg, ?_, ?_, ?_⟩, ⟨rfl, rfl, rfl, by simp, fun k _ hk => setRow_other w g k _ (fun e => hk (by simp [Value.ownBlock, e]))⟩⟩
      · simp
        omega
      · have hcs : (List.take (l.length * i.size) (l ++ sp).toArray.toList ++ m ++ List.drop (l.length * i.size + m.length) (l ++ sp).toArray.toList) = l ++ m ++ sp.drop m.length := by
          simp only [h3, Nat.mul_one]
          rw [List.take_append_of_le_length (by omega), List.take_of_length_le (by omega), List.drop_append]
          simp
        rw [hcs]
        exact setRow_heap w g _ _ e _ hrow
      · simp
        omega
    · have holds : ∀ j u, l[j]? = some u → w.cell? ((⟨g, 0, none⟩ : Addr).add j) = some u := by
        intro j u hu
        obtain ⟨hj, rfl⟩ := List.getElem?_eq_some_iff.1 hu
        rw [Addr.add_lit, Nat.zero_add]
        simp [World.cell?, hrow, List.getElem_append_left hj, show j < l.length + sp.length by omega]
      have hr := run_append_grow (P := P) w t ty e i z ht h1 h2 ⟨g, 0, none⟩ l.length (l.length + sp.length) l (by rw [h3]; omega) holds ⟨b, off, none⟩ m.length c m hnl hnews (by omega) (by omega) (growslice_fits (by omega) (by rw [h4]; omega))
      have hgr := grown (l.length + sp.length) (by omega) (Value.ownBlock (.slice (some ⟨g, 0, none⟩) l.length (l.length + sp.length)))
      exact ⟨_, _, hr, hgr.1, hgr.2⟩

/-- The same as a step of the walk. -/
theorem wpList_append_OwnV {P : Program} {w : World} {ops : Array Oper} {rest : List Oper} {o : Oper} {a : Act} {Q : Exit → Act → World → Prop} (hgd : o.guard = none) (s x : Operand) (t : TypeId)
    (ho : o.op = .call { callee := .builtin .append, args := #[s, x], argTypes := #[t, t] })
    (base e : Nat) (z : Value) (B : Nat) (hz : z.cells = #[z]) (ht : P.underlying t = some (.slice e)) (hi : (P.info? e).map (fun i => (i.zero, i.size, i.bytes)) = some (some z, 1, B))
    (v u : Value) (l m : List Value) (h1m : ∀ u ∈ m, u.oneCell' = true) (hpos : 0 < m.length) (hs : a.eval s = v) (hown : OwnV w base e v l) (hx : a.eval x = u) (hrd : RdV w u m) (hlen : (l.length + m.length) * B ≤ 140737488355328) (hlen2 : l.length + m.length ≤ 140737488355328) (hbase : base ≤ w.heap.size)
    (h : ∀ v' w', OwnV w' base e v' (l ++ m) → w.grownBy w' v.ownBlock → wpList P ops Q rest (a.put o.dst v') w') : wpList P ops Q (o :: rest) a w := by
  refine wpList_plain hgd fun K hK => ?_
  obtain ⟨v', w', hr, h2, h3⟩ := run_append_OwnV (P := P) w base t o.type e z B hz ht hi v u l m h1m hpos hown hrd hlen hlen2 hbase
  unfold Oper.wp execOp
  simp only [ho, resolve, invoke, builtin, Sem.run_bind, Sem.run_pure, Result.andThen_ok, List.map_toArray, List.map_cons, List.map_nil, hs, hx, hr]
  exact hK _ _ (h v' w' h2 h3)
end Go.FL

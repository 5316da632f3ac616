/- Chunks in rows of one's own: what keeps them; append inside a fence. Conditions: none. No program in sight but for the types. -/
import Derived.Test.YtahpklciafpdaaaPktIter
import Derived.Test.YtahpklciafpdaaaRowK
set_option linter.unusedSimpArgs false
set_option linter.unusedVariables false
namespace Go.FL
open Go.RowKit

def chkCell (c : Chk) (s : Value) : List Value := [.int .u8 (c.k.toNat : Int), .int .u8 (c.f.toNat : Int), s]
def chkCells : List Chk → List Value → List Value
  | c :: cs, s :: ss => chkCell c s ++ chkCells cs ss
  | _, _ => []
theorem chkCells_snoc : ∀ (cs : List Chk) (ss : List Value) (c : Chk) (s : Value), cs.length = ss.length → chkCells (cs ++ [c]) (ss ++ [s]) = chkCells cs ss ++ chkCell c s
  | [], [], c, s, _ => by simp [chkCells]
  | c0 :: cs, s0 :: ss, c, s, h => by
    simp only [List.cons_append, chkCells]
    rw [chkCells_snoc cs ss c s (by simpa using h), List.append_assoc]
theorem chkCells_at : ∀ (cs : List Chk) (ss : List Value) (i : Nat) (h : i < cs.length) (h' : i < ss.length),
    (chkCells cs ss)[i * 3]? = some (.int .u8 (cs[i].k.toNat : Int)) ∧ (chkCells cs ss)[i * 3 + 1]? = some (.int .u8 (cs[i].f.toNat : Int)) ∧ (chkCells cs ss)[i * 3 + 2]? = some ss[i]
  | c :: cs, s :: ss, 0, _, _ => by simp [chkCells, chkCell]
  | c :: cs, s :: ss, i + 1, h, h' => by
    have := chkCells_at cs ss i (by simpa using h) (by simpa using h')
    have e : (i + 1) * 3 = (i * 3) + 3 := by omega
    have e1 : (i + 1) * 3 + 1 = (i * 3 + 1) + 3 := by omega
    have e2 : (i + 1) * 3 + 2 = (i * 3 + 2) + 3 := by omega
    simp only [e, e1, e2, chkCells, chkCell, List.cons_append, List.nil_append, List.getElem?_cons_succ, List.getElem_cons_succ]
    exact this
/-- The rows from block B on lie as they lay. -/
def Hold (B : Nat) (w w' : World) : Prop := ∀ (k : Nat) (o : Obj), B ≤ k → w.heap[k]? = some o → o.isCells = true → w'.heap[k]? = some o
theorem Hold.of_below {B : Nat} {w w' : World} (h : Below w.heap.size w w') : Hold B w w' := fun k _ _ hk _ => (h.block k (Array.getElem?_eq_some_iff.1 hk).1).trans hk
theorem Own.hold {w w' : World} {base e : Nat} {v : Value} {l : List UInt8} (h : Own w base e v l) (hk : Hold base w w') : Own w' base e v l := by
  rcases h with ⟨rfl, rfl⟩ | ⟨g, sp, h1, rfl, hr, hm⟩
  · exact .inl ⟨rfl, rfl⟩
  · exact .inr ⟨g, sp, h1, rfl, hk g _ h1 hr rfl, hm⟩
theorem OwnK.hold {w w' : World} {base e K n : Nat} {v : Value} {l : List Value} (h : OwnK w base e K v n l) (hk : Hold base w w') : OwnK w' base e K v n l := by
  obtain ⟨h0, ⟨rfl, rfl⟩ | ⟨g, m, sp, h1, rfl, h2, hr, hm⟩⟩ := h
  · exact ⟨h0, .inl ⟨rfl, rfl⟩⟩
  · exact ⟨h0, .inr ⟨g, m, sp, h1, rfl, h2, hk g _ h1 hr rfl, hm⟩⟩
theorem OwnK.form {w : World} {base e K n : Nat} {v : Value} {l : List Value} (h : OwnK w base e K v n l) : ∃ p c, v = .slice p n c := by
  obtain ⟨h0, ⟨rfl, rfl⟩ | ⟨g, m, sp, h1, rfl, h2, hr, hm⟩⟩ := h
  · exact ⟨_, _, rfl⟩
  · exact ⟨_, _, rfl⟩
/-- Rows of two types are two rows. -/
theorem own_ne {w : World} {base base' e e' K n : Nat} {v s : Value} {l : List Value} {m : List UInt8} (h : OwnK w base e K v n l) (k : Own w base' e' s m) (hne : e ≠ e') : ∀ j, s.ownBlock = some j → v.ownBlock ≠ some j := by
  intro j hj hv
  rcases k with ⟨rfl, rfl⟩ | ⟨g, sp, h1, rfl, hr, hm⟩
  · simp [Value.ownBlock] at hj
  · obtain ⟨h0, ⟨rfl, rfl⟩ | ⟨g', m', sp', h1', rfl, h2, hr', hm'⟩⟩ := h
    · simp [Value.ownBlock] at hv
    · simp [Value.ownBlock] at hj hv
      subst hj hv
      unfold Row at hr
      rw [hr] at hr'
      injection hr' with hr'
      injection hr' with _ he
      exact hne he.symm
def ChunksOwn (n₀ eC eB : Nat) (W : World) (v : Value) (cs : List Chk) : Prop :=
  ∃ ss : List Value, cs.length = ss.length ∧ OwnK W n₀ eC 3 v cs.length (chkCells cs ss) ∧ ∀ i (_ : i < cs.length) (_ : i < ss.length), Own W n₀ eB ss[i] cs[i].b
theorem ChunksOwn.nil (n₀ eC eB : Nat) (W : World) : ChunksOwn n₀ eC eB W (.slice none 0 0) [] := ⟨[], rfl, OwnK.nil _ _ _ _, fun i h _ => absurd h (by simp)⟩
theorem ChunksOwn.hold {n₀ eC eB : Nat} {w w' : World} {v : Value} {cs : List Chk} (h : ChunksOwn n₀ eC eB w v cs) (hk : Hold n₀ w w') : ChunksOwn n₀ eC eB w' v cs := by
  obtain ⟨ss, h1, h2, h3⟩ := h
  exact ⟨ss, h1, h2.hold hk, fun i a b => (h3 i a b).hold hk⟩
theorem ChunksOwn.mono {n₀ eC eB : Nat} {w w' : World} {v : Value} {cs : List Chk} (h : ChunksOwn n₀ eC eB w v cs) (hb : Below w.heap.size w w') : ChunksOwn n₀ eC eB w' v cs := h.hold (.of_below hb)
theorem ChunksOwn.base {n₀ n₁ eC eB : Nat} {w : World} {v : Value} {cs : List Chk} (h : ChunksOwn n₀ eC eB w v cs) (hb : n₁ ≤ n₀) : ChunksOwn n₁ eC eB w v cs := by
  obtain ⟨ss, h1, h2, h3⟩ := h
  exact ⟨ss, h1, h2.base hb, fun i a b => (h3 i a b).base hb⟩
theorem ChunksOwn.at {n₀ eC eB : Nat} {w : World} {v : Value} {cs : List Chk} (h : ChunksOwn n₀ eC eB w v cs) : ChunksAt w v cs := by
  obtain ⟨ss, h1, h2, h3⟩ := h
  obtain ⟨h0, p, c, rfl, hle, hcm, -, hcell⟩ := h2.rd
  refine ⟨p, c, rfl, hle, hcm, fun i hi => ?_⟩
  have hi' : i < ss.length := by omega
  obtain ⟨a0, a1, a2⟩ := chkCells_at cs ss i hi hi'
  have g : ∀ j (u : Value), (chkCells cs ss)[j]? = some u → ∃ b off, p = some ⟨b, off, none⟩ ∧ w.cell? ⟨b, off + j, none⟩ = some u := by
    intro j u hj
    obtain ⟨hl, rfl⟩ := List.getElem?_eq_some_iff.1 hj
    obtain ⟨b, off, rfl, hc⟩ := hcell j hl
    exact ⟨b, off, rfl, hc⟩
  obtain ⟨b, off, rfl, k0⟩ := g _ _ a0
  obtain ⟨b1, off1, e1, k1⟩ := g _ _ a1
  obtain ⟨b2, off2, e2, k2⟩ := g _ _ a2
  simp at e1 e2
  obtain ⟨rfl, rfl⟩ := e1
  obtain ⟨rfl, rfl⟩ := e2
  exact ⟨b, off, ss[i], rfl, k0, by rw [Nat.add_assoc]; exact k1, by rw [Nat.add_assoc]; exact k2, (h3 i hi hi').rd⟩
/-- The same, the bodies' slices given. -/
def ChunksOwnS (n₀ eC eB : Nat) (W : World) (v : Value) (cs : List Chk) (ss : List Value) : Prop :=
  cs.length = ss.length ∧ OwnK W n₀ eC 3 v cs.length (chkCells cs ss) ∧ ∀ i (_ : i < cs.length) (_ : i < ss.length), Own W n₀ eB ss[i] cs[i].b
theorem ChunksOwnS.own {n₀ eC eB : Nat} {W : World} {v : Value} {cs : List Chk} {ss : List Value} (h : ChunksOwnS n₀ eC eB W v cs ss) : ChunksOwn n₀ eC eB W v cs := ⟨ss, h⟩
theorem ChunksOwnS.hold {n₀ eC eB : Nat} {w w' : World} {v : Value} {cs : List Chk} {ss : List Value} (h : ChunksOwnS n₀ eC eB w v cs ss) (hk : Hold n₀ w w') : ChunksOwnS n₀ eC eB w' v cs ss := ⟨h.1, h.2.1.hold hk, fun i a b => (h.2.2 i a b).hold hk⟩
theorem ChunksOwnS.mono {n₀ eC eB : Nat} {w w' : World} {v : Value} {cs : List Chk} {ss : List Value} (h : ChunksOwnS n₀ eC eB w v cs ss) (hb : Below w.heap.size w w') : ChunksOwnS n₀ eC eB w' v cs ss := h.hold (.of_below hb)
theorem ChunksOwnS.base {n₀ n₁ eC eB : Nat} {w : World} {v : Value} {cs : List Chk} {ss : List Value} (h : ChunksOwnS n₀ eC eB w v cs ss) (hb : n₁ ≤ n₀) : ChunksOwnS n₁ eC eB w v cs ss := ⟨h.1, h.2.1.base hb, fun i a b => (h.2.2 i a b).base hb⟩
theorem ChunksOwnS.nil (n₀ eC eB : Nat) (W : World) : ChunksOwnS n₀ eC eB W (.slice none 0 0) [] [] := ⟨rfl, OwnK.nil _ _ _ _, fun i h _ => absurd h (by simp)⟩
/-- Behind an append of one chunk. -/
theorem ChunksOwnS.snoc {n₀ eC eB : Nat} {w w' : World} {v v' s : Value} {cs : List Chk} {ss : List Value} {c : Chk} (hne : eC ≠ eB) (h1 : cs.length = ss.length) (h2 : OwnK w n₀ eC 3 v cs.length (chkCells cs ss)) (h3 : ∀ i (_ : i < cs.length) (_ : i < ss.length), Own w n₀ eB ss[i] cs[i].b)
    (hs : Own w n₀ eB s c.b) (hg : w.grownBy w' v.ownBlock) (hn : OwnK w' n₀ eC 3 v' (cs.length + 1) (chkCells cs ss ++ chkCell c s)) : ChunksOwnS n₀ eC eB w' v' (cs ++ [c]) (ss ++ [s]) := by
  refine ⟨by simp [h1], ?_, fun i a b => ?_⟩
  · rw [chkCells_snoc _ _ _ _ h1, List.length_append]
    exact hn
  · have hq : ∀ u m, Own w n₀ eB u m → Own w' n₀ eB u m := fun u m hu => hu.keep hg (own_ne h2 hu hne)
    by_cases hi : i < cs.length
    · have e1 : (ss ++ [s])[i] = ss[i]'(by omega) := List.getElem_append_left (by omega)
      have e2 : (cs ++ [c])[i] = cs[i] := List.getElem_append_left hi
      rw [e1, e2]
      exact hq _ _ (h3 i hi (by omega))
    · have hi2 : i = cs.length := by
        simp at a
        omega
      subst hi2
      have e1 : (ss ++ [s])[cs.length] = s := by simp [h1]
      have e2 : (cs ++ [c])[cs.length] = c := by simp
      rw [e1, e2]
      exact hq _ _ hs

/-- Behind an append of one chunk. -/
theorem ChunksOwn.snoc {n₀ eC eB : Nat} {w w' : World} {v v' s : Value} {cs : List Chk} {ss : List Value} {c : Chk} (hne : eC ≠ eB) (h1 : cs.length = ss.length) (h2 : OwnK w n₀ eC 3 v cs.length (chkCells cs ss)) (h3 : ∀ i (_ : i < cs.length) (_ : i < ss.length), Own w n₀ eB ss[i] cs[i].b)
    (hs : Own w n₀ eB s c.b) (hg : w.grownBy w' v.ownBlock) (hn : OwnK w' n₀ eC 3 v' (cs.length + 1) (chkCells cs ss ++ chkCell c s)) : ChunksOwn n₀ eC eB w' v' (cs ++ [c]) :=
  (ChunksOwnS.snoc hne h1 h2 h3 hs hg hn).own
/-- A turn of what is no cells, or of block B, leaves the rows beyond B. -/
theorem hold_turn {D B n₁ : Nat} {W W' : World} {r : Nat} (hg : W.grownBy W' (some r)) (hr : r = B ∨ (D ≤ r ∧ ∃ o : Obj, W.heap[r]? = some o ∧ o.isCells = false)) (hB : B < n₁) : Hold n₁ W W' := by
  intro k o hk ho hc
  refine (hg.block k (Array.getElem?_eq_some_iff.1 ho).1 ?_).trans ho
  intro e
  simp at e
  subst e
  rcases hr with rfl | ⟨_, o', ho', hc'⟩
  · omega
  · rw [ho] at ho'
    injection ho' with ho'
    subst ho'
    rw [hc] at hc'
    simp at hc'
theorem row_turn {D B g e : Nat} {l : List Value} {W W' : World} {r : Nat} (h : RowV W g e l) (hg : W.grownBy W' (some r)) (hr : r = B ∨ (D ≤ r ∧ ∃ o : Obj, W.heap[r]? = some o ∧ o.isCells = false)) (hB : g ≠ B) : RowV W' g e l := by
  refine h.grown hg ?_
  intro e
  simp at e
  subst e
  rcases hr with rfl | ⟨_, o', ho', hc'⟩
  · exact hB rfl
  · unfold RowV at h
    rw [h] at ho'
    injection ho' with ho'
    subst ho'
    simp [Obj.isCells] at hc'

/-- The step of the walk, inside a fence. -/
theorem wpListIn_append_OwnK {F : Fence} {nF : Nat} {P : Program} {w : World} {ops : Array Oper} {rest : List Oper} {o : Oper} {a : Act} {Q : Exit → Act → World → Prop} (hgd : o.guard = none) (s x : Operand) (t : TypeId)
    (ho : o.op = .call { callee := .builtin .append, args := #[s, x], argTypes := #[t, t] })
    (base e : Nat) (z : Value) (K B : Nat) (hz : z.cells.size = K) (hK : 0 < K) (ht : P.underlying t = some (.slice e)) (hi : (P.info? e).map (fun i => (i.zero, i.size, i.bytes)) = some (some z, K, B))
    (v u : Value) (n k : Nat) (l m : List Value) (h1m : ∀ u ∈ m, u.oneCell' = true) (hs : a.eval s = v) (hown : OwnK w base e K v n l) (hx : a.eval x = u) (hrd : RdK w K u k m) (hlen : (n + k) * B ≤ 140737488355328) (hlen2 : n + k ≤ 140737488355328) (hbase : base ≤ w.heap.size)
    (h : ∀ v' w', OwnK w' base e K v' (n + k) (l ++ m) → w.grownBy w' v.ownBlock → wpListIn F nF P ops Q rest (a.put o.dst v') w') : wpListIn F nF P ops Q (o :: rest) a w := by
  refine wpListIn_plain hgd fun K' hK' => ?_
  obtain ⟨v', w', hr, h2, h3⟩ := run_append_OwnK (P := P) w base t o.type e z K B hz hK ht hi v u n k l m h1m hown hrd hlen hlen2 hbase
  unfold Oper.wpIn
  refine ⟨by simp [Oper.about, ho, resolve, Target.leads, Sem.run_pure], ?_⟩
  rw [Oper.semAt_plain F _ _ (by rw [ho]; intro c hc'; cases hc')]
  simp [execOp, ho, resolve, invoke, builtin, hs, hx, hr, Result.andThen]
  exact hK' _ _ (h v' w' h2 h3)
/-- A packet in rows of its own. -/
def PktOwn (n₀ eC eB : Nat) (w : World) (v : Value) (p : Pkt) : Prop := ∃ s, v = .agg #[.int .u32 (p.tag : Int), s] ∧ ChunksOwn n₀ eC eB w s p.cs ∧ p.tag < 4294967296
theorem PktOwn.at {n₀ eC eB : Nat} {w : World} {v : Value} {p : Pkt} (h : PktOwn n₀ eC eB w v p) : PktAt w v p := by
  obtain ⟨s, h1, h2, h3⟩ := h
  exact ⟨s, h1, h2.at, h3⟩
theorem PktOwn.mono {n₀ eC eB : Nat} {w w' : World} {v : Value} {p : Pkt} (h : PktOwn n₀ eC eB w v p) (hb : Below w.heap.size w w') : PktOwn n₀ eC eB w' v p := by
  obtain ⟨s, h1, h2, h3⟩ := h
  exact ⟨s, h1, h2.mono hb, h3⟩
/-- The same, the bodies in rows that lie one above the other. -/
def PktOwnA (n₀ eC eB : Nat) (w : World) (v : Value) (p : Pkt) : Prop := ∃ s ss, v = .agg #[.int .u32 (p.tag : Int), s] ∧ ChunksOwnS n₀ eC eB w s p.cs ss ∧ ss.Pairwise AscV ∧ p.tag < 4294967296
theorem PktOwnA.own {n₀ eC eB : Nat} {w : World} {v : Value} {p : Pkt} (h : PktOwnA n₀ eC eB w v p) : PktOwn n₀ eC eB w v p := by
  obtain ⟨s, ss, h1, h2, -, h3⟩ := h
  exact ⟨s, h1, h2.own, h3⟩
end Go.FL

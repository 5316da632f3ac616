/- Joined: ValRow, ApartMath. -/
import Derived.Test.YtiimlanbbfhkjaaDoorBaseA
import Derived.Laws.BytesArg
set_option linter.unusedSimpArgs false
set_option linter.unusedVariables false


namespace Go.FL

open Go.RowKit

/-- The slice value v reads as the values l in the world w. -/
def RdV (w : World) (v : Value) (l : List Value) : Prop :=
  ∃ p c, v = .slice p l.length c ∧ l.length ≤ c ∧ c ≤ maxLen ∧ (p = none → c = 0) ∧
    (∀ j (_ : j < l.length), ∃ b off, p = some ⟨b, off, none⟩ ∧ w.cell? ⟨b, off + j, none⟩ = some l[j])
theorem RdV.mono {w w' : World} {v : Value} {l : List Value} (h : RdV w v l) (hb : Below w.heap.size w w') : RdV w' v l := by
  obtain ⟨p, c, h1, h2, h3, h4, h5⟩ := h
  exact ⟨p, c, h1, h2, h3, h4, fun j hj => let ⟨b, off, e, hc⟩ := h5 j hj; ⟨b, off, e, cell?_of_below hb hc⟩⟩

/-- v is a row of values of one's own, from block number base on; e: the element's type. -/
def OwnV (w : World) (base e : Nat) (v : Value) (l : List Value) : Prop :=
  (v = .slice none 0 0 ∧ l = []) ∨
  ∃ g sp, base ≤ g ∧ v = .slice (some ⟨g, 0, none⟩) l.length (l.length + List.length sp) ∧ w.heap[g]? = some (.cells (l ++ sp).toArray e (0, 0)) ∧ l.length + sp.length ≤ maxLen
theorem OwnV.nil (w : World) (base e : Nat) : OwnV w base e (.slice none 0 0) [] := .inl ⟨rfl, rfl⟩
theorem OwnV.mono {w w' : World} {base e : Nat} {v : Value} {l : List Value} (h : OwnV w base e v l) (hb : Below w.heap.size w w') : OwnV w' base e v l := by
  rcases h with ⟨rfl, rfl⟩ | ⟨g, sp, h1, rfl, hr, hm⟩
  · exact .inl ⟨rfl, rfl⟩
  · exact .inr ⟨g, sp, h1, rfl, by rw [hb.block g (Array.getElem?_eq_some_iff.1 hr).1, hr], hm⟩
theorem OwnV.alloc {w : World} {base e : Nat} {v : Value} {l : List Value} (h : OwnV w base e v l) (o : Obj) : OwnV (w.alloc o) base e v l :=
  h.mono ((Below.refl _ _).alloc (Nat.le_refl _) o)
theorem OwnV.ge {w : World} {base e : Nat} {v : Value} {l : List Value} (h : OwnV w base e v l) : ∀ k, v.ownBlock = some k → base ≤ k := by
  intro k hk
  rcases h with ⟨rfl, rfl⟩ | ⟨g, sp, h1, rfl, hr, hm⟩
  · simp [Value.ownBlock] at hk
  · simp [Value.ownBlock] at hk; omega
theorem OwnV.rd {w : World} {base e : Nat} {v : Value} {l : List Value} (h : OwnV w base e v l) : RdV w v l := by
  rcases h with ⟨rfl, rfl⟩ | ⟨g, sp, h1, rfl, hr, hm⟩
  · exact ⟨none, 0, rfl, Nat.le_refl _, Nat.zero_le _, fun _ => rfl, fun j h => by simp at h⟩
  · refine ⟨_, _, rfl, by omega, hm, by simp, fun j hj => ⟨g, 0, rfl, ?_⟩⟩
    simp [World.cell?, hr]
    rw [List.getElem?_append_left hj, List.getElem?_eq_getElem hj]
/-- It stays where other blocks change. -/
theorem OwnV.grown {w w' : World} {base e : Nat} {v : Value} {l : List Value} {r : Option Nat} (h : OwnV w base e v l) (hb : w.grownBy w' r) (hr : ∀ k, r = some k → k < base) : OwnV w' base e v l := by
  rcases h with ⟨rfl, rfl⟩ | ⟨g, sp, h1, rfl, hg, hm⟩
  · exact .inl ⟨rfl, rfl⟩
  · refine .inr ⟨g, sp, h1, rfl, ?_, hm⟩
    rw [hb.block g (Array.getElem?_eq_some_iff.1 hg).1 (fun e => by have := hr g e.symm; omega), hg]

theorem rdV_new (w : World) (e : Nat) (l : List Value) (n : Nat) (cs : Array Value) (hn : n = l.length) (hcs : cs = l.toArray) (hm : n ≤ maxLen) : RdV (w.alloc (.cells cs e (0, 0))) (.slice (some ⟨w.heap.size, 0, none⟩) n n) l := by
  subst hn hcs
  have : OwnV (w.alloc (.cells l.toArray e (0, 0))) 0 e (.slice (some ⟨w.heap.size, 0, none⟩) l.length l.length) l := .inr ⟨w.heap.size, [], Nat.zero_le _, by simp, by simpa using heap_alloc_new w _, by simpa using hm⟩
  exact this.rd

theorem zeroCells_one (z : Value) (hz : z.cells = #[z]) (n : Nat) : (Builtin.zeroCells z.cells n).toList = List.replicate n z := by
  apply List.ext_getElem?
  intro i
  simp [Builtin.zeroCells, hz, List.getElem?_replicate]
  by_cases h : i < n <;> simp [h, Nat.mod_one]

/-- 'append(v, x...)': v a row of one's own, x any values, each one cell. -/
theorem run_append_OwnV {P : Program} (w : World) (base : Nat) (t ty e : TypeId) (z : Value) (B : Nat) (hz : z.cells = #[z]) (ht : P.underlying t = some (.slice e)) (hi : (P.info? e).map (fun i => (i.zero, i.size, i.bytes)) = some (some z, 1, B))
    (v x : Value) (l m : List Value) (h1m : ∀ u ∈ m, u.oneCell' = true) (hpos : 0 < m.length) (hown : OwnV w base e v l) (hx : RdV w x m) (hlen : (l.length + m.length) * B ≤ 140737488355328) (hlen2 : l.length + m.length ≤ 140737488355328) (hbase : base ≤ w.heap.size) :
    ∃ v' w', (Builtin.append_ #[t, t] ty #[v, x]).run P w = .ok v' w' ∧ OwnV w' base e v' (l ++ m) ∧ w.grownBy w' v.ownBlock := by
  obtain ⟨i, h1, h2, h3, h4⟩ := info_parts hi
  obtain ⟨p, c, rfl, hmc, hcm, _, hcell0⟩ := hx
  obtain ⟨b, off, rfl, _⟩ := hcell0 0 hpos
  have hnews : ∀ j u, m[j]? = some u → w.cell? ((⟨b, off, none⟩ : Addr).add j) = some u := by
    intro j u hu
    obtain ⟨hj, rfl⟩ := List.getElem?_eq_some_iff.1 hu
    obtain ⟨b', off', e', hc⟩ := hcell0 j hj
    simp at e'
    obtain ⟨rfl, rfl⟩ := e'
    rw [Addr.add_lit]
    exact hc
  have hnl : m.length = m.length * i.size := by rw [h3]; omega
  have grown : ∀ (old : Nat), old < l.length + m.length → ∀ (row : Option Nat),
      OwnV (w.drew.alloc (.cells (l.toArray ++ m.toArray ++ Builtin.zeroCells z.cells (grownCap w (l.length + m.length) old e - (l.length + m.length))) e)) base e
        (.slice (some ⟨w.heap.size, 0, none⟩) (l.length + m.length) (grownCap w (l.length + m.length) old e)) (l ++ m) ∧
      w.grownBy (w.drew.alloc (.cells (l.toArray ++ m.toArray ++ Builtin.zeroCells z.cells (grownCap w (l.length + m.length) old e - (l.length + m.length))) e)) row := by
    intro old _ row
    have hge := grownCap_ge w (l.length + m.length) old e
    have hcm' : grownCap w (l.length + m.length) old e ≤ maxLen := grownCap_le_maxLen w (l.length + m.length) old e (by unfold maxLen; omega)
    refine ⟨.inr ⟨w.heap.size, List.replicate (grownCap w (l.length + m.length) old e - (l.length + m.length)) z, hbase, ?_, ?_, ?_⟩, ⟨rfl, rfl, rfl, by simp, fun k hk _ => Below.heap_alloc w.drew _ k hk⟩⟩
    · simp
      omega
    · have hcs : l.toArray ++ m.toArray ++ Builtin.zeroCells z.cells (grownCap w (l.length + m.length) old e - (l.length + m.length)) = (l ++ m ++ List.replicate (grownCap w (l.length + m.length) old e - (l.length + m.length)) z).toArray := by
        apply Array.ext'
        simp only [Array.toList_append, zeroCells_one z hz]
      rw [hcs]
      exact heap_alloc_new w.drew _
    · simp
      omega
  rcases hown with ⟨rfl, rfl⟩ | ⟨g, sp, hbg, rfl, hrow, hcap⟩
  · have hr := run_append_nil (P := P) w t ty e i z ht h1 h2 ⟨b, off, none⟩ m.length c m hnl hnews hpos (by simp at hlen2; omega) (by rw [h4]; simp at hlen; omega)
    have hgr := grown 0 (by simpa using hpos) (Value.ownBlock (.slice none 0 0))
    simp only [List.length_nil, Nat.zero_add, List.nil_append, Array.empty_append] at hgr ⊢
    exact ⟨_, _, hr, hgr.1, hgr.2⟩
  · by_cases hroom : l.length + m.length ≤ l.length + sp.length
    · have hr := run_append_room (P := P) w t ty e i ht h1 g l.length (l.length + sp.length) (l ++ sp).toArray hrow ⟨b, off, none⟩ m.length c m hnl hnews h1m hroom (by rw [h3]; simp; omega)
      refine ⟨_, _, hr, .inr ⟨g, sp.drop m.length, hbg, ?_, ?_, ?_⟩, ⟨rfl, rfl, rfl, by simp, fun k _ hk => setRow_other w g k _ (fun e => hk (by simp [Value.ownBlock, e]))⟩⟩
      · simp
        omega
      · have hcs : (List.take (l.length * i.size) (l ++ sp).toArray.toList ++ m ++ List.drop (l.length * i.size + m.length) (l ++ sp).toArray.toList) = l ++ m ++ sp.drop m.length := by
          simp only [h3, Nat.mul_one]
          rw [List.take_append_of_le_length (by omega), List.take_of_length_le (by omega), List.drop_append]
          simp
        rw [hcs]
        exact setRow_heap w g _ _ e _ hrow
      · simp
        omega
    · have holds : ∀ j u, l[j]? = some u → w.cell? ((⟨g, 0, none⟩ : Addr).add j) = some u := by
        intro j u hu
        obtain ⟨hj, rfl⟩ := List.getElem?_eq_some_iff.1 hu
        rw [Addr.add_lit, Nat.zero_add]
        simp [World.cell?, hrow, List.getElem_append_left hj, show j < l.length + sp.length by omega]
      have hr := run_append_grow (P := P) w t ty e i z ht h1 h2 ⟨g, 0, none⟩ l.length (l.length + sp.length) l (by rw [h3]; omega) holds ⟨b, off, none⟩ m.length c m hnl hnews (by omega) (by omega) (growslice_fits (by omega) (by rw [h4]; omega))
      have hgr := grown (l.length + sp.length) (by omega) (Value.ownBlock (.slice (some ⟨g, 0, none⟩) l.length (l.length + sp.length)))
      exact ⟨_, _, hr, hgr.1, hgr.2⟩

/-- The same as a step of the walk. -/
theorem wpList_append_OwnV {P : Program} {w : World} {ops : Array Oper} {rest : List Oper} {o : Oper} {a : Act} {Q : Exit → Act → World → Prop} (hgd : o.guard = none) (s x : Operand) (t : TypeId)
    (ho : o.op = .call { callee := .builtin .append, args := #[s, x], argTypes := #[t, t] })
    (base e : Nat) (z : Value) (B : Nat) (hz : z.cells = #[z]) (ht : P.underlying t = some (.slice e)) (hi : (P.info? e).map (fun i => (i.zero, i.size, i.bytes)) = some (some z, 1, B))
    (v u : Value) (l m : List Value) (h1m : ∀ u ∈ m, u.oneCell' = true) (hpos : 0 < m.length) (hs : a.eval s = v) (hown : OwnV w base e v l) (hx : a.eval x = u) (hrd : RdV w u m) (hlen : (l.length + m.length) * B ≤ 140737488355328) (hlen2 : l.length + m.length ≤ 140737488355328) (hbase : base ≤ w.heap.size)
    (h : ∀ v' w', OwnV w' base e v' (l ++ m) → w.grownBy w' v.ownBlock → wpList P ops Q rest (a.put o.dst v') w') : wpList P ops Q (o :: rest) a w := by
  refine wpList_plain hgd fun K hK => ?_
  obtain ⟨v', w', hr, h2, h3⟩ := run_append_OwnV (P := P) w base t o.type e z B hz ht hi v u l m h1m hpos hown hrd hlen hlen2 hbase
  unfold Oper.wp execOp
  simp only [ho, resolve, invoke, builtin, Sem.run_bind, Sem.run_pure, Result.andThen_ok, List.map_toArray, List.map_cons, List.map_nil, hs, hx, hr]
  exact hK _ _ (h v' w' h2 h3)
end Go.FL





namespace Go.FL

open Go.RowKit

/-- A row: its block, its bytes, the bytes of the room behind it. -/
structure ARow where
  g : Option Nat
  l : List UInt8
  s : List UInt8
def ARow.val (r : ARow) : Value := match r.g with
  | none => .slice none r.l.length (r.l.length + r.s.length)
  | some g => .slice (some ⟨g, 0, none⟩) r.l.length (r.l.length + r.s.length)
def ARow.all (r : ARow) : Value := match r.g with
  | none => .slice none (r.l.length + r.s.length) (r.l.length + r.s.length)
  | some g => .slice (some ⟨g, 0, none⟩) (r.l.length + r.s.length) (r.l.length + r.s.length)
theorem ARow.val_eq (r : ARow) : r.val = .slice (r.g.map fun g => ⟨g, 0, none⟩) r.l.length (r.l.length + r.s.length) := by
  obtain ⟨g, l, s⟩ := r
  cases g <;> rfl
theorem ARow.all_eq (r : ARow) : r.all = .slice (r.g.map fun g => ⟨g, 0, none⟩) (r.l.length + r.s.length) (r.l.length + r.s.length) := by
  obtain ⟨g, l, s⟩ := r
  cases g <;> rfl
/-- It lies so in the world w; e: the bytes' type. -/
def ARow.lies (w : World) (e : Nat) (r : ARow) : Prop :=
  r.l.length + r.s.length ≤ maxLen ∧ (r.g = none → r.l = [] ∧ r.s = []) ∧ ∀ g, r.g = some g → Row w g e (r.l ++ r.s)
theorem ARow.lies.mono {w w' : World} {e : Nat} {r : ARow} (h : r.lies w e) (hb : Below w.heap.size w w') : r.lies w' e :=
  ⟨h.1, h.2.1, fun g hg => (h.2.2 g hg).mono hb⟩
theorem ARow.lies.rd {w : World} {e : Nat} {r : ARow} (h : r.lies w e) : Rd w r.val r.l := by
  obtain ⟨g, l, s⟩ := r
  obtain ⟨h1, h2, h3⟩ := h
  cases g with
  | none =>
    obtain ⟨hl, hs⟩ := h2 rfl
    simp at hl hs
    subst hl hs
    exact Rd.nil w
  | some g =>
    have := (h3 g rfl).rd l.length (l.length + s.length) (by simp) (by omega) h1
    simpa [ARow.val] using this
theorem ARow.lies.grown {w w' : World} {e : Nat} {r : ARow} {b : Option Nat} (h : r.lies w e) (hb : w.grownBy w' b) (hr : ∀ k, b = some k → r.g ≠ some k) : r.lies w' e :=
  ⟨h.1, h.2.1, fun g hg => (h.2.2 g hg).grown hb (fun e => hr g e hg)⟩

/-- What string(b) is. -/
def strOf (l : List UInt8) : Value := .string (strOfNums (l.map fun b => (b.toNat : Int)))
theorem run_convert_rd {P : Program} (w : World) (src e dst : TypeId) (hs : P.underlying src = some (.slice e)) (he : P.underlying e = some (.int .u8)) (hd : P.underlying dst = some .string) (v : Value) (l : List UInt8) (h : Rd w v l) :
    (convert src dst v).run P w = .ok (strOf l) w := by
  obtain ⟨p, c, rfl, hlc, hcm, hpn, hcell⟩ := h
  cases p with
  | none =>
    have hl : l = [] := by
      cases l with
      | nil => rfl
      | cons x r => obtain ⟨_, _, e, _⟩ := hcell 0 (by simp); cases e
    subst hl
    exact run_convert_bytes_nil w src e hs he _ _ dst hd
  | some a =>
    by_cases h0 : l = []
    · subst h0
      rw [run_convert_bytes_string w src dst e _ _ c hs he hd]
      simp [Conv.bytesToString, loadCells, loadCellsFrom]
      rfl
    · obtain ⟨b, off, e', _⟩ := hcell 0 (List.length_pos_iff.2 h0)
      simp at e'
      subst e'
      refine run_convert_bytes_arg w src e hs he b off l.length c (l.map fun b => (b.toNat : Int)) (by simp) (fun i hi => ?_) dst hd
      obtain ⟨b', off', e', hc⟩ := hcell i hi
      simp at e'
      obtain ⟨rfl, rfl⟩ := e'
      rw [hc]
      simp [List.getD, hi]

/-- The first k bytes turned. -/
def turned (l : List UInt8) (k : Nat) : List UInt8 := (l.take k).map (~~~ ·) ++ l.drop k
theorem turned_length (l : List UInt8) (k : Nat) : (turned l k).length = l.length := by simp [turned]; omega
theorem turned_zero (l : List UInt8) : turned l 0 = l := by simp [turned]
theorem turned_get (l : List UInt8) (k : Nat) (h : k < l.length) : (turned l k)[k]'(by rw [turned_length]; exact h) = l[k] := by
  simp [turned, Nat.min_eq_left (Nat.le_of_lt h)]
theorem turned_step (l : List UInt8) (k : Nat) (h : k < l.length) : (turned l k).set k (~~~ l[k]) = turned l (k + 1) := by
  have h3 : ((l.take k).map (~~~ ·)).length = k := by simp; omega
  unfold turned
  rw [List.set_append, h3, if_neg (Nat.lt_irrefl k), Nat.sub_self, List.drop_eq_getElem_cons h, List.set_cons_zero, List.take_succ_eq_append_getElem h, List.map_append, List.append_assoc]
  rfl
theorem turned_all (l : List UInt8) : turned l l.length = l.map (~~~ ·) := by simp [turned]
theorem turned_back (l : List UInt8) : turned (turned l l.length) l.length = l := by
  rw [turned_all]
  have : l.length = (l.map (~~~ ·)).length := by simp
  rw [this, turned_all, List.map_map]
  conv => rhs; rw [← List.map_id l]
  apply List.map_congr_left
  intro x _
  simp

/-- The world w with the row's bytes turned so far; nothing else is another one. -/
def Turned (w w' : World) (e : Nat) (r : ARow) (m : List UInt8) : Prop := w.grownBy w' r.g ∧ ∀ g, r.g = some g → Row w' g e m
theorem Turned.start {w : World} {e : Nat} {r : ARow} (h : r.lies w e) : Turned w w e r (r.l ++ r.s) :=
  ⟨⟨rfl, rfl, rfl, Nat.le_refl _, fun _ _ _ => rfl⟩, h.2.2⟩
theorem Turned.back {w w' : World} {e : Nat} {r : ARow} (h : r.lies w e) (k : Turned w w' e r (r.l ++ r.s)) : Below w.heap.size w w' := by
  refine ⟨k.1.os, k.1.tape, k.1.output, k.1.size, fun i hi => ?_⟩
  by_cases hg : r.g = some i
  · have h1 := h.2.2 i hg
    have h2 := k.2 i hg
    unfold Row at h1 h2
    rw [h1, h2]
  · exact k.1.block i hi (fun e => hg e.symm)
theorem Turned.store {w w' : World} {e : Nat} {r : ARow} {m : List UInt8} (k : Turned w w' e r m) (g : Nat) (hg : r.g = some g) (j : Nat) (b : UInt8) : Turned w (w'.setCell ⟨g, j, none⟩ (.int .u8 (b.toNat : Int))) e r (m.set j b) := by
  refine ⟨⟨k.1.os, k.1.tape, k.1.output, ?_, fun i hi hne => ?_⟩, fun g' hg' => ?_⟩
  · have := k.1.size
    simpa [World.setCell] using this
  · have hne' : g ≠ i := fun e => hne (by rw [hg, e])
    have := k.1.block i hi hne
    rw [← this]
    exact Below.heap_setCell _ _ _ _ (Ne.symm hne')
  · rw [hg] at hg'
    simp at hg'
    subst hg'
    exact (k.2 g hg).store j b

/-- A row of one's own, as a row with its room. -/
theorem Own.arow {w : World} {base e : Nat} {v : Value} {l : List UInt8} (h : Own w base e v l) : ∃ r : ARow, r.val = v ∧ r.l = l ∧ r.lies w e ∧ ∀ g, r.g = some g → base ≤ g ∧ g < w.heap.size := by
  rcases h with ⟨rfl, rfl⟩ | ⟨g, sp, hb, rfl, hr, hm⟩
  · exact ⟨⟨none, [], []⟩, rfl, rfl, ⟨Nat.zero_le _, fun _ => ⟨rfl, rfl⟩, fun g hg => by cases hg⟩, fun g hg => by cases hg⟩
  · refine ⟨⟨some g, l, sp⟩, rfl, rfl, ⟨hm, fun h => (by cases h), fun g' hg => ?_⟩, fun g' hg => ?_⟩
    · cases hg
      exact hr
    · cases hg
      exact ⟨hb, hr.lt⟩
def ARow.far (r s : ARow) : Prop := ∀ g, r.g = some g → s.g ≠ some g
theorem far_of {r s : ARow} {B : Nat} (h1 : ∀ g, r.g = some g → g < B) (h2 : ∀ g, s.g = some g → B ≤ g) : r.far s := by
  intro g hr hs
  have := h1 g hr
  have := h2 g hs
  omega
theorem ARow.far.symm {r s : ARow} (h : r.far s) : s.far r := fun g hs hr => h g hr hs
theorem rows_far {rs : List ARow} (h : rs.Pairwise ARow.far) : ∀ i j (hi : i < rs.length) (hj : j < rs.length), i ≠ j → ∀ g, rs[i].g = some g → rs[j].g ≠ some g := by
  intro i j hi hj hij
  rw [List.pairwise_iff_getElem] at h
  rcases Nat.lt_or_gt_of_ne hij with h1 | h1
  · exact h i j hi hj h1
  · exact (h j i hj hi h1).symm
theorem rows_lie {rs : List ARow} {w : World} {e : Nat} (h : ∀ r ∈ rs, r.lies w e) : ∀ i (hi : i < rs.length), rs[i].lies w e := fun _ hi => h _ (List.getElem_mem hi)
theorem ARow.lies.alloc {w : World} {e : Nat} {r : ARow} (h : r.lies w e) (o : Obj) : r.lies (w.alloc o) e := h.mono ((Below.refl _ _).alloc (Nat.le_refl _) o)
theorem ARow.lies.drewN {w : World} {e : Nat} {r : ARow} (h : r.lies w e) (n : Nat) : r.lies (w.drewN n) e := h
theorem u64_nat (a : Int) (h : (Lit.int .u64 a).wf = true) : ∃ s : Nat, a = (s : Int) ∧ s < 18446744073709551616 := by
  simp [Lit.wf, IntKind.min, IntKind.max, IntKind.signed, IntKind.bits] at h
  exact ⟨a.toNat, by omega, by omega⟩
theorem Rd.form {w : World} {v : Value} {l : List UInt8} (h : Rd w v l) : ∃ p n c, v = .slice p n c := by
  obtain ⟨p, c, rfl, _⟩ := h
  exact ⟨_, _, _, rfl⟩
end Go.FL

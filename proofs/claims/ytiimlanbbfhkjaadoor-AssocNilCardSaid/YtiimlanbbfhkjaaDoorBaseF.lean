/- Joined: Mem2, CopyRow, EqArr, RowK, RowK2. -/
import Derived.Test.YtiimlanbbfhkjaaDoorBaseE
import Derived.Test.YtiimlanbbfhkjaaDoorBaseC
import Derived.Laws.CopyOwn
import Derived.Test.YtiimlanbbfhkjaaDoorBaseA
import Derived.DeepKeys
set_option linter.unusedSimpArgs false
set_option linter.unusedVariables false


namespace Go.FL

open Go.RowKit

theorem Own.keep {w w' : World} {base e : Nat} {v : Value} {l : List UInt8} {r : Option Nat} (h : Own w base e v l) (hb : w.grownBy w' r) (hr : ∀ k, v.ownBlock = some k → r ≠ some k) : Own w' base e v l := by
  rcases h with ⟨rfl, rfl⟩ | ⟨g, sp, h1, rfl, h2, h3⟩
  · exact .inl ⟨rfl, rfl⟩
  · exact .inr ⟨g, sp, h1, rfl, h2.grown hb (hr g rfl), h3⟩
/-- 'append(v, x...)': v a row of one's own, x any bytes. -/
theorem run_append_Own2 {P : Program} (w : World) (base : Nat) (t ty e : TypeId) (ht : P.underlying t = some (.slice e)) (hi : (P.info? e).map (fun i => (i.zero, i.size, i.bytes)) = some (some (.int .u8 0), 1, 1))
    (v x : Value) (l m : List UInt8) (hown : Own w base e v l) (hx : Rd w x m) (hlen : l.length + m.length ≤ 140737488355328) (hbase : base ≤ w.heap.size) :
    ∃ v' w', (Builtin.append_ #[t, t] ty #[v, x]).run P w = .ok v' w' ∧ Own w' base e v' (l ++ m) ∧ w.grownBy w' v.ownBlock ∧ (v'.ownBlock = v.ownBlock ∨ v'.ownBlock = some w.heap.size) := by
  obtain ⟨i, h1, h2, h3, h4⟩ := info_parts hi
  by_cases hm0 : m = []
  · subst hm0
    obtain ⟨p, c, rfl, hc, hpc⟩ := hx.empty rfl
    refine ⟨v, w, ?_, by simpa using hown, ⟨rfl, rfl, rfl, Nat.le_refl _, fun _ _ _ => rfl⟩, .inl rfl⟩
    have hle : ∃ vp vn vc, v = .slice vp vn vc ∧ vn ≤ vc := by
      rcases hown with ⟨rfl, rfl⟩ | ⟨g, sp, _, rfl, _, _⟩
      · exact ⟨none, 0, 0, rfl, Nat.le_refl _⟩
      · exact ⟨_, _, _, rfl, by omega⟩
    obtain ⟨vp, vn, vc, rfl, hle⟩ := hle
    cases p <;> cases vp <;> simp [Builtin.append_, run_underlying ht, sizeOf, typeInfo, h1, Builtin.lenOf, Builtin.firstCells, loadCells, loadCellsFrom, hle, storeCells]
  · have hpos : 0 < m.length := List.length_pos_iff.2 hm0
    obtain ⟨b, off, c, rfl, hmc, hcm, hcell⟩ := hx.at hpos
    have hnews : ∀ j u, (bytesV m)[j]? = some u → w.cell? ((⟨b, off, none⟩ : Addr).add j) = some u := by
      intro j u hu
      obtain ⟨hj, rfl⟩ := bytesV_get m j u hu
      rw [Addr.add_lit]
      exact hcell j hj
    have hnl : (bytesV m).length = m.length * i.size := by rw [bytesV_length, h3]; omega
    have grown : ∀ (old : Nat), old < l.length + m.length → ∀ (row : Option Nat),
        Own (w.drew.alloc (.cells ((bytesV l).toArray ++ (bytesV m).toArray ++ Builtin.zeroCells (Value.int .u8 0).cells (grownCap w (l.length + m.length) old e - (l.length + m.length))) e)) base e
          (.slice (some ⟨w.heap.size, 0, none⟩) (l.length + m.length) (grownCap w (l.length + m.length) old e)) (l ++ m) ∧
        w.grownBy (w.drew.alloc (.cells ((bytesV l).toArray ++ (bytesV m).toArray ++ Builtin.zeroCells (Value.int .u8 0).cells (grownCap w (l.length + m.length) old e - (l.length + m.length))) e)) row := by
      intro old _ row
      have hge := grownCap_ge w (l.length + m.length) old e
      have hcm' : grownCap w (l.length + m.length) old e ≤ maxLen := grownCap_le_maxLen w (l.length + m.length) old e (by unfold maxLen; omega)
      refine ⟨.inr ⟨w.heap.size, List.replicate (grownCap w (l.length + m.length) old e - (l.length + m.length)) 0, hbase, ?_, ?_, ?_⟩, ⟨rfl, rfl, rfl, by simp, fun k hk _ => Below.heap_alloc w.drew _ k hk⟩⟩
      · simp
        omega
      · have hcs : (bytesV l).toArray ++ (bytesV m).toArray ++ Builtin.zeroCells (Value.int .u8 0).cells (grownCap w (l.length + m.length) old e - (l.length + m.length)) = (bytesV (l ++ m ++ List.replicate (grownCap w (l.length + m.length) old e - (l.length + m.length)) 0)).toArray := by
          apply Array.ext'
          simp only [Array.toList_append, zeroCells_u8, bytesV_append]
        rw [hcs]
        exact heap_alloc_new w.drew _
      · simp
        omega
    rcases hown with ⟨rfl, rfl⟩ | ⟨g, sp, hbg, rfl, hrow, hcap⟩
    · have hr := run_append_nil (P := P) w t ty e i (.int .u8 0) ht h1 h2 ⟨b, off, none⟩ m.length c (bytesV m) hnl hnews hpos (by simp at hlen; omega) (by rw [h4]; simp at hlen; omega)
      have hgr := grown 0 (by simpa using hpos) (Value.ownBlock (.slice none 0 0))
      simp only [List.length_nil, Nat.zero_add, List.nil_append, bytesV, List.map_nil, Array.empty_append] at hgr ⊢
      exact ⟨_, _, hr, hgr.1, hgr.2, .inr rfl⟩
    · by_cases hroom : l.length + m.length ≤ l.length + sp.length
      · have hr := run_append_room (P := P) w t ty e i ht h1 g l.length (l.length + sp.length) (bytesV (l ++ sp)).toArray hrow ⟨b, off, none⟩ m.length c (bytesV m) hnl hnews (bytesV_oneCell m) hroom (by rw [h3]; simp [bytesV_length]; omega)
        refine ⟨_, _, hr, .inr ⟨g, sp.drop m.length, hbg, ?_, ?_, ?_⟩, ⟨rfl, rfl, rfl, by simp, fun k _ hk => setRow_other w g k _ (fun e => hk (by simp [Value.ownBlock, e]))⟩, .inl rfl⟩
        · simp
          omega
        · have hcs : (List.take (l.length * i.size) (bytesV (l ++ sp)).toArray.toList ++ bytesV m ++ List.drop (l.length * i.size + (bytesV m).length) (bytesV (l ++ sp)).toArray.toList) = bytesV (l ++ m ++ sp.drop m.length) := by
            simp only [h3, Nat.mul_one, bytesV_append, bytesV_length, bytesV_drop]
            have e1 : (bytesV l).length = l.length := bytesV_length l
            rw [List.take_append_of_le_length (by omega), List.take_of_length_le (by omega), List.drop_append, e1]
            simp
            omega
          rw [hcs]
          exact setRow_heap w g _ _ e _ hrow
        · simp
          omega
      · have holds : ∀ j u, (bytesV l)[j]? = some u → w.cell? ((⟨g, 0, none⟩ : Addr).add j) = some u := by
          intro j u hu
          obtain ⟨hj, rfl⟩ := bytesV_get l j u hu
          have := hrow.cell j (by simp; omega)
          rw [Addr.add_lit, Nat.zero_add, this]
          simp [hj]
        have hr := run_append_grow (P := P) w t ty e i (.int .u8 0) ht h1 h2 ⟨g, 0, none⟩ l.length (l.length + sp.length) (bytesV l) (by rw [bytesV_length, h3]; omega) holds ⟨b, off, none⟩ m.length c (bytesV m) hnl hnews (by omega) (by omega) (growslice_fits (by omega) (by rw [h4]; omega))
        have hgr := grown (l.length + sp.length) (by omega) (Value.ownBlock (.slice (some ⟨g, 0, none⟩) l.length (l.length + sp.length)))
        exact ⟨_, _, hr, hgr.1, hgr.2, .inr rfl⟩

/-- The same as a step of the walk. -/
theorem wpList_append_Own2 {P : Program} {w : World} {ops : Array Oper} {rest : List Oper} {o : Oper} {a : Act} {Q : Exit → Act → World → Prop} (hgd : o.guard = none) (s x : Operand) (t : TypeId)
    (ho : o.op = .call { callee := .builtin .append, args := #[s, x], argTypes := #[t, t] })
    (base e : Nat) (ht : P.underlying t = some (.slice e)) (hi : (P.info? e).map (fun i => (i.zero, i.size, i.bytes)) = some (some (.int .u8 0), 1, 1))
    (v u : Value) (l m : List UInt8) (hs : a.eval s = v) (hown : Own w base e v l) (hx : a.eval x = u) (hrd : Rd w u m) (hlen : l.length + m.length ≤ 140737488355328) (hbase : base ≤ w.heap.size)
    (h : ∀ v' w', Own w' base e v' (l ++ m) → w.grownBy w' v.ownBlock → (v'.ownBlock = v.ownBlock ∨ v'.ownBlock = some w.heap.size) → wpList P ops Q rest (a.put o.dst v') w') : wpList P ops Q (o :: rest) a w := by
  refine wpList_plain hgd fun K hK => ?_
  obtain ⟨v', w', hr, h2, h3, h4⟩ := run_append_Own2 (P := P) w base t o.type e ht hi v u l m hown hrd hlen hbase
  unfold Oper.wp execOp
  simp only [ho, resolve, invoke, builtin, Sem.run_bind, Sem.run_pure, Result.andThen_ok, List.map_toArray, List.map_cons, List.map_nil, hs, hx, hr]
  exact hK _ _ (h v' w' h2 h3 h4)
end Go.FL




namespace Go.FL

open Go.RowKit

/-- A new block, written whole. -/
theorem gr_boxed {w1 w2 : World} {o : Obj} {r : Option Nat} (h : (w1.alloc o).grownBy w2 r) (hr : r = some w1.heap.size) : Below w1.heap.size w1 w2 := by
  subst hr
  exact ((Below.refl _ _).alloc (Nat.le_refl _) _).trans (gb_below h (Nat.le_refl _) (by simp))
theorem run_copy_rd {P : Program} (w : World) (dT sT ty elem : TypeId) (hu : P.underlying dT = some (.slice elem)) (hsz : (P.info? elem).map (·.size) = some 1)
    (g off dLen dCap : Nat) (v : Value) (l : List UInt8) (hv : Rd w v l) (k : Nat) (hk : k = Nat.min l.length dLen) (cur : List Value) (t : TypeId) (hg : RowV w g t cur) (hfit : off + k ≤ cur.length) :
    ∃ w', (Builtin.copy_ #[dT, sT] ty #[.slice (some ⟨g, off, none⟩) dLen dCap, v]).run P w = .ok (.int .i64 (k : Int)) w' ∧ RowV w' g t (splice cur off (bytesV (l.take k))) ∧ w.grownBy w' (some g) := by
  by_cases h0 : l.length = 0
  · obtain ⟨p, c, rfl, _, _⟩ := hv.empty (List.length_eq_zero_iff.1 h0)
    have hk0 : k = 0 := by
      have h1 : k ≤ l.length := by rw [hk]; exact Nat.min_le_left _ _
      omega
    subst hk0
    have hrun := run_copy_none (P := P) w dT sT ty elem (some ⟨g, off, none⟩) p dLen dCap 0 c hu hsz (Nat.zero_min _)
    refine ⟨w, hrun, ?_, gb_refl _ _⟩
    have : splice cur off (bytesV (l.take 0)) = cur := by simp [splice, bytesV]
    rw [this]
    exact hg
  · obtain ⟨b, off', c, rfl, _, _, hcell⟩ := hv.at (by omega)
    have hkl : (bytesV (l.take k)).length = k := by
      have : k ≤ l.length := by rw [hk]; exact Nat.min_le_left _ _
      rw [bytesV_length]; simp; omega
    have hrun := run_copy_row (P := P) w dT sT ty elem g off dLen dCap ⟨b, off', none⟩ l.length c cur.toArray t (bytesV (l.take k)) hu hsz hg (by rw [hkl, hk]) (fun j u hj => by
      obtain ⟨hj', rfl⟩ := bytesV_get _ j u hj
      rw [Addr.add_lit]
      simp at hj'
      rw [hcell j (by omega)]
      simp) (by simp [hkl]; omega) (bytesV_oneCell _)
    rw [hkl] at hrun
    refine ⟨_, hrun, ?_, ⟨rfl, rfl, rfl, by simp [World.setRow], fun i _ hi => setRow_other w g i _ (fun e => hi (by rw [e]))⟩⟩
    show (w.setRow g _).heap[g]? = some (.cells (splice cur off (bytesV (l.take k))).toArray t (0, 0))
    rw [splice, hkl]
    rw [← List.append_assoc]
    exact setRow_heap w g _ _ t _ hg
end Go.FL




namespace Go.FL

open Go.RowKit

def litsOf (l : List UInt8) : List Lit := l.map fun b => Lit.int .u8 (b.toNat : Int)
theorem litsOf_inj {l m : List UInt8} : litsOf l = litsOf m ↔ l = m := by
  constructor
  · intro h
    have : ∀ a b : UInt8, Lit.int .u8 (a.toNat : Int) = Lit.int .u8 (b.toNat : Int) → a = b := by
      intro a b h
      simp at h
      exact UInt8.toNat_inj.1 (by omega)
    exact (List.map_inj_right (fun a b h => this a b h)).1 h
  · rintro rfl; rfl
theorem wf_byte (b : UInt8) : (Lit.int .u8 (b.toNat : Int)).wf = true := by
  have := b.toNat_lt
  simp [Lit.wf, IntKind.min, IntKind.max, IntKind.signed, IntKind.bits]
  omega
theorem mapM_lits {P : Program} {e : TypeId} (he : P.underlying e = some (.int .u8)) (l : List UInt8) : ∀ is : List Nat, (∀ i ∈ is, i < l.length) →
    is.mapM (fun i => P.keyLits 1 e (((bytesV l).drop (i * 1)).take 1)) = some (is.map fun i => [Lit.int .u8 ((l.getD i 0).toNat : Int)])
  | [], _ => by simp
  | i :: is, h => by
    have hi : i < l.length := h i (by simp)
    have h1 : ((bytesV l).drop (i * 1)).take 1 = [Value.int .u8 ((l.getD i 0).toNat : Int)] := by
      rw [Nat.mul_one, List.drop_eq_getElem_cons (by rw [bytesV_length]; exact hi)]
      simp [bytesV, hi]
    rw [List.mapM_cons, mapM_lits he l is (fun j hj => h j (by simp [hj])), h1]
    simp [Program.keyLits, he, wf_byte]
theorem flat_lits (l : List UInt8) : ((List.range l.length).map fun i => [Lit.int .u8 ((l.getD i 0).toNat : Int)]).flatten = litsOf l := by
  have h1 : ∀ is : List Nat, (is.map fun i => [Lit.int .u8 ((l.getD i 0).toNat : Int)]).flatten = is.map fun i => Lit.int .u8 ((l.getD i 0).toNat : Int) := by
    intro is
    induction is with
    | nil => rfl
    | cons i is ih => simp only [List.map_cons, List.flatten_cons, ih, List.singleton_append]
  rw [h1]
  apply List.ext_getElem
  · simp [litsOf]
  · intro i h2 h3
    simp at h2
    simp [litsOf, h2]
theorem keyLits_bytes {P : Program} {t e : TypeId} {n : Nat} (ht : P.underlying t = some (.array n e)) (he : P.underlying e = some (.int .u8)) (hc : P.cellsOf e = 1) (hct : P.cellsOf t = n) (l : List UInt8) (hl : l.length = n) :
    P.keyLits 2 t (Value.agg (bytesV l).toArray).cells.toList = some (litsOf l) := by
  subst hl
  show P.keyLits 2 t (bytesV l) = _
  unfold Program.keyLits
  simp only [ht, hct, hc, bytesV_length, if_true]
  rw [mapM_lits he l _ (fun i hi => by simpa using hi)]
  simp only [Option.map_some, flat_lits]
theorem run_equalIn_bytes {P : Program} {t e : TypeId} {n : Nat} (ht : P.underlying t = some (.array n e)) (he : P.underlying e = some (.int .u8)) (hc : P.cellsOf e = 1) (hct : P.cellsOf t = n) (hk : P.keyTypeAt 2 t = true) (l m : List UInt8) (hl : l.length = n) (hm : m.length = n) (w : World) :
    (Op.equalIn 10000 t (.agg (bytesV l).toArray) (.agg (bytesV m).toArray)).run P w = .ok (decide (l = m)) w := by
  obtain ⟨r, hr, hiff⟩ := run_equalIn_deep (P := P) 9998 2 t hk w 2 2 (.agg (bytesV l).toArray) (.agg (bytesV m).toArray) (litsOf l) (litsOf m) (by simp [Value.formed, ht, hct, bytesV_length, hl]) (by simp [Value.formed, ht, hct, bytesV_length, hm]) (keyLits_bytes ht he hc hct l hl) (keyLits_bytes ht he hc hct m hm)
  rw [hr]
  rw [litsOf_inj] at hiff
  have : r = decide (l = m) := by
    rw [Bool.eq_iff_iff, hiff]
    simp
  rw [this]
end Go.FL



namespace Go.FL

open Go.RowKit

/-- The slice value v of n elements reads as these cells, one behind the other. -/
def RdK (w : World) (K : Nat) (v : Value) (n : Nat) (l : List Value) : Prop :=
  l.length = n * K ∧ ∃ p c, v = .slice p n c ∧ n ≤ c ∧ c ≤ maxLen ∧ (p = none → c = 0) ∧
    (∀ j (_ : j < l.length), ∃ b off, p = some ⟨b, off, none⟩ ∧ w.cell? ⟨b, off + j, none⟩ = some l[j])
theorem RdK.mono {w w' : World} {K n : Nat} {v : Value} {l : List Value} (h : RdK w K v n l) (hb : Below w.heap.size w w') : RdK w' K v n l := by
  obtain ⟨h0, p, c, h1, h2, h3, h4, h5⟩ := h
  exact ⟨h0, p, c, h1, h2, h3, h4, fun j hj => let ⟨b, off, e, hc⟩ := h5 j hj; ⟨b, off, e, cell?_of_below hb hc⟩⟩
theorem RdK.nil (w : World) (K : Nat) : RdK w K (.slice none 0 0) 0 [] := ⟨by simp, none, 0, rfl, Nat.le_refl _, Nat.zero_le _, fun _ => rfl, fun j h => by simp at h⟩

/-- v is a row of n elements of one's own, from block number base on; e: the element's type. -/
def OwnK (w : World) (base e K : Nat) (v : Value) (n : Nat) (l : List Value) : Prop :=
  l.length = n * K ∧ ((v = .slice none 0 0 ∧ n = 0) ∨
  ∃ g m sp, base ≤ g ∧ v = .slice (some ⟨g, 0, none⟩) n (n + m) ∧ List.length sp = m * K ∧ w.heap[g]? = some (.cells (l ++ sp).toArray e (0, 0)) ∧ n + m ≤ maxLen)
theorem OwnK.nil (w : World) (base e K : Nat) : OwnK w base e K (.slice none 0 0) 0 [] := ⟨by simp, .inl ⟨rfl, rfl⟩⟩
theorem OwnK.mono {w w' : World} {base e K n : Nat} {v : Value} {l : List Value} (h : OwnK w base e K v n l) (hb : Below w.heap.size w w') : OwnK w' base e K v n l := by
  obtain ⟨h0, ⟨rfl, rfl⟩ | ⟨g, m, sp, h1, rfl, h2, hr, hm⟩⟩ := h
  · exact ⟨h0, .inl ⟨rfl, rfl⟩⟩
  · exact ⟨h0, .inr ⟨g, m, sp, h1, rfl, h2, by rw [hb.block g (Array.getElem?_eq_some_iff.1 hr).1, hr], hm⟩⟩
theorem OwnK.ge {w : World} {base e K n : Nat} {v : Value} {l : List Value} (h : OwnK w base e K v n l) : ∀ k, v.ownBlock = some k → base ≤ k := by
  intro k hk
  obtain ⟨h0, ⟨rfl, rfl⟩ | ⟨g, m, sp, h1, rfl, h2, hr, hm⟩⟩ := h
  · simp [Value.ownBlock] at hk
  · simp [Value.ownBlock] at hk; omega
theorem OwnK.base {w : World} {base base' e K n : Nat} {v : Value} {l : List Value} (h : OwnK w base e K v n l) (hb : base' ≤ base) : OwnK w base' e K v n l := by
  obtain ⟨h0, ⟨rfl, rfl⟩ | ⟨g, m, sp, h1, rfl, h2, hr, hm⟩⟩ := h
  · exact ⟨h0, .inl ⟨rfl, rfl⟩⟩
  · exact ⟨h0, .inr ⟨g, m, sp, by omega, rfl, h2, hr, hm⟩⟩
theorem OwnK.rd {w : World} {base e K n : Nat} {v : Value} {l : List Value} (h : OwnK w base e K v n l) : RdK w K v n l := by
  obtain ⟨h0, ⟨rfl, rfl⟩ | ⟨g, m, sp, h1, rfl, h2, hr, hm⟩⟩ := h
  · refine ⟨h0, none, 0, rfl, Nat.le_refl _, Nat.zero_le _, fun _ => rfl, fun j h => ?_⟩
    rw [h0] at h
    omega
  · refine ⟨h0, _, _, rfl, by omega, hm, by simp, fun j hj => ⟨g, 0, rfl, ?_⟩⟩
    simp [World.cell?, hr]
    rw [List.getElem?_append_left hj, List.getElem?_eq_getElem hj]
theorem OwnK.grown {w w' : World} {base e K n : Nat} {v : Value} {l : List Value} {r : Option Nat} (h : OwnK w base e K v n l) (hb : w.grownBy w' r) (hr : ∀ k, v.ownBlock = some k → r ≠ some k) : OwnK w' base e K v n l := by
  obtain ⟨h0, ⟨rfl, rfl⟩ | ⟨g, m, sp, h1, rfl, h2, hg, hm⟩⟩ := h
  · exact ⟨h0, .inl ⟨rfl, rfl⟩⟩
  · refine ⟨h0, .inr ⟨g, m, sp, h1, rfl, h2, ?_, hm⟩⟩
    rw [hb.block g (Array.getElem?_eq_some_iff.1 hg).1 (fun e => hr g (by simp [Value.ownBlock]) e.symm), hg]

theorem rdK_new (w : World) (e K n : Nat) (l : List Value) (cs : Array Value) (hl : l.length = n * K) (hcs : cs = l.toArray) (hm : n ≤ maxLen) : RdK (w.alloc (.cells cs e (0, 0))) K (.slice (some ⟨w.heap.size, 0, none⟩) n n) n l := by
  subst hcs
  have : OwnK (w.alloc (.cells l.toArray e (0, 0))) 0 e K (.slice (some ⟨w.heap.size, 0, none⟩) n n) n l := ⟨hl, .inr ⟨w.heap.size, 0, [], Nat.zero_le _, rfl, by simp, by simpa using heap_alloc_new w _, by simpa using hm⟩⟩
  exact this.rd

theorem zeroCells_len (z : Array Value) (n : Nat) : (Builtin.zeroCells z n).toList.length = n * z.size := by simp [Builtin.zeroCells]

/-- 'append(v, x...)': v a row of one's own, x k elements more, 0 of them too. -/
theorem run_append_OwnK {P : Program} (w : World) (base : Nat) (t ty e : TypeId) (z : Value) (K B : Nat) (hz : z.cells.size = K) (hK : 0 < K) (ht : P.underlying t = some (.slice e)) (hi : (P.info? e).map (fun i => (i.zero, i.size, i.bytes)) = some (some z, K, B))
    (v x : Value) (n k : Nat) (l m : List Value) (h1m : ∀ u ∈ m, u.oneCell' = true) (hown : OwnK w base e K v n l) (hx : RdK w K x k m) (hlen : (n + k) * B ≤ 140737488355328) (hlen2 : n + k ≤ 140737488355328) (hbase : base ≤ w.heap.size) :
    ∃ v' w', (Builtin.append_ #[t, t] ty #[v, x]).run P w = .ok v' w' ∧ OwnK w' base e K v' (n + k) (l ++ m) ∧ w.grownBy w' v.ownBlock := by
  obtain ⟨i, h1, h2, h3, h4⟩ : ∃ i, P.info? e = some i ∧ i.zero = some z ∧ i.size = K ∧ i.bytes = B := by
    cases hq : P.info? e with
    | none => simp [hq] at hi
    | some i => simp [hq] at hi; exact ⟨i, rfl, hi.1, hi.2.1, hi.2.2⟩
  by_cases hk0 : k = 0
  · subst hk0
    obtain ⟨hxl, p, c, rfl, hmc, hcm, hpn, hcell0⟩ := hx
    have hm0 : m = [] := List.length_eq_zero_iff.1 (by rw [hxl]; simp)
    subst hm0
    refine ⟨v, w, ?_, by simpa using hown, ⟨rfl, rfl, rfl, Nat.le_refl _, fun _ _ _ => rfl⟩⟩
    have hle : ∃ vp vn vc, v = .slice vp vn vc ∧ vn ≤ vc := by
      obtain ⟨_, ⟨rfl, rfl⟩ | ⟨g, m, sp, _, rfl, _, _, _⟩⟩ := hown
      · exact ⟨none, 0, 0, rfl, Nat.le_refl _⟩
      · exact ⟨_, _, _, rfl, by omega⟩
    obtain ⟨vp, vn, vc, rfl, hle⟩ := hle
    cases p <;> cases vp <;> simp [Builtin.append_, run_underlying ht, sizeOf, typeInfo, h1, Builtin.lenOf, Builtin.firstCells, loadCells, loadCellsFrom, hle, storeCells]
  have hpos : 0 < k := by omega
  obtain ⟨hxl, p, c, rfl, hmc, hcm, _, hcell0⟩ := hx
  have hmpos : 0 < m.length := by rw [hxl]; exact Nat.mul_pos hpos hK
  obtain ⟨b, off, rfl, _⟩ := hcell0 0 hmpos
  have hnews : ∀ j u, m[j]? = some u → w.cell? ((⟨b, off, none⟩ : Addr).add j) = some u := by
    intro j u hu
    obtain ⟨hj, rfl⟩ := List.getElem?_eq_some_iff.1 hu
    obtain ⟨b', off', e', hc⟩ := hcell0 j hj
    simp at e'
    obtain ⟨rfl, rfl⟩ := e'
    rw [Addr.add_lit]
    exact hc
  have hnl : m.length = k * i.size := by rw [h3, hxl]
  have grown : l.length = n * K → ∀ (old : Nat), old < n + k → ∀ (row : Option Nat),
      OwnK (w.drew.alloc (.cells (l.toArray ++ m.toArray ++ Builtin.zeroCells z.cells (grownCap w (n + k) old e - (n + k))) e)) base e K
        (.slice (some ⟨w.heap.size, 0, none⟩) (n + k) (grownCap w (n + k) old e)) (n + k) (l ++ m) ∧
      w.grownBy (w.drew.alloc (.cells (l.toArray ++ m.toArray ++ Builtin.zeroCells z.cells (grownCap w (n + k) old e - (n + k))) e)) row := by
    intro hl old _ row
    have hge := grownCap_ge w (n + k) old e
    have hcm' : grownCap w (n + k) old e ≤ maxLen := grownCap_le_maxLen w (n + k) old e (by unfold maxLen; omega)
    refine ⟨⟨by rw [List.length_append, hl, hxl, Nat.add_mul], .inr ⟨w.heap.size, grownCap w (n + k) old e - (n + k), (Builtin.zeroCells z.cells (grownCap w (n + k) old e - (n + k))).toList, hbase, ?_, ?_, ?_, ?_⟩⟩, ⟨rfl, rfl, rfl, by simp, fun k hk _ => Below.heap_alloc w.drew _ k hk⟩⟩
    · rw [show n + k + (grownCap w (n + k) old e - (n + k)) = grownCap w (n + k) old e by omega]
    · rw [zeroCells_len, hz]
    · have hcs : l.toArray ++ m.toArray ++ Builtin.zeroCells z.cells (grownCap w (n + k) old e - (n + k)) = (l ++ m ++ (Builtin.zeroCells z.cells (grownCap w (n + k) old e - (n + k))).toList).toArray := by
        apply Array.ext'
        simp only [Array.toList_append]
      rw [hcs]
      exact heap_alloc_new w.drew _
    · omega
  obtain ⟨hl, ⟨rfl, rfl⟩ | ⟨g, mm, sp, hbg, rfl, hsp, hrow, hcap⟩⟩ := hown
  · have hl0 : l = [] := List.length_eq_zero_iff.1 (by rw [hl]; simp)
    subst hl0
    have hr := run_append_nil (P := P) w t ty e i z ht h1 h2 ⟨b, off, none⟩ k c m hnl hnews hpos (by omega) (by rw [h4]; simp at hlen; omega)
    have hgr := grown hl 0 (by omega) (Value.ownBlock (.slice none 0 0))
    simp only [Nat.zero_add, List.nil_append, Array.empty_append] at hgr ⊢
    exact ⟨_, _, hr, hgr.1, hgr.2⟩
  · by_cases hroom : n + k ≤ n + mm
    · have hkm : k * K ≤ mm * K := Nat.mul_le_mul_right _ (by omega)
      have hr := run_append_room (P := P) w t ty e i ht h1 g n (n + mm) (l ++ sp).toArray hrow ⟨b, off, none⟩ k c m hnl hnews h1m hroom (by rw [h3]; simp [hl, hsp, hxl]; omega)
      refine ⟨_, _, hr, ⟨by rw [List.length_append, hl, hxl, Nat.add_mul], .inr ⟨g, mm - k, sp.drop m.length, hbg, ?_, ?_, ?_, ?_⟩⟩, ⟨rfl, rfl, rfl, by simp, fun k _ hk => setRow_other w g k _ (fun e => hk (by simp [Value.ownBlock, e]))⟩⟩
      · rw [show n + k + (mm - k) = n + mm by omega]
      · rw [List.length_drop, hsp, hxl, Nat.sub_mul]
      · have hcs : (List.take (n * i.size) (l ++ sp).toArray.toList ++ m ++ List.drop (n * i.size + m.length) (l ++ sp).toArray.toList) = l ++ m ++ sp.drop m.length := by
          simp only [h3]
          rw [← hl, List.take_append_of_le_length (by omega), List.take_of_length_le (by omega), List.drop_append]
          simp
        rw [hcs]
        exact setRow_heap w g _ _ e _ hrow
      · omega
    · have holds : ∀ j u, l[j]? = some u → w.cell? ((⟨g, 0, none⟩ : Addr).add j) = some u := by
        intro j u hu
        obtain ⟨hj, rfl⟩ := List.getElem?_eq_some_iff.1 hu
        rw [Addr.add_lit, Nat.zero_add]
        simp [World.cell?, hrow, List.getElem_append_left hj, show j < l.length + sp.length by omega]
      have hr := run_append_grow (P := P) w t ty e i z ht h1 h2 ⟨g, 0, none⟩ n (n + mm) l (by rw [h3, hl]) holds ⟨b, off, none⟩ k c m hnl hnews (by omega) (by omega) (growslice_fits (by omega) (by rw [h4]; omega))
      have hgr := grown hl (n + mm) (by omega) (Value.ownBlock (.slice (some ⟨g, 0, none⟩) n (n + mm)))
      exact ⟨_, _, hr, hgr.1, hgr.2⟩

/-- The same as a step of the walk. -/
theorem wpList_append_OwnK {P : Program} {w : World} {ops : Array Oper} {rest : List Oper} {o : Oper} {a : Act} {Q : Exit → Act → World → Prop} (hgd : o.guard = none) (s x : Operand) (t : TypeId)
    (ho : o.op = .call { callee := .builtin .append, args := #[s, x], argTypes := #[t, t] })
    (base e : Nat) (z : Value) (K B : Nat) (hz : z.cells.size = K) (hK : 0 < K) (ht : P.underlying t = some (.slice e)) (hi : (P.info? e).map (fun i => (i.zero, i.size, i.bytes)) = some (some z, K, B))
    (v u : Value) (n k : Nat) (l m : List Value) (h1m : ∀ u ∈ m, u.oneCell' = true) (hs : a.eval s = v) (hown : OwnK w base e K v n l) (hx : a.eval x = u) (hrd : RdK w K u k m) (hlen : (n + k) * B ≤ 140737488355328) (hlen2 : n + k ≤ 140737488355328) (hbase : base ≤ w.heap.size)
    (h : ∀ v' w', OwnK w' base e K v' (n + k) (l ++ m) → w.grownBy w' v.ownBlock → wpList P ops Q rest (a.put o.dst v') w') : wpList P ops Q (o :: rest) a w := by
  refine wpList_plain hgd fun K' hK' => ?_
  obtain ⟨v', w', hr, h2, h3⟩ := run_append_OwnK (P := P) w base t o.type e z K B hz hK ht hi v u n k l m h1m hown hrd hlen hlen2 hbase
  unfold Oper.wp execOp
  simp only [ho, resolve, invoke, builtin, Sem.run_bind, Sem.run_pure, Result.andThen_ok, List.map_toArray, List.map_cons, List.map_nil, hs, hx, hr]
  exact hK' _ _ (h v' w' h2 h3)
end Go.FL




namespace Go.FL

open Go.RowKit

/-- A slice of n elements of K cells each. -/
def RdL (w : World) (K : Nat) (v : Value) (n : Nat) (l : List Value) : Prop :=
  l.length = n * K ∧ ∃ p c, v = .slice p n c ∧ n ≤ c ∧ c ≤ maxLen ∧ (∀ j (_ : j < l.length), ∃ b off, p = some ⟨b, off, none⟩ ∧ w.cell? ⟨b, off + j, none⟩ = some l[j])
theorem RdK.lax {w : World} {K n : Nat} {v : Value} {l : List Value} (h : RdK w K v n l) : RdL w K v n l := by
  obtain ⟨h0, p, c, h1, h2, h3, -, h5⟩ := h
  exact ⟨h0, p, c, h1, h2, h3, h5⟩
theorem RdL.mono {w w' : World} {K n : Nat} {v : Value} {l : List Value} (h : RdL w K v n l) (hb : Below w.heap.size w w') : RdL w' K v n l := by
  obtain ⟨h0, p, c, h1, h2, h3, h5⟩ := h
  exact ⟨h0, p, c, h1, h2, h3, fun j hj => let ⟨b, off, e, hc⟩ := h5 j hj; ⟨b, off, e, cell?_of_below hb hc⟩⟩
/-- How an append went. -/
def AppK (w : World) (base e K : Nat) (v : Value) (n k : Nat) (l m : List Value) (v' : Value) (w' : World) : Prop :=
  (GrR w w' ∧ (k = 0 ∨ (OwnK w' w.heap.size e K v' (n + k) (l ++ m) ∧ ∀ g mm, v = .slice (some ⟨g, 0, none⟩) n (n + mm) → mm < k))) ∨
  (∃ g mm sp, v = .slice (some ⟨g, 0, none⟩) n (n + mm) ∧ k ≤ mm ∧ base ≤ g ∧ List.length sp = mm * K ∧ RowV w g e (l ++ sp) ∧ v' = .slice (some ⟨g, 0, none⟩) (n + k) (n + mm) ∧ RowV w' g e (l ++ m ++ sp.drop m.length) ∧ w.grownBy w' (some g))
theorem run_append_OwnL {P : Program} (w : World) (base : Nat) (t ty e : TypeId) (z : Value) (K B : Nat) (hz : z.cells.size = K) (hK : 0 < K) (ht : P.underlying t = some (.slice e)) (hi : (P.info? e).map (fun i => (i.zero, i.size, i.bytes)) = some (some z, K, B))
    (v x : Value) (n k : Nat) (l m : List Value) (h1m : ∀ u ∈ m, u.oneCell' = true) (hown : OwnK w base e K v n l) (hx : RdL w K x k m) (hlen : (n + k) * B ≤ 140737488355328) (hlen2 : n + k ≤ 140737488355328) (hbase : base ≤ w.heap.size) :
    ∃ v' w', (Builtin.append_ #[t, t] ty #[v, x]).run P w = .ok v' w' ∧ OwnK w' base e K v' (n + k) (l ++ m) ∧ w.grownBy w' v.ownBlock ∧ AppK w base e K v n k l m v' w' := by
  obtain ⟨i, h1, h2, h3, h4⟩ : ∃ i, P.info? e = some i ∧ i.zero = some z ∧ i.size = K ∧ i.bytes = B := by
    cases hq : P.info? e with
    | none => simp [hq] at hi
    | some i => simp [hq] at hi; exact ⟨i, rfl, hi.1, hi.2.1, hi.2.2⟩
  by_cases hk0 : k = 0
  · subst hk0
    obtain ⟨hxl, p, c, rfl, hmc, hcm, hcell0⟩ := hx
    have hm0 : m = [] := List.length_eq_zero_iff.1 (by rw [hxl]; simp)
    subst hm0
    refine ⟨v, w, ?_, by simpa using hown, ⟨rfl, rfl, rfl, Nat.le_refl _, fun _ _ _ => rfl⟩, .inl ⟨GrR.refl _, .inl rfl⟩⟩
    have hle : ∃ vp vn vc, v = .slice vp vn vc ∧ vn ≤ vc := by
      obtain ⟨_, ⟨rfl, rfl⟩ | ⟨g, m, sp, _, rfl, _, _, _⟩⟩ := hown
      · exact ⟨none, 0, 0, rfl, Nat.le_refl _⟩
      · exact ⟨_, _, _, rfl, by omega⟩
    obtain ⟨vp, vn, vc, rfl, hle⟩ := hle
    cases p <;> cases vp <;> simp [Builtin.append_, run_underlying ht, sizeOf, typeInfo, h1, Builtin.lenOf, Builtin.firstCells, loadCells, loadCellsFrom, hle, storeCells]
  have hpos : 0 < k := by omega
  obtain ⟨hxl, p, c, rfl, hmc, hcm, hcell0⟩ := hx
  have hmpos : 0 < m.length := by rw [hxl]; exact Nat.mul_pos hpos hK
  obtain ⟨b, off, rfl, _⟩ := hcell0 0 hmpos
  have hnews : ∀ j u, m[j]? = some u → w.cell? ((⟨b, off, none⟩ : Addr).add j) = some u := by
    intro j u hu
    obtain ⟨hj, rfl⟩ := List.getElem?_eq_some_iff.1 hu
    obtain ⟨b', off', e', hc⟩ := hcell0 j hj
    simp at e'
    obtain ⟨rfl, rfl⟩ := e'
    rw [Addr.add_lit]
    exact hc
  have hnl : m.length = k * i.size := by rw [h3, hxl]
  have grown : l.length = n * K → ∀ (bs : Nat), bs ≤ w.heap.size → ∀ (old : Nat), old < n + k → ∀ (row : Option Nat),
      OwnK (w.drew.alloc (.cells (l.toArray ++ m.toArray ++ Builtin.zeroCells z.cells (grownCap w (n + k) old e - (n + k))) e)) bs e K
        (.slice (some ⟨w.heap.size, 0, none⟩) (n + k) (grownCap w (n + k) old e)) (n + k) (l ++ m) ∧
      w.grownBy (w.drew.alloc (.cells (l.toArray ++ m.toArray ++ Builtin.zeroCells z.cells (grownCap w (n + k) old e - (n + k))) e)) row := by
    intro hl bs hbs old _ row
    have hge := grownCap_ge w (n + k) old e
    have hcm' : grownCap w (n + k) old e ≤ maxLen := grownCap_le_maxLen w (n + k) old e (by unfold maxLen; omega)
    refine ⟨⟨by rw [List.length_append, hl, hxl, Nat.add_mul], .inr ⟨w.heap.size, grownCap w (n + k) old e - (n + k), (Builtin.zeroCells z.cells (grownCap w (n + k) old e - (n + k))).toList, hbs, ?_, ?_, ?_, ?_⟩⟩, ⟨rfl, rfl, rfl, by simp, fun k hk _ => Below.heap_alloc w.drew _ k hk⟩⟩
    · rw [show n + k + (grownCap w (n + k) old e - (n + k)) = grownCap w (n + k) old e by omega]
    · rw [zeroCells_len, hz]
    · have hcs : l.toArray ++ m.toArray ++ Builtin.zeroCells z.cells (grownCap w (n + k) old e - (n + k)) = (l ++ m ++ (Builtin.zeroCells z.cells (grownCap w (n + k) old e - (n + k))).toList).toArray := by
        apply Array.ext'
        simp only [Array.toList_append]
      rw [hcs]
      exact heap_alloc_new w.drew _
    · omega
  have hgr9 : ∀ o : Obj, GrR w (w.drew.alloc o) := fun o => ((Below.refl _ _).drew).alloc (Nat.le_refl _) o
  obtain ⟨hl, ⟨rfl, rfl⟩ | ⟨g, mm, sp, hbg, rfl, hsp, hrow, hcap⟩⟩ := hown
  · have hl0 : l = [] := List.length_eq_zero_iff.1 (by rw [hl]; simp)
    subst hl0
    have hr := run_append_nil (P := P) w t ty e i z ht h1 h2 ⟨b, off, none⟩ k c m hnl hnews hpos (by omega) (by rw [h4]; simp at hlen; omega)
    have hgr := grown hl base hbase 0 (by omega) (Value.ownBlock (.slice none 0 0))
    have hgr2 := grown hl w.heap.size (Nat.le_refl _) 0 (by omega) (Value.ownBlock (.slice none 0 0))
    simp only [Nat.zero_add, List.nil_append, Array.empty_append] at hgr hgr2 ⊢
    refine ⟨_, _, hr, hgr.1, hgr.2, .inl ⟨hgr9 _, .inr ⟨?_, fun g' mm' he => by simp at he⟩⟩⟩
    simpa using hgr2.1
  · by_cases hroom : n + k ≤ n + mm
    · have hkm : k * K ≤ mm * K := Nat.mul_le_mul_right _ (by omega)
      have hr := run_append_room (P := P) w t ty e i ht h1 g n (n + mm) (l ++ sp).toArray hrow ⟨b, off, none⟩ k c m hnl hnews h1m hroom (by rw [h3]; simp [hl, hsp, hxl]; omega)
      have hcs : (List.take (n * i.size) (l ++ sp).toArray.toList ++ m ++ List.drop (n * i.size + m.length) (l ++ sp).toArray.toList) = l ++ m ++ sp.drop m.length := by
        simp only [h3]
        rw [← hl, List.take_append_of_le_length (by omega), List.take_of_length_le (by omega), List.drop_append]
        simp
      have hgb : w.grownBy (w.setRow g (List.take (n * i.size) (l ++ sp).toArray.toList ++ m ++ List.drop (n * i.size + m.length) (l ++ sp).toArray.toList).toArray) (some g) := ⟨rfl, rfl, rfl, by simp, fun k _ hk => setRow_other w g k (List.take (n * i.size) (l ++ sp).toArray.toList ++ m ++ List.drop (n * i.size + m.length) (l ++ sp).toArray.toList).toArray (fun e => hk (by simp [e]))⟩
      have hrow' := setRow_heap w g (l ++ sp).toArray (List.take (n * i.size) (l ++ sp).toArray.toList ++ m ++ List.drop (n * i.size + m.length) (l ++ sp).toArray.toList).toArray e (0, 0) hrow
      refine ⟨_, _, hr, ⟨by rw [List.length_append, hl, hxl, Nat.add_mul], .inr ⟨g, mm - k, sp.drop m.length, hbg, ?_, ?_, ?_, ?_⟩⟩, hgb, .inr ⟨g, mm, sp, rfl, by omega, hbg, hsp, hrow, rfl, ?_, hgb⟩⟩
      · rw [show n + k + (mm - k) = n + mm by omega]
      · rw [List.length_drop, hsp, hxl, Nat.sub_mul]
      · rw [hcs] at hrow' ⊢
        exact hrow'
      · omega
      · rw [hcs] at hrow' ⊢
        exact hrow'
    · have holds : ∀ j u, l[j]? = some u → w.cell? ((⟨g, 0, none⟩ : Addr).add j) = some u := by
        intro j u hu
        obtain ⟨hj, rfl⟩ := List.getElem?_eq_some_iff.1 hu
        rw [Addr.add_lit, Nat.zero_add]
        simp [World.cell?, hrow, List.getElem_append_left hj, show j < l.length + sp.length by omega]
      have hr := run_append_grow (P := P) w t ty e i z ht h1 h2 ⟨g, 0, none⟩ n (n + mm) l (by rw [h3, hl]) holds ⟨b, off, none⟩ k c m hnl hnews (by omega) (by omega) (growslice_fits (by omega) (by rw [h4]; omega))
      have hgr := grown hl base hbase (n + mm) (by omega) (Value.ownBlock (.slice (some ⟨g, 0, none⟩) n (n + mm)))
      have hgr2 := grown hl w.heap.size (Nat.le_refl _) (n + mm) (by omega) (Value.ownBlock (.slice (some ⟨g, 0, none⟩) n (n + mm)))
      refine ⟨_, _, hr, hgr.1, hgr.2, .inl ⟨hgr9 _, .inr ⟨hgr2.1, fun g' mm' he => ?_⟩⟩⟩
      simp only [Value.slice.injEq] at he
      omega
/-- Such an append keeps the shape. -/
theorem AppK.gs {w w' : World} {base e K n k : Nat} {v v' : Value} {l m : List Value} {Φ : Nat → Value → Prop} (h : AppK w base e K v n k l m v' w') (hB : base ≤ w.heap.size) (hm : m.length = k * K) (hΦ : ∀ j u, m[j]? = some u → Φ (l.length + j) u) : GrS base Φ w w' := by
  rcases h with ⟨h, -⟩ | ⟨g, mm, sp, -, hkm, hg, hsp, hr, -, hr', hgb⟩
  · exact GrS.of_gr Φ hB h
  · have hle : m.length ≤ sp.length := by rw [hm, hsp]; exact Nat.mul_le_mul_right _ hkm
    refine ⟨⟨hgb.os, hgb.tape, hgb.output, hgb.size, fun k hk => hgb.block k (by omega) (fun e => by simp at e; omega)⟩, fun g' e' l' hg' hr2 => ?_⟩
    by_cases hgg : g' = g
    · subst hgg
      obtain ⟨rfl, rfl⟩ := rowV_fun hr hr2
      refine ⟨_, hr', by simp; omega, fun i => ?_⟩
      by_cases c1 : i < l.length
      · refine .inl ?_
        rw [List.append_assoc, List.getElem?_append_left c1, List.getElem?_append_left c1]
      · by_cases c2 : i < l.length + m.length
        · have hj : i - l.length < m.length := by omega
          refine .inr ⟨m[i - l.length], ?_, ?_⟩
          · rw [List.append_assoc, List.getElem?_append_right (by omega), List.getElem?_append_left hj]
            simp [hj]
          · have := hΦ (i - l.length) m[i - l.length] (by simp [hj])
            rwa [show l.length + (i - l.length) = i by omega] at this
        · refine .inl ?_
          rw [List.append_assoc, List.getElem?_append_right (by omega), List.getElem?_append_right (by omega), List.getElem?_drop, List.getElem?_append_right (by omega)]
          congr 1
          omega
    · refine ⟨l', ?_, rfl, fun _ => .inl rfl⟩
      unfold RowV at hr2 ⊢
      rw [hgb.block g' (Array.getElem?_eq_some_iff.1 hr2).1 (fun e => hgg (by simp at e; exact e)), hr2]
/-- The append as an operation of such a region. -/
theorem opOk_append_gs {P : Program} {o : Oper} {ρ : Operand → Value} {w : World} {post : Value → World → Prop} {s x : Operand} {t : TypeId} (ho : o.op = .call { callee := .builtin .append, args := #[s, x], argTypes := #[t, t] })
    (B : Nat) (Φ : Nat → Value → Prop) (e : Nat) (z : Value) (K Bz : Nat) (hz : z.cells.size = K) (hK : 0 < K) (ht : P.underlying t = some (.slice e)) (hi : (P.info? e).map (fun i => (i.zero, i.size, i.bytes)) = some (some z, K, Bz))
    (n k : Nat) (l m : List Value) (h1m : ∀ u ∈ m, u.oneCell' = true) (hown : OwnK w B e K (ρ s) n l) (hx : RdL w K (ρ x) k m) (hlen : (n + k) * Bz ≤ 140737488355328) (hlen2 : n + k ≤ 140737488355328) (hbase : B ≤ w.heap.size)
    (hΦ : ∀ j u, m[j]? = some u → Φ (l.length + j) u) (hpost : ∀ v' w', OwnK w' B e K v' (n + k) (l ++ m) → GrS B Φ w w' → post v' w') : opOk P o ρ w post := by
  obtain ⟨v', w', hr, h1, h2, h3⟩ := run_append_OwnL (P := P) w B t o.type e z K Bz hz hK ht hi (ρ s) (ρ x) n k l m h1m hown hx hlen hlen2 hbase
  refine opOk_val (v := v') (w' := w') ?_ (hpost v' w' h1 (h3.gs hbase hx.1 hΦ))
  unfold execOp
  simp only [ho, resolve, invoke, builtin, Sem.run_bind, Sem.run_pure, Result.andThen_ok, List.map_toArray, List.map_cons, List.map_nil, hr]
/-- The same as a step of the walk. -/
theorem wpList_append_OwnL {P : Program} {w : World} {ops : Array Oper} {rest : List Oper} {o : Oper} {a : Act} {Q : Exit → Act → World → Prop} (hgd : o.guard = none) (s x : Operand) (t : TypeId)
    (ho : o.op = .call { callee := .builtin .append, args := #[s, x], argTypes := #[t, t] })
    (base e : Nat) (z : Value) (K B : Nat) (hz : z.cells.size = K) (hK : 0 < K) (ht : P.underlying t = some (.slice e)) (hi : (P.info? e).map (fun i => (i.zero, i.size, i.bytes)) = some (some z, K, B))
    (v u : Value) (n k : Nat) (l m : List Value) (h1m : ∀ u ∈ m, u.oneCell' = true) (hs : a.eval s = v) (hown : OwnK w base e K v n l) (hx : a.eval x = u) (hrd : RdL w K u k m) (hlen : (n + k) * B ≤ 140737488355328) (hlen2 : n + k ≤ 140737488355328) (hbase : base ≤ w.heap.size)
    (h : ∀ v' w', OwnK w' base e K v' (n + k) (l ++ m) → w.grownBy w' v.ownBlock → AppK w base e K v n k l m v' w' → wpList P ops Q rest (a.put o.dst v') w') : wpList P ops Q (o :: rest) a w := by
  refine wpList_plain hgd fun K' hK' => ?_
  obtain ⟨v', w', hr, h2, h3, h4⟩ := run_append_OwnL (P := P) w base t o.type e z K B hz hK ht hi v u n k l m h1m hown hrd hlen hlen2 hbase
  unfold Oper.wp execOp
  simp only [ho, resolve, invoke, builtin, Sem.run_bind, Sem.run_pure, Result.andThen_ok, List.map_toArray, List.map_cons, List.map_nil, hs, hx, hr]
  exact hK' _ _ (h v' w' h2 h3 h4)
theorem opOk_append_new {P : Program} {o : Oper} {ρ : Operand → Value} {w : World} {post : Value → World → Prop} {s x : Operand} {t : TypeId} (ho : o.op = .call { callee := .builtin .append, args := #[s, x], argTypes := #[t, t] })
    (B : Nat) (e : Nat) (z : Value) (K Bz : Nat) (hz : z.cells.size = K) (hK : 0 < K) (ht : P.underlying t = some (.slice e)) (hi : (P.info? e).map (fun i => (i.zero, i.size, i.bytes)) = some (some z, K, Bz))
    (v : Value) (hv : ρ s = v) (n k : Nat) (l m : List Value) (h1m : ∀ u ∈ m, u.oneCell' = true) (hown : OwnK w B e K v n l) (hx : RdL w K (ρ x) k m) (hlen : (n + k) * Bz ≤ 140737488355328) (hlen2 : n + k ≤ 140737488355328) (hbase : B ≤ w.heap.size)
    (hk : 0 < k) (hnr : ∀ g mm, v = .slice (some ⟨g, 0, none⟩) n (n + mm) → mm < k) (hpost : ∀ v' w', OwnK w' w.heap.size e K v' (n + k) (l ++ m) → GrR w w' → post v' w') : opOk P o ρ w post := by
  subst hv
  obtain ⟨v', w', hr, h1, h2, h3⟩ := run_append_OwnL (P := P) w B t o.type e z K Bz hz hK ht hi (ρ s) (ρ x) n k l m h1m hown hx hlen hlen2 hbase
  rcases h3 with ⟨h4, h5⟩ | ⟨g, mm, sp, h4, h5, -⟩
  · refine opOk_val (v := v') (w' := w') ?_ (hpost v' w' (h5.resolve_left (by omega)).1 h4)
    unfold execOp
    simp only [ho, resolve, invoke, builtin, Sem.run_bind, Sem.run_pure, Result.andThen_ok, List.map_toArray, List.map_cons, List.map_nil, hr]
  · have := hnr g mm h4
    omega
theorem opOk_append_room {P : Program} {o : Oper} {ρ : Operand → Value} {w : World} {post : Value → World → Prop} {s x : Operand} {t : TypeId} (ho : o.op = .call { callee := .builtin .append, args := #[s, x], argTypes := #[t, t] })
    (B : Nat) (e : Nat) (z : Value) (K Bz : Nat) (hz : z.cells.size = K) (hK : 0 < K) (ht : P.underlying t = some (.slice e)) (hi : (P.info? e).map (fun i => (i.zero, i.size, i.bytes)) = some (some z, K, Bz))
    (g mm n k : Nat) (l m sp : List Value) (hv : ρ s = .slice (some ⟨g, 0, none⟩) n (n + mm)) (h1m : ∀ u ∈ m, u.oneCell' = true) (hl : l.length = n * K) (hsp : sp.length = mm * K) (hg : B ≤ g) (hrow : RowV w g e (l ++ sp)) (hmx : n + mm ≤ maxLen) (hx : RdL w K (ρ x) k m) (hlen : (n + k) * Bz ≤ 140737488355328) (hlen2 : n + k ≤ 140737488355328) (hbase : B ≤ w.heap.size)
    (hk : 0 < k) (hroom : k ≤ mm) (hpost : ∀ w', RowV w' g e (l ++ m ++ sp.drop m.length) → w.grownBy w' (some g) → post (.slice (some ⟨g, 0, none⟩) (n + k) (n + mm)) w') : opOk P o ρ w post := by
  have hown : OwnK w B e K (ρ s) n l := ⟨hl, .inr ⟨g, mm, sp, hg, hv, hsp, hrow, hmx⟩⟩
  obtain ⟨v', w', hr, h1, h2, h3⟩ := run_append_OwnL (P := P) w B t o.type e z K Bz hz hK ht hi (ρ s) (ρ x) n k l m h1m hown hx hlen hlen2 hbase
  rcases h3 with ⟨h4, h5⟩ | ⟨g', mm', sp', h4, h5, h6, h7, h8, rfl, h10, h11⟩
  · have := (h5.resolve_left (by omega)).2 g mm hv
    omega
  · rw [hv] at h4
    simp only [Value.slice.injEq, Option.some.injEq, Addr.mk.injEq, true_and, and_true] at h4
    obtain ⟨rfl, h4⟩ := h4
    obtain rfl : mm' = mm := by omega
    obtain ⟨-, h12⟩ := rowV_fun hrow h8
    have h13 := List.append_cancel_left h12
    subst h13
    refine opOk_val (v := .slice (some ⟨g, 0, none⟩) (n + k) (n + mm')) (w' := w') ?_ (hpost w' h10 h11)
    unfold execOp
    simp only [ho, resolve, invoke, builtin, Sem.run_bind, Sem.run_pure, Result.andThen_ok, List.map_toArray, List.map_cons, List.map_nil, hr]
end Go.FL

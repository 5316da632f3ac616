/- Joined: Mem, Open, Bits, Ext. -/
import Derived.WalkKit
import Derived.WalkSpells
import Derived.WalkLawsBesides
import Derived.ProofKit
import Derived.OpenShut
set_option linter.unusedSimpArgs false
set_option linter.unusedVariables false





namespace Go.FL

open Go.RowKit

/-- A fact kept from the walk. -/
theorem hid {p : Prop} (h : p) : Hid p := h

theorem byte_lt (c : UInt8) : (c.toNat : Int) < 256 := by have := c.toNat_lt; omega

/-- The slice value v reads as the bytes l in the world w. -/
def Rd (w : World) (v : Value) (l : List UInt8) : Prop :=
  ∃ p c, v = .slice p l.length c ∧ l.length ≤ c ∧ c ≤ maxLen ∧ (p = none → c = 0) ∧
    (∀ j (_ : j < l.length), ∃ b off, p = some ⟨b, off, none⟩ ∧ w.cell? ⟨b, off + j, none⟩ = some (.int .u8 (l[j].toNat : Int)))

theorem Rd.nil (w : World) : Rd w (.slice none 0 0) [] := ⟨none, 0, rfl, Nat.le_refl _, Nat.zero_le _, fun _ => rfl, fun j h => by simp at h⟩

theorem cell?_of_below {w w' : World} (h : Below w.heap.size w w') {a : Addr} {v : Value} (hc : w.cell? a = some v) : w'.cell? a = some v := by
  rw [h.cell (World.block_lt_of_cell? w a hc)]; exact hc

theorem Rd.mono {w w' : World} {v : Value} {l : List UInt8} (h : Rd w v l) (hb : Below w.heap.size w w') : Rd w' v l := by
  obtain ⟨p, c, h1, h2, h3, h4, h5⟩ := h
  exact ⟨p, c, h1, h2, h3, h4, fun j hj => let ⟨b, off, e, hc⟩ := h5 j hj; ⟨b, off, e, cell?_of_below hb hc⟩⟩

/-- What it reads as, where the world has grown below it. -/
theorem Rd.empty {w : World} {v : Value} {l : List UInt8} (h : Rd w v l) (hl : l = []) : ∃ p c, v = .slice p 0 c ∧ c ≤ maxLen ∧ (p = none → c = 0) := by
  obtain ⟨p, c, h1, h2, h3, h4, h5⟩ := h
  subst hl
  exact ⟨p, c, h1, h3, h4⟩

theorem Rd.at {w : World} {v : Value} {l : List UInt8} (h : Rd w v l) (hl : 0 < l.length) :
    ∃ b off c, v = .slice (some ⟨b, off, none⟩) l.length c ∧ l.length ≤ c ∧ c ≤ maxLen ∧ ∀ j (_ : j < l.length), w.cell? ⟨b, off + j, none⟩ = some (.int .u8 (l[j].toNat : Int)) := by
  obtain ⟨p, c, h1, h2, h3, h4, h5⟩ := h
  obtain ⟨b, off, rfl, _⟩ := h5 0 hl
  refine ⟨b, off, c, h1, h2, h3, fun j hj => ?_⟩
  obtain ⟨b', off', e, hc⟩ := h5 j hj
  simp at e
  obtain ⟨rfl, rfl⟩ := e
  exact hc

/-- A piece of it. -/
theorem Rd.cut {w : World} {p : Option Addr} {n c : Nat} {l : List UInt8} (h : Rd w (.slice p n c) l) (i j : Nat) (hij : i ≤ j) (hj : j ≤ l.length) :
    Rd w (sliced p i j c 1) ((l.drop i).take (j - i)) := by
  obtain ⟨p', c', h1, h2, h3, h4, h5⟩ := h
  simp at h1
  obtain ⟨rfl, rfl, rfl⟩ := h1
  have hlen : ((l.drop i).take (j - i)).length = j - i := by simp; omega
  refine ⟨if c = i then p else p.map (·.add (i * 1)), c - i, ?_, by omega, by omega, ?_, ?_⟩
  · rw [sliced, hlen]
  · intro hn
    by_cases e : c = i
    · omega
    · rw [if_neg e] at hn
      simp at hn
      have := h4 hn
      omega
  · intro k hk
    rw [hlen] at hk
    obtain ⟨b, off, e, hc⟩ := h5 (i + k) (by omega)
    subst e
    refine ⟨b, off + i, ?_, ?_⟩
    · rw [if_neg (by omega)]
      simp [Addr.add]
    · simp only [List.getElem_take, List.getElem_drop]
      rw [Nat.add_assoc]
      exact hc

def bytesV (l : List UInt8) : List Value := l.map fun b => Value.int .u8 (b.toNat : Int)

theorem bytesV_length (l : List UInt8) : (bytesV l).length = l.length := by simp [bytesV]
theorem bytesV_oneCell (l : List UInt8) : ∀ u ∈ bytesV l, u.oneCell' = true := by
  intro u hu
  simp [bytesV] at hu
  obtain ⟨b, _, rfl⟩ := hu
  rfl
theorem bytesV_append (l m : List UInt8) : bytesV (l ++ m) = bytesV l ++ bytesV m := by simp [bytesV]
theorem bytesV_take (l : List UInt8) (n : Nat) : bytesV (l.take n) = (bytesV l).take n := by simp [bytesV]
theorem bytesV_drop (l : List UInt8) (n : Nat) : bytesV (l.drop n) = (bytesV l).drop n := by simp [bytesV]
theorem bytesV_get (l : List UInt8) (j : Nat) (u : Value) (h : (bytesV l)[j]? = some u) : ∃ hj : j < l.length, u = .int .u8 (l[j].toNat : Int) := by
  simp [bytesV, List.getElem?_map] at h
  obtain ⟨b, hb, rfl⟩ := h
  obtain ⟨hj, rfl⟩ := List.getElem?_eq_some_iff.1 hb
  exact ⟨hj, rfl⟩

/-- Block number g is a row of bytes of the type e, none of them frozen. -/
def Row (w : World) (g e : Nat) (l : List UInt8) : Prop := w.heap[g]? = some (.cells (bytesV l).toArray e (0, 0))

theorem Row.lt {w : World} {g e : Nat} {l : List UInt8} (h : Row w g e l) : g < w.heap.size := (Array.getElem?_eq_some_iff.1 h).1
theorem Row.cell {w : World} {g e : Nat} {l : List UInt8} (h : Row w g e l) (i : Nat) (hi : i < l.length) : w.cell? ⟨g, i, none⟩ = some (.int .u8 (l[i].toNat : Int)) := by
  unfold Row at h
  simp [World.cell?, h, bytesV, hi]
theorem Row.frozen {w : World} {g e : Nat} {l : List UInt8} (h : Row w g e l) (i : Nat) : w.frozen? ⟨g, i, none⟩ = false := by
  unfold Row at h
  simp [World.frozen?, h]
theorem Row.mono {w w' : World} {g e : Nat} {l : List UInt8} (h : Row w g e l) (hb : Below w.heap.size w w') : Row w' g e l := by
  unfold Row at *
  rw [hb.block g (Array.getElem?_eq_some_iff.1 h).1, h]
theorem Row.below {w w' : World} {B g e : Nat} {l : List UInt8} (h : Row w g e l) (hb : Below B w w') (hg : g < B) : Row w' g e l := by
  unfold Row at *
  rw [hb.block g hg, h]
theorem Row.grown {w w' : World} {g e : Nat} {l : List UInt8} {r : Option Nat} (h : Row w g e l) (hb : w.grownBy w' r) (hg : r ≠ some g) : Row w' g e l := by
  have h0 := h.lt
  unfold Row at *
  rw [hb.block g h0 (fun e => hg e.symm), h]
theorem Row.store {w : World} {g e : Nat} {l : List UInt8} (h : Row w g e l) (i : Nat) (b : UInt8) : Row (w.setCell ⟨g, i, none⟩ (.int .u8 (b.toNat : Int))) g e (l.set i b) := by
  unfold Row at *
  simp [World.setCell, Array.getElem?_modify, h, bytesV, List.map_set]
theorem Row.other {w : World} {g e : Nat} {l : List UInt8} (h : Row w g e l) (a : Addr) (u : Value) (hne : a.block ≠ g) : Row (w.setCell a u) g e l := by
  unfold Row at *
  rw [Below.heap_setCell _ _ _ _ (Ne.symm hne), h]
theorem Row.new (w : World) (e : Nat) (l : List UInt8) : Row (w.alloc (.cells (bytesV l).toArray e (0, 0))) w.heap.size e l := heap_alloc_new w _
theorem Row.alloc {w : World} {g e : Nat} {l : List UInt8} (h : Row w g e l) (o : Obj) : Row (w.alloc o) g e l := by
  have := h.lt
  unfold Row at *
  rw [Below.heap_alloc _ _ _ this, h]
theorem Row.drew {w : World} {g e : Nat} {l : List UInt8} (h : Row w g e l) : Row w.drew g e l := h
theorem Row.drewN {w : World} {g e : Nat} {l : List UInt8} (h : Row w g e l) (n : Nat) : Row (w.drewN n) g e l := h

theorem Rd.drewN {w : World} {v : Value} {l : List UInt8} (h : Rd w v l) (n : Nat) : Rd (w.drewN n) v l := h
theorem below_drewN' {B : Nat} {a w : World} (h : Below B a w) (n : Nat) : Below B a (w.drewN n) := ⟨h.os, h.tape, h.output, h.size, h.block⟩

/-- A row, read from its head. -/
theorem Row.rd {w : World} {g e : Nat} {l : List UInt8} (h : Row w g e l) (n c : Nat) (hn : n ≤ l.length) (hc : n ≤ c) (hm : c ≤ maxLen) : Rd w (.slice (some ⟨g, 0, none⟩) n c) (l.take n) := by
  have hl : (l.take n).length = n := by simp; omega
  refine ⟨some ⟨g, 0, none⟩, c, by rw [hl], by omega, hm, by simp, ?_⟩
  intro j hj
  refine ⟨g, 0, rfl, ?_⟩
  rw [Nat.zero_add, h.cell j (by omega)]
  simp

theorem rd_new (w : World) (e : Nat) (l : List UInt8) (n : Nat) (cs : Array Value) (hn : n = l.length) (hcs : cs = (bytesV l).toArray) (hm : n ≤ maxLen) : Rd (w.alloc (.cells cs e (0, 0))) (.slice (some ⟨w.heap.size, 0, none⟩) n n) l := by
  subst hn hcs
  have := (Row.new w e l).rd l.length l.length (Nat.le_refl _) (Nat.le_refl _) hm
  simpa using this

theorem gr_trans {a b c : World} (h : Below a.heap.size a b) (k : Below b.heap.size b c) : Below a.heap.size a c := h.trans (k.mono h.size)
theorem gr_drewN (w : World) (n : Nat) : Below w.heap.size w (w.drewN n) := below_drewN' (Below.refl _ _) n
theorem gr_of_grown {w w' : World} {r : Option Nat} (h : w.grownBy w' r) (hr : r = none) : Below w.heap.size w w' :=
  ⟨h.os, h.tape, h.output, h.size, fun k hk => h.block k hk (by rw [hr]; simp)⟩

/-- v is a row of one's own, from block number base on, that holds the bytes l; e: the bytes' type. Its spare room holds bytes too. -/
def Own (w : World) (base e : Nat) (v : Value) (l : List UInt8) : Prop :=
  (v = .slice none 0 0 ∧ l = []) ∨
  ∃ g sp, base ≤ g ∧ v = .slice (some ⟨g, 0, none⟩) l.length (l.length + List.length sp) ∧ Row w g e (l ++ sp) ∧ l.length + sp.length ≤ maxLen

theorem Own.nil (w : World) (base e : Nat) : Own w base e (.slice none 0 0) [] := .inl ⟨rfl, rfl⟩
theorem Own.rd {w : World} {base e : Nat} {v : Value} {l : List UInt8} (h : Own w base e v l) : Rd w v l := by
  rcases h with ⟨rfl, rfl⟩ | ⟨g, sp, _, rfl, hr, hm⟩
  · exact Rd.nil w
  · have := hr.rd l.length (l.length + sp.length) (by simp) (by omega) hm
    simpa using this
theorem Own.mono {w w' : World} {base e : Nat} {v : Value} {l : List UInt8} (h : Own w base e v l) (hb : Below w.heap.size w w') : Own w' base e v l := by
  rcases h with ⟨rfl, rfl⟩ | ⟨g, sp, h1, rfl, hr, hm⟩
  · exact .inl ⟨rfl, rfl⟩
  · exact .inr ⟨g, sp, h1, rfl, hr.mono hb, hm⟩
theorem Own.base {w : World} {base base' e : Nat} {v : Value} {l : List UInt8} (h : Own w base e v l) (hb : base' ≤ base) : Own w base' e v l := by
  rcases h with ⟨rfl, rfl⟩ | ⟨g, sp, h1, rfl, hr, hm⟩
  · exact .inl ⟨rfl, rfl⟩
  · exact .inr ⟨g, sp, by omega, rfl, hr, hm⟩
theorem Own.ge {w : World} {base e : Nat} {v : Value} {l : List UInt8} (h : Own w base e v l) : ∀ k, v.ownBlock = some k → base ≤ k := by
  intro k hk
  rcases h with ⟨rfl, rfl⟩ | ⟨g, sp, h1, rfl, hr, hm⟩
  · simp [Value.ownBlock] at hk
  · simp [Value.ownBlock] at hk; omega
theorem Own.alloc {w : World} {base e : Nat} {v : Value} {l : List UInt8} (h : Own w base e v l) (o : Obj) : Own (w.alloc o) base e v l :=
  h.mono ((Below.refl _ _).alloc (Nat.le_refl _) o)

/-- What a call hands back: bytes in a row of its own; all that was there stays. -/
def RetOwn (w : World) (e : Nat) (l : List UInt8) (en : Ending) (w' : World) : Prop :=
  ∃ v', en = .returned v' ∧ Own w' w.heap.size e v' l ∧ Below w.heap.size w w'

/-- What a call answers; all that was there stays. -/
def Gives (w : World) (v : Value) (en : Ending) (w' : World) : Prop := en = .returned v ∧ Below w.heap.size w w'

theorem zeroCells_u8 (n : Nat) : (Builtin.zeroCells (Value.int .u8 0).cells n).toList = bytesV (List.replicate n 0) := by
  apply List.ext_getElem?
  intro i
  simp [Builtin.zeroCells, bytesV, Value.cells, List.getElem?_replicate]
  by_cases h : i < n <;> simp [h, Nat.mod_one]
theorem madeCells_u8 (n : Nat) : madeCells (Value.int .u8 0).cells (n * 1) = (bytesV (List.replicate n 0)).toArray := by
  apply Array.ext'
  apply List.ext_getElem?
  intro i
  simp [madeCells, bytesV, Value.cells, List.getElem?_replicate]
  by_cases h : i < n <;> simp [h, Nat.mod_one]

/-- 'make([]byte, n)', n a variable: an equation on the operation, for every world. -/
theorem run_make_u8 {P : Program} (t e : TypeId) (ht : P.underlying t = some (.slice e)) (hi : (P.info? e).map (fun i => (i.zero, i.size, i.bytes)) = some (some (.int .u8 0), 1, 1)) (kl kc : IntKind) (n : Nat) (hn : n ≤ 281474976710656) (w : World) :
    (Instr.makeSlice t (.int kl (n : Int)) (.int kc (n : Int))).run P w = .ok (.slice (some ⟨w.heap.size, 0, none⟩) n n) (w.alloc (.cells (bytesV (List.replicate n 0)).toArray e (0, 0))) := by
  obtain ⟨i, h1, h2, h3, h4⟩ := info_parts hi
  have := run_make (P := P) w t e i _ ht h1 h2 kl kc (n : Int) (n : Int) (by omega) (Int.le_refl _) (by rw [h4]; omega) (by omega)
  rw [this, h3]
  simp only [Int.toNat_natCast]
  rw [madeCells_u8]

/-- 'append(v, x...)': v a row of one's own, x any bytes. -/
theorem run_append_Own {P : Program} (w : World) (base : Nat) (t ty e : TypeId) (ht : P.underlying t = some (.slice e)) (hi : (P.info? e).map (fun i => (i.zero, i.size, i.bytes)) = some (some (.int .u8 0), 1, 1))
    (v x : Value) (l m : List UInt8) (hown : Own w base e v l) (hx : Rd w x m) (hlen : l.length + m.length ≤ 140737488355328) (hbase : base ≤ w.heap.size) :
    ∃ v' w', (Builtin.append_ #[t, t] ty #[v, x]).run P w = .ok v' w' ∧ Own w' base e v' (l ++ m) ∧ w.grownBy w' v.ownBlock := by
  obtain ⟨i, h1, h2, h3, h4⟩ := info_parts hi
  by_cases hm0 : m = []
  · subst hm0
    obtain ⟨p, c, rfl, hc, hpc⟩ := hx.empty rfl
    refine ⟨v, w, ?_, by simpa using hown, ⟨rfl, rfl, rfl, Nat.le_refl _, fun _ _ _ => rfl⟩⟩
    have hle : ∃ vp vn vc, v = .slice vp vn vc ∧ vn ≤ vc := by
      rcases hown with ⟨rfl, rfl⟩ | ⟨g, sp, _, rfl, _, _⟩
      · exact ⟨none, 0, 0, rfl, Nat.le_refl _⟩
      · exact ⟨_, _, _, rfl, by omega⟩
    obtain ⟨vp, vn, vc, rfl, hle⟩ := hle
    cases p <;> cases vp <;> simp [Builtin.append_, run_underlying ht, sizeOf, typeInfo, h1, Builtin.lenOf, Builtin.firstCells, loadCells, loadCellsFrom, hle, storeCells]
  · have hpos : 0 < m.length := List.length_pos_iff.2 hm0
    obtain ⟨b, off, c, rfl, hmc, hcm, hcell⟩ := hx.at hpos
    have hnews : ∀ j u, (bytesV m)[j]? = some u → w.cell? ((⟨b, off, none⟩ : Addr).add j) = some u := by
      intro j u hu
      obtain ⟨hj, rfl⟩ := bytesV_get m j u hu
      rw [Addr.add_lit]
      exact hcell j hj
    have hnl : (bytesV m).length = m.length * i.size := by rw [bytesV_length, h3]; omega
    have grown : ∀ (old : Nat), old < l.length + m.length → ∀ (row : Option Nat),
        Own (w.drew.alloc (.cells ((bytesV l).toArray ++ (bytesV m).toArray ++ Builtin.zeroCells (Value.int .u8 0).cells (grownCap w (l.length + m.length) old e - (l.length + m.length))) e)) base e
          (.slice (some ⟨w.heap.size, 0, none⟩) (l.length + m.length) (grownCap w (l.length + m.length) old e)) (l ++ m) ∧
        w.grownBy (w.drew.alloc (.cells ((bytesV l).toArray ++ (bytesV m).toArray ++ Builtin.zeroCells (Value.int .u8 0).cells (grownCap w (l.length + m.length) old e - (l.length + m.length))) e)) row := by
      intro old _ row
      have hge := grownCap_ge w (l.length + m.length) old e
      have hcm' : grownCap w (l.length + m.length) old e ≤ maxLen := grownCap_le_maxLen w (l.length + m.length) old e (by unfold maxLen; omega)
      refine ⟨.inr ⟨w.heap.size, List.replicate (grownCap w (l.length + m.length) old e - (l.length + m.length)) 0, hbase, ?_, ?_, ?_⟩, ⟨rfl, rfl, rfl, by simp, fun k hk _ => Below.heap_alloc w.drew _ k hk⟩⟩
      · simp
        omega
      · have hcs : (bytesV l).toArray ++ (bytesV m).toArray ++ Builtin.zeroCells (Value.int .u8 0).cells (grownCap w (l.length + m.length) old e - (l.length + m.length)) = (bytesV (l ++ m ++ List.replicate (grownCap w (l.length + m.length) old e - (l.length + m.length)) 0)).toArray := by
          apply Array.ext'
          simp only [Array.toList_append, zeroCells_u8, bytesV_append]
        rw [hcs]
        exact heap_alloc_new w.drew _
      · simp
        omega
    rcases hown with ⟨rfl, rfl⟩ | ⟨g, sp, hbg, rfl, hrow, hcap⟩
    · have hr := run_append_nil (P := P) w t ty e i (.int .u8 0) ht h1 h2 ⟨b, off, none⟩ m.length c (bytesV m) hnl hnews hpos (by simp at hlen; omega) (by rw [h4]; simp at hlen; omega)
      have hgr := grown 0 (by simpa using hpos) (Value.ownBlock (.slice none 0 0))
      simp only [List.length_nil, Nat.zero_add, List.nil_append, bytesV, List.map_nil, Array.empty_append] at hgr ⊢
      exact ⟨_, _, hr, hgr.1, hgr.2⟩
    · by_cases hroom : l.length + m.length ≤ l.length + sp.length
      · have hr := run_append_room (P := P) w t ty e i ht h1 g l.length (l.length + sp.length) (bytesV (l ++ sp)).toArray hrow ⟨b, off, none⟩ m.length c (bytesV m) hnl hnews (bytesV_oneCell m) hroom (by rw [h3]; simp [bytesV_length]; omega)
        refine ⟨_, _, hr, .inr ⟨g, sp.drop m.length, hbg, ?_, ?_, ?_⟩, ⟨rfl, rfl, rfl, by simp, fun k _ hk => setRow_other w g k _ (fun e => hk (by simp [Value.ownBlock, e]))⟩⟩
        · simp
          omega
        · have hcs : (List.take (l.length * i.size) (bytesV (l ++ sp)).toArray.toList ++ bytesV m ++ List.drop (l.length * i.size + (bytesV m).length) (bytesV (l ++ sp)).toArray.toList) = bytesV (l ++ m ++ sp.drop m.length) := by
            simp only [h3, Nat.mul_one, bytesV_append, bytesV_length, bytesV_drop]
            have e1 : (bytesV l).length = l.length := bytesV_length l
            rw [List.take_append_of_le_length (by omega), List.take_of_length_le (by omega), List.drop_append, e1]
            simp
            omega
          rw [hcs]
          exact setRow_heap w g _ _ e _ hrow
        · simp
          omega
      · have holds : ∀ j u, (bytesV l)[j]? = some u → w.cell? ((⟨g, 0, none⟩ : Addr).add j) = some u := by
          intro j u hu
          obtain ⟨hj, rfl⟩ := bytesV_get l j u hu
          have := hrow.cell j (by simp; omega)
          rw [Addr.add_lit, Nat.zero_add, this]
          simp [hj]
        have hr := run_append_grow (P := P) w t ty e i (.int .u8 0) ht h1 h2 ⟨g, 0, none⟩ l.length (l.length + sp.length) (bytesV l) (by rw [bytesV_length, h3]; omega) holds ⟨b, off, none⟩ m.length c (bytesV m) hnl hnews (by omega) (by omega) (growslice_fits (by omega) (by rw [h4]; omega))
        have hgr := grown (l.length + sp.length) (by omega) (Value.ownBlock (.slice (some ⟨g, 0, none⟩) l.length (l.length + sp.length)))
        exact ⟨_, _, hr, hgr.1, hgr.2⟩

/-- The same as a step of the walk. -/
theorem wpList_append_Own {P : Program} {w : World} {ops : Array Oper} {rest : List Oper} {o : Oper} {a : Act} {Q : Exit → Act → World → Prop} (hgd : o.guard = none) (s x : Operand) (t : TypeId)
    (ho : o.op = .call { callee := .builtin .append, args := #[s, x], argTypes := #[t, t] })
    (base e : Nat) (ht : P.underlying t = some (.slice e)) (hi : (P.info? e).map (fun i => (i.zero, i.size, i.bytes)) = some (some (.int .u8 0), 1, 1))
    (v u : Value) (l m : List UInt8) (hs : a.eval s = v) (hown : Own w base e v l) (hx : a.eval x = u) (hrd : Rd w u m) (hlen : l.length + m.length ≤ 140737488355328) (hbase : base ≤ w.heap.size)
    (h : ∀ v' w', Own w' base e v' (l ++ m) → w.grownBy w' v.ownBlock → wpList P ops Q rest (a.put o.dst v') w') : wpList P ops Q (o :: rest) a w := by
  refine wpList_plain hgd fun K hK => ?_
  obtain ⟨v', w', hr, h2, h3⟩ := run_append_Own (P := P) w base t o.type e ht hi v u l m hown hrd hlen hbase
  unfold Oper.wp execOp
  simp only [ho, resolve, invoke, builtin, Sem.run_bind, Sem.run_pure, Result.andThen_ok, List.map_toArray, List.map_cons, List.map_nil, hs, hx, hr]
  exact hK _ _ (h v' w' h2 h3)

end Go.FL




namespace Go.FL

open Go.RowKit Go.ChangeShapes Go.WideShapes Go.ChangeAt

theorem rd_of_trod {H : Type} {enc : TypeId × Value → H} {P : Program} {W : World} {spare : Nat → Bool} {held : Bool} {t e : TypeId} {a : Option Addr} {n c : Nat} {d : DataW H} {p : List MemPlace}
    (ht : P.underlying t = some (.slice e)) (he : P.underlying e = some (.int .u8)) (hc : P.cellsOf e = 1) (h : DataW.Trod enc P W 0 spare held t (.slice a n c) d p) :
    ∃ l, Rd W (.slice a n c) l := by
  obtain ⟨fuel, hf⟩ := h
  rcases open_ints ht he hc hf with ⟨hcs, _⟩ | ⟨x, l, c', zs, hcs, _, hl, hm, hz, _, hcell, hwz⟩
  · simp [Value.cells] at hcs
    obtain ⟨rfl, rfl, rfl⟩ := hcs
    exact ⟨[], Rd.nil W⟩
  · simp [Value.cells] at hcs
    obtain ⟨rfl, rfl, rfl⟩ := hcs
    have hzl : n ≤ zs.length := by rw [hz]; split <;> omega
    refine ⟨(zs.take n).map fun z => UInt8.ofNat z.toNat, some x, c, ?_, ?_, hm, by simp, ?_⟩
    · simp [Nat.min_eq_left hzl]
    · simp [Nat.min_eq_left hzl, hl]
    · intro j hj
      simp [Nat.min_eq_left hzl] at hj
      have hj' : j < zs.length := by omega
      have h1 := hcell j hj'
      have hget : zs.getD j 0 = zs[j] := by simp [List.getD, hj']
      rw [hget] at h1
      have hb := bounds_u8 (hwz zs[j] (List.getElem_mem hj'))
      have hs : x.spot = none := by
        have h0 := hcell 0 (by omega)
        have h0' := World.cell?_spot h0
        simpa [Addr.add] using h0'
      refine ⟨x.block, x.off, by cases x; simp_all, ?_⟩
      have hx : x.add j = ⟨x.block, x.off + j, none⟩ := by
        cases x
        simp_all [Addr.add]
      rw [← hx, h1]
      have hv : zs[j] = ((UInt8.ofNat zs[j].toNat).toNat : Int) := by
        simp [UInt8.toNat_ofNat']
        omega
      simp only [List.getElem_map, List.getElem_take]
      rw [← hv]
end Go.FL



namespace Go.FL

theorem wrap_u32_lt (n : Nat) (h : n < 4294967296) : IntKind.u32.wrap (n : Int) = (n : Int) := by
  rw [IntKind.wrap_u32]; omega

theorem ofInt_toNat (x : BitVec 32) : BitVec.ofInt 32 (x.toNat : Int) = x := by simp

theorem bits_xor32 (x y : BitVec 32) : bits .xor .u32 (x.toNat : Int) (y.toNat : Int) = ((x ^^^ y).toNat : Int) := by
  show IntKind.u32.wrap (((BitVec.ofInt 32 (x.toNat : Int)) ^^^ (BitVec.ofInt 32 (y.toNat : Int))).toNat : Int) = _
  rw [ofInt_toNat, ofInt_toNat]
  exact wrap_u32_lt _ (x ^^^ y).isLt
theorem bits_and32 (x y : BitVec 32) : bits .and .u32 (x.toNat : Int) (y.toNat : Int) = ((x &&& y).toNat : Int) := by
  show IntKind.u32.wrap (((BitVec.ofInt 32 (x.toNat : Int)) &&& (BitVec.ofInt 32 (y.toNat : Int))).toNat : Int) = _
  rw [ofInt_toNat, ofInt_toNat]
  exact wrap_u32_lt _ (x &&& y).isLt
theorem bits_or32 (x y : BitVec 32) : bits .or .u32 (x.toNat : Int) (y.toNat : Int) = ((x ||| y).toNat : Int) := by
  show IntKind.u32.wrap (((BitVec.ofInt 32 (x.toNat : Int)) ||| (BitVec.ofInt 32 (y.toNat : Int))).toNat : Int) = _
  rw [ofInt_toNat, ofInt_toNat]
  exact wrap_u32_lt _ (x ||| y).isLt
theorem not32 (x : BitVec 32) : bits .xor .u32 IntKind.u32.max (x.toNat : Int) = ((~~~ x).toNat : Int) := by
  have h : IntKind.u32.max = (((BitVec.allOnes 32).toNat : Nat) : Int) := by decide
  rw [h, bits_xor32]
  have : BitVec.allOnes 32 ^^^ x = ~~~ x := by
    apply BitVec.eq_of_getLsbD_eq
    intro i hi
    rw [BitVec.getLsbD_xor, BitVec.getLsbD_not, BitVec.getLsbD_allOnes]
    simp [-BitVec.getLsbD_eq_getElem, hi]
  rw [this]
theorem shr32 (x : BitVec 32) (k : Nat) : (x.toNat : Int) / (2 : Int) ^ k = ((x >>> k).toNat : Int) := by
  simp [BitVec.toNat_ushiftRight, Nat.shiftRight_eq_div_pow]
theorem and1_u32 (n : Nat) (h : n < 4294967296) : bits .and .u32 (n : Int) 1 = ((n % 2 : Nat) : Int) := by
  have h1 : (1 : Int) = (((1#32).toNat : Nat) : Int) := rfl
  have h2 : (n : Int) = (((BitVec.ofNat 32 n).toNat : Nat) : Int) := by simp; omega
  rw [h1, h2, bits_and32, BitVec.toNat_and, show (1#32).toNat = 1 from rfl, Nat.and_one_is_mod, BitVec.toNat_ofNat, Nat.mod_eq_of_lt h]
theorem half32 (x : BitVec 32) : (x.toNat : Int) / (2 : Int) = ((x >>> 1).toNat : Int) := by
  have := shr32 x 1
  simpa using this
theorem u32_of (a : Int) (h : (Lit.int .u32 a).wf = true) : ∃ s : BitVec 32, a = (s.toNat : Int) := by
  simp [Lit.wf, IntKind.min, IntKind.max, IntKind.signed, IntKind.bits] at h
  refine ⟨BitVec.ofNat 32 a.toNat, ?_⟩
  simp
  omega
theorem wrap_u8_lt (n : Nat) (h : n < 256) : IntKind.u8.wrap (n : Int) = (n : Int) := by
  rw [IntKind.wrap_u8]; omega
theorem ofInt_byte (x : UInt8) : BitVec.ofInt 8 (x.toNat : Int) = x.toBitVec := by
  rw [BitVec.ofInt_natCast]
  exact BitVec.ofNat_toNat 8 x.toBitVec
theorem bits_xor8 (x y : UInt8) : bits .xor .u8 (x.toNat : Int) (y.toNat : Int) = ((x ^^^ y).toNat : Int) := by
  show IntKind.u8.wrap (((BitVec.ofInt 8 (x.toNat : Int)) ^^^ (BitVec.ofInt 8 (y.toNat : Int))).toNat : Int) = _
  rw [ofInt_byte, ofInt_byte]
  exact wrap_u8_lt _ (x.toBitVec ^^^ y.toBitVec).isLt
theorem bits_or8 (x y : UInt8) : bits .or .u8 (x.toNat : Int) (y.toNat : Int) = ((x ||| y).toNat : Int) := by
  show IntKind.u8.wrap (((BitVec.ofInt 8 (x.toNat : Int)) ||| (BitVec.ofInt 8 (y.toNat : Int))).toNat : Int) = _
  rw [ofInt_byte, ofInt_byte]
  exact wrap_u8_lt _ (x.toBitVec ||| y.toBitVec).isLt
theorem bits_and8 (x y : UInt8) : bits .and .u8 (x.toNat : Int) (y.toNat : Int) = ((x &&& y).toNat : Int) := by
  show IntKind.u8.wrap (((BitVec.ofInt 8 (x.toNat : Int)) &&& (BitVec.ofInt 8 (y.toNat : Int))).toNat : Int) = _
  rw [ofInt_byte, ofInt_byte]
  exact wrap_u8_lt _ (x.toBitVec &&& y.toBitVec).isLt
theorem u8_of (a : Int) (h : (Lit.int .u8 a).wf = true) : ∃ s : UInt8, a = (s.toNat : Int) := by
  simp [Lit.wf, IntKind.min, IntKind.max, IntKind.signed, IntKind.bits] at h
  refine ⟨UInt8.ofNat a.toNat, ?_⟩
  simp [UInt8.toNat_ofNat']
  omega
theorem or_zero (x y : UInt8) : x ||| y = 0 ↔ x = 0 ∧ y = 0 := by
  constructor
  · intro h
    have hb : x.toBitVec ||| y.toBitVec = 0#8 := congrArg UInt8.toBitVec h
    constructor
    · apply UInt8.toBitVec_inj.1
      apply BitVec.eq_of_getLsbD_eq
      intro i hi
      have := congrArg (fun b : BitVec 8 => b.getLsbD i) hb
      simp [-BitVec.getLsbD_eq_getElem] at this
      simp [-BitVec.getLsbD_eq_getElem, this.1]
    · apply UInt8.toBitVec_inj.1
      apply BitVec.eq_of_getLsbD_eq
      intro i hi
      have := congrArg (fun b : BitVec 8 => b.getLsbD i) hb
      simp [-BitVec.getLsbD_eq_getElem] at this
      simp [-BitVec.getLsbD_eq_getElem, this.2]
  · rintro ⟨rfl, rfl⟩; rfl
theorem xor_zero8 (x y : UInt8) : x ^^^ y = 0 ↔ x = y := by
  constructor
  · intro h
    have : (x ^^^ y) ^^^ y = 0 ^^^ y := by rw [h]
    rw [UInt8.xor_assoc] at this
    simpa using this
  · rintro rfl; simp
end Go.FL



namespace Go.FL

open Go.RowKit

/-- Below B all is as it was; every cell that was there holds what it held. -/
def Ext (B : Nat) (a b : World) : Prop := Below B a b ∧ ∀ p v, a.cell? p = some v → b.cell? p = some v
theorem Ext.refl (B : Nat) (a : World) : Ext B a a := ⟨Below.refl _ _, fun _ _ h => h⟩
theorem Ext.trans {B : Nat} {a b c : World} (h : Ext B a b) (k : Ext B b c) : Ext B a c := ⟨h.1.trans k.1, fun p v hv => k.2 p v (h.2 p v hv)⟩
theorem Ext.of_gr {B : Nat} {a b : World} (h : Below a.heap.size a b) (hB : B ≤ a.heap.size) : Ext B a b := ⟨h.mono hB, fun _ _ hv => cell?_of_below h hv⟩
theorem Ext.drew (B : Nat) (a : World) : Ext B a a.drew := ⟨(Below.refl _ _).drew, fun _ _ h => h⟩
theorem Rd.ext {B : Nat} {w w' : World} {v : Value} {l : List UInt8} (h : Rd w v l) (hb : Ext B w w') : Rd w' v l := by
  obtain ⟨p, c, h1, h2, h3, h4, h5⟩ := h
  exact ⟨p, c, h1, h2, h3, h4, fun j hj => let ⟨b, off, e, hc⟩ := h5 j hj; ⟨b, off, e, hb.2 _ _ hc⟩⟩

/-- A slice over a block of one's own. -/
def InOwn (B : Nat) (w : World) (v : Value) : Prop := ∃ g off n c o u, v = .slice (some ⟨g, off, none⟩) n c ∧ B ≤ g ∧ w.cell? ⟨g, o, none⟩ = some u
theorem InOwn.ext {B : Nat} {w w' : World} {v : Value} (h : InOwn B w v) (hb : Ext B w w') : InOwn B w' v := by
  obtain ⟨g, off, n, c, o, u, h1, h2, h3⟩ := h
  exact ⟨g, off, n, c, o, u, h1, h2, hb.2 _ _ h3⟩
theorem InOwn.new {B : Nat} {w : World} {l : List UInt8} {g n c : Nat} (h : Rd w (.slice (some ⟨g, 0, none⟩) n c) l) (hl : 0 < l.length) (hg : B ≤ g) : InOwn B w (.slice (some ⟨g, 0, none⟩) n c) := by
  obtain ⟨b, off, c', h1, _, _, h2⟩ := h.at hl
  simp at h1
  obtain ⟨⟨rfl, rfl⟩, _, _⟩ := h1
  exact ⟨_, _, _, _, _, _, rfl, hg, h2 0 hl⟩

theorem freeze_ext (B : Nat) (w : World) (g k : Nat) (hB : B ≤ g) : Ext B w (w.freeze ⟨g, k, none⟩ 1) := by
  unfold World.freeze
  rw [if_neg (by decide)]
  refine ⟨⟨rfl, rfl, rfl, by simp, fun i hi => ?_⟩, ?_⟩
  · show (w.heap.modify g _)[i]? = _
    rw [Array.getElem?_modify, if_neg (by omega)]
  · intro p v hv
    unfold World.cell? at hv ⊢
    show (match (w.heap.modify g _)[p.block]? with | some (.cells c _ _) => if p.spot.isSome then none else c[p.off]? | _ => none) = _
    rw [Array.getElem?_modify]
    by_cases hg : g = p.block
    · rw [if_pos hg]
      cases ho : w.heap[p.block]? with
      | none => rw [ho] at hv; simp at hv
      | some o => rw [ho] at hv; cases o <;> first | exact hv | (simp at hv; done)
    · rw [if_neg hg]
      exact hv

/-- '[]byte("..")': a slice turned into its own type: the value stays; its block gets a mark behind its last cell. -/
theorem run_convert_own {P : Program} (B : Nat) (w : World) (t e : TypeId) (ht : P.underlying t = some (.slice e)) (he : P.underlying e = some (.int .u8)) (v : Value) (h : InOwn B w v) :
    ∃ w', (convert t t v).run P w = .ok v w' ∧ Ext B w w' := by
  obtain ⟨g, off, n, c, o, u, rfl, hB, hcell⟩ := h
  obtain ⟨C, e', fr, hg⟩ : ∃ C e' fr, w.heap[g]? = some (.cells C e' fr) := by
    unfold World.cell? at hcell
    cases ho : w.heap[g]? with
    | none => simp only [ho] at hcell; cases hcell
    | some ob => simp only [ho] at hcell; cases ob <;> first | exact ⟨_, _, _, rfl⟩ | (simp at hcell; done)
  refine ⟨w.freeze ⟨g, C.size, none⟩ 1, ?_, freeze_ext B w g C.size hB⟩
  have hsh : w.shape? g = some (e', C.size) := by
    unfold World.shape?
    rw [hg]
  simp [convert, run_underlying ht, run_underlying he, markStringish, hsh]

/-- 'append' to a row of one's own behind a guard that says yes. -/
theorem wpList_append_OwnG {P : Program} {w : World} {ops : Array Oper} {rest : List Oper} {o : Oper} {a : Act} {Q : Exit → Act → World → Prop} (hgd : Region.wanted o (yielded ops a.tmps) = true) (s x : Operand) (t : TypeId)
    (ho : o.op = .call { callee := .builtin .append, args := #[s, x], argTypes := #[t, t] })
    (base e : Nat) (ht : P.underlying t = some (.slice e)) (hi : (P.info? e).map (fun i => (i.zero, i.size, i.bytes)) = some (some (.int .u8 0), 1, 1))
    (v u : Value) (l m : List UInt8) (hs : a.eval s = v) (hown : Own w base e v l) (hx : a.eval x = u) (hrd : Rd w u m) (hlen : l.length + m.length ≤ 140737488355328) (hbase : base ≤ w.heap.size)
    (h : ∀ v' w', Own w' base e v' (l ++ m) → w.grownBy w' v.ownBlock → wpList P ops Q rest (a.put o.dst v') w') : wpList P ops Q (o :: rest) a w := by
  refine wpList_step fun K hK => ?_
  rw [if_pos hgd]
  obtain ⟨v', w', hr, h2, h3⟩ := run_append_Own (P := P) w base t o.type e ht hi v u l m hown hrd hlen hbase
  unfold Oper.wp execOp
  simp only [ho, resolve, invoke, builtin, Sem.run_bind, Sem.run_pure, Result.andThen_ok, List.map_toArray, List.map_cons, List.map_nil, hs, hx, hr]
  exact hK _ _ (h v' w' h2 h3)

/-- The first bytes of a slice. -/
theorem Rd.take {w : World} {p : Option Addr} {n c : Nat} {l : List UInt8} (h : Rd w (.slice p n c) l) (k : Nat) (hk : k ≤ l.length) : Rd w (.slice p k c) (l.take k) := by
  obtain ⟨p', c', h1, h2, h3, h4, h5⟩ := h
  simp at h1
  obtain ⟨rfl, rfl, rfl⟩ := h1
  have hl : (l.take k).length = k := by simp; omega
  refine ⟨p, c, by rw [hl], by omega, h3, h4, fun j hj => ?_⟩
  obtain ⟨b, off, e, hc⟩ := h5 j (by omega)
  exact ⟨b, off, e, by simpa using hc⟩
/-- Those behind a place. -/
theorem Rd.drop {w : World} {b off n c : Nat} {l : List UInt8} (h : Rd w (.slice (some ⟨b, off, none⟩) n c) l) (k : Nat) (hk : k ≤ l.length) : Rd w (.slice (some ⟨b, off + k, none⟩) (n - k) (c - k)) (l.drop k) := by
  obtain ⟨p', c', h1, h2, h3, h4, h5⟩ := h
  simp at h1
  obtain ⟨rfl, rfl, rfl⟩ := h1
  have hl : (l.drop k).length = l.length - k := by simp
  refine ⟨_, c - k, by rw [hl], by omega, by omega, by simp, fun j hj => ?_⟩
  obtain ⟨b', off', e, hc⟩ := h5 (k + j) (by omega)
  simp at e
  obtain ⟨rfl, rfl⟩ := e
  refine ⟨b, off + k, rfl, ?_⟩
  rw [Nat.add_assoc, hc]
  simp
/-- A piece, as the walk writes it: the two ways of its address. -/
theorem Rd.cutL {w : World} {p : Option Addr} {n c : Nat} {l : List UInt8} (h : Rd w (.slice p n c) l) (i k : Nat) (hik : i + k ≤ l.length) (e : c = i) : Rd w (.slice p k 0) ((l.drop i).take k) := by
  have := h.cut i (i + k) (by omega) hik
  rw [Nat.add_sub_cancel_left, sliced, if_pos e, Nat.add_sub_cancel_left, show c - i = 0 by omega] at this
  exact this
theorem Rd.cutR {w : World} {p : Option Addr} {n c : Nat} {l : List UInt8} (h : Rd w (.slice p n c) l) (i k : Nat) (hik : i + k ≤ l.length) (e : ¬ c = i) : Rd w (.slice (Option.map (fun x => x.add i) p) k (c - i)) ((l.drop i).take k) := by
  have := h.cut i (i + k) (by omega) hik
  rw [Nat.add_sub_cancel_left, sliced, if_neg e, Nat.add_sub_cancel_left, Nat.mul_one] at this
  exact this
theorem Rd.drop0 {w : World} {b n c : Nat} {l : List UInt8} (h : Rd w (.slice (some ⟨b, 0, none⟩) n c) l) (k : Nat) (hk : k ≤ l.length) : Rd w (.slice (some ⟨b, k, none⟩) (n - k) (c - k)) (l.drop k) := by
  have := h.drop k hk
  rwa [Nat.zero_add] at this
end Go.FL

/- Bytes in memory: what a slice of bytes reads as; a row of bytes of one's own, its spare room too. Conditions: none. No program in sight. -/
import Derived.WalkKit
import Derived.WalkSpells
import Derived.WalkLawsBesides
import Derived.ProofKit
namespace Go.FL
open Go.RowKit

/-- A fact kept from the walk. -/
theorem hid {p : Prop} (h : p) : Hid p := h

theorem byte_lt (c : UInt8) : (c.toNat : Int) < 256 := by have := c.toNat_lt; omega

/-- The slice value v reads as the bytes l in the world w. -/
def Rd (w : World) (v : Value) (l : List UInt8) : Prop :=
  ∃ p c, v = .slice p l.length c ∧ l.length ≤ c ∧ c ≤ maxLen ∧ (p = none → c = 0) ∧
    (∀ j (_ : j < l.length), ∃ b off, p = some ⟨b, off, none⟩ ∧ w.cell? ⟨b, off + j, none⟩ = some (.int .u8 (l[j].toNat : Int)))

theorem Rd.nil (w : World) : Rd w (.slice none 0 0) [] := ⟨none, 0, rfl, Nat.le_refl _, Nat.zero_le _, fun _ => rfl, fun j h => by simp at h⟩

theorem cell?_of_below {w w' : World} (h : Below w.heap.size w w') {a : Addr} {v : Value} (hc : w.cell? a = some v) : w'.cell? a = some v := by
  rw [h.cell (World.block_lt_of_cell? w a hc)]; exact hc

theorem Rd.mono {w w' : World} {v : Value} {l : List UInt8} (h : Rd w v l) (hb : Below w.heap.size w w') : Rd w' v l := by
  obtain ⟨p, c, h1, h2, h3, h4, h5⟩ := h
  exact ⟨p, c, h1, h2, h3, h4, fun j hj => let ⟨b, off, e, hc⟩ := h5 j hj; ⟨b, off, e, cell?_of_below hb hc⟩⟩

/-- What it reads as, where the world has grown below it. -/
theorem Rd.empty {w : World} {v : Value} {l : List UInt8} (h : Rd w v l) (hl : l = []) : ∃ p c, v = .slice p 0 c ∧ c ≤ maxLen ∧ (p = none → c = 0) := by
  obtain ⟨p, c, h1, h2, h3, h4, h5⟩ := h
  subst hl
  exact ⟨p, c, h1, h3, h4⟩

theorem Rd.at {w : World} {v : Value} {l : List UInt8} (h : Rd w v l) (hl : 0 < l.length) :
    ∃ b off c, v = .slice (some ⟨b, off, none⟩) l.length c ∧ l.length ≤ c ∧ c ≤ maxLen ∧ ∀ j (_ : j < l.length), w.cell? ⟨b, off + j, none⟩ = some (.int .u8 (l[j].toNat : Int)) := by
  obtain ⟨p, c, h1, h2, h3, h4, h5⟩ := h
  obtain ⟨b, off, rfl, _⟩ := h5 0 hl
  refine ⟨b, off, c, h1, h2, h3, fun j hj => ?_⟩
  obtain ⟨b', off', e, hc⟩ := h5 j hj
  simp at e
  obtain ⟨rfl, rfl⟩ := e
  exact hc

/-- A piece of it. -/
theorem Rd.cut {w : World} {p : Option Addr} {n c : Nat} {l : List UInt8} (h : Rd w (.slice p n c) l) (i j : Nat) (hij : i ≤ j) (hj : j ≤ l.length) :
    Rd w (sliced p i j c 1) ((l.drop i).take (j - i)) := by
  obtain ⟨p', c', h1, h2, h3, h4, h5⟩ := h
  simp at h1
  obtain ⟨rfl, rfl, rfl⟩ := h1
  have hlen : ((l.drop i).take (j - i)).length = j - i := by simp; omega
  refine ⟨if c = i then p else p.map (·.add (i * 1)), c - i, ?_, by omega, by omega, ?_, ?_⟩
  · rw [sliced, hlen]
  · intro hn
    by_cases e : c = i
    · omega
    · rw [if_neg e] at hn
      simp at hn
      have := h4 hn
      omega
  · intro k hk
    rw [hlen] at hk
    obtain ⟨b, off, e, hc⟩ := h5 (i + k) (by omega)
    subst e
    refine ⟨b, off + i, ?_, ?_⟩
    · rw [if_neg (by omega)]
      simp [Addr.add]
    · simp only [List.getElem_take, List.getElem_drop]
      rw [Nat.add_assoc]
      exact hc

def bytesV (l : List UInt8) : List Value := l.map fun b => Value.int .u8 (b.toNat : Int)

theorem bytesV_length (l : List UInt8) : (bytesV l).length = l.length := by simp [bytesV]
theorem bytesV_oneCell (l : List UInt8) : ∀ u ∈ bytesV l, u.oneCell' = true := by
  intro u hu
  simp [bytesV] at hu
  obtain ⟨b, _, rfl⟩ := hu
  rfl
theorem bytesV_append (l m : List UInt8) : bytesV (l ++ m) = bytesV l ++ bytesV m := by simp [bytesV]
theorem bytesV_take (l : List UInt8) (n : Nat) : bytesV (l.take n) = (bytesV l).take n := by simp [bytesV]
theorem bytesV_drop (l : List UInt8) (n : Nat) : bytesV (l.drop n) = (bytesV l).drop n := by simp [bytesV]
theorem bytesV_get (l : List UInt8) (j : Nat) (u : Value) (h : (bytesV l)[j]? = some u) : ∃ hj : j < l.length, u = .int .u8 (l[j].toNat : Int) := by
  simp [bytesV, List.getElem?_map] at h
  obtain ⟨b, hb, rfl⟩ := h
  obtain ⟨hj, rfl⟩ := List.getElem?_eq_some_iff.1 hb
  exact ⟨hj, rfl⟩

/-- Block number g is a row of bytes of the type e, none of them frozen. -/
def Row (w : World) (g e : Nat) (l : List UInt8) : Prop := w.heap[g]? = some (.cells (bytesV l).toArray e (0, 0))

theorem Row.lt {w : World} {g e : Nat} {l : List UInt8} (h : Row w g e l) : g < w.heap.size := (Array.getElem?_eq_some_iff.1 h).1
theorem Row.cell {w : World} {g e : Nat} {l : List UInt8} (h : Row w g e l) (i : Nat) (hi : i < l.length) : w.cell? ⟨g, i, none⟩ = some (.int .u8 (l[i].toNat : Int)) := by
  unfold Row at h
  simp [World.cell?, h, bytesV, hi]
theorem Row.frozen {w : World} {g e : Nat} {l : List UInt8} (h : Row w g e l) (i : Nat) : w.frozen? ⟨g, i, none⟩ = false := by
  unfold Row at h
  simp [World.frozen?, h]
theorem Row.mono {w w' : World} {g e : Nat} {l : List UInt8} (h : Row w g e l) (hb : Below w.heap.size w w') : Row w' g e l := by
  unfold Row at *
  rw [hb.block g (Array.getElem?_eq_some_iff.1 h).1, h]
theorem Row.below {w w' : World} {B g e : Nat} {l : List UInt8} (h : Row w g e l) (hb : Below B w w') (hg : g < B) : Row w' g e l := by
  unfold Row at *
  rw [hb.block g hg, h]
theorem Row.grown {w w' : World} {g e : Nat} {l : List UInt8} {r : Option Nat} (h : Row w g e l) (hb : w.grownBy w' r) (hg : r ≠ some g) : Row w' g e l := by
  have h0 := h.lt
  unfold Row at *
  rw [hb.block g h0 (fun e => hg e.symm), h]
theorem Row.store {w : World} {g e : Nat} {l : List UInt8} (h : Row w g e l) (i : Nat) (b : UInt8) : Row (w.setCell ⟨g, i, none⟩ (.int .u8 (b.toNat : Int))) g e (l.set i b) := by
  unfold Row at *
  simp [World.setCell, Array.getElem?_modify, h, bytesV, List.map_set]
theorem Row.other {w : World} {g e : Nat} {l : List UInt8} (h : Row w g e l) (a : Addr) (u : Value) (hne : a.block ≠ g) : Row (w.setCell a u) g e l := by
  unfold Row at *
  rw [Below.heap_setCell _ _ _ _ (Ne.symm hne), h]
theorem Row.new (w : World) (e : Nat) (l : List UInt8) : Row (w.alloc (.cells (bytesV l).toArray e (0, 0))) w.heap.size e l := heap_alloc_new w _
theorem Row.alloc {w : World} {g e : Nat} {l : List UInt8} (h : Row w g e l) (o : Obj) : Row (w.alloc o) g e l := by
  have := h.lt
  unfold Row at *
  rw [Below.heap_alloc _ _ _ this, h]
theorem Row.drew {w : World} {g e : Nat} {l : List UInt8} (h : Row w g e l) : Row w.drew g e l := h
theorem Row.drewN {w : World} {g e : Nat} {l : List UInt8} (h : Row w g e l) (n : Nat) : Row (w.drewN n) g e l := h

theorem Rd.drewN {w : World} {v : Value} {l : List UInt8} (h : Rd w v l) (n : Nat) : Rd (w.drewN n) v l := h
theorem below_drewN' {B : Nat} {a w : World} (h : Below B a w) (n : Nat) : Below B a (w.drewN n) := ⟨h.os, h.tape, h.output, h.size, h.block⟩

/-- A row, read from its head. -/
theorem Row.rd {w : World} {g e : Nat} {l : List UInt8} (h : Row w g e l) (n c : Nat) (hn : n ≤ l.length) (hc : n ≤ c) (hm : c ≤ maxLen) : Rd w (.slice (some ⟨g, 0, none⟩) n c) (l.take n) := by
  have hl : (l.take n).length = n := by simp; omega
  refine ⟨some ⟨g, 0, none⟩, c, by rw [hl], by omega, hm, by simp, ?_⟩
  intro j hj
  refine ⟨g, 0, rfl, ?_⟩
  rw [Nat.zero_add, h.cell j (by omega)]
  simp

theorem rd_new (w : World) (e : Nat) (l : List UInt8) (n : Nat) (cs : Array Value) (hn : n = l.length) (hcs : cs = (bytesV l).toArray) (hm : n ≤ maxLen) : Rd (w.alloc (.cells cs e (0, 0))) (.slice (some ⟨w.heap.size, 0, none⟩) n n) l := by
  subst hn hcs
  have := (Row.new w e l).rd l.length l.length (Nat.le_refl _) (Nat.le_refl _) hm
  simpa using this

theorem gr_trans {a b c : World} (h : Below a.heap.size a b) (k : Below b.heap.size b c) : Below a.heap.size a c := h.trans (k.mono h.size)
theorem gr_drewN (w : World) (n : Nat) : Below w.heap.size w (w.drewN n) := below_drewN' (Below.refl _ _) n
theorem gr_of_grown {w w' : World} {r : Option Nat} (h : w.grownBy w' r) (hr : r = none) : Below w.heap.size w w' :=
  ⟨h.os, h.tape, h.output, h.size, fun k hk => h.block k hk (by rw [hr]; simp)⟩

/-- v is a row of one's own, from block number base on, that holds the bytes l; e: the bytes' type. Its spare room holds bytes too. -/
def Own (w : World) (base e : Nat) (v : Value) (l : List UInt8) : Prop :=
  (v = .slice none 0 0 ∧ l = []) ∨
  ∃ g sp, base ≤ g ∧ v = .slice (some ⟨g, 0, none⟩) l.length (l.length + List.length sp) ∧ Row w g e (l ++ sp) ∧ l.length + sp.length ≤ maxLen

theorem Own.nil (w : World) (base e : Nat) : Own w base e (.slice none 0 0) [] := .inl ⟨rfl, rfl⟩
theorem Own.rd {w : World} {base e : Nat} {v : Value} {l : List UInt8} (h : Own w base e v l) : Rd w v l := by
  rcases h with ⟨rfl, rfl⟩ | ⟨g, sp, _, rfl, hr, hm⟩
  · exact Rd.nil w
  · have := hr.rd l.length (l.length + sp.length) (by simp) (by omega) hm
    simpa using this
theorem Own.mono {w w' : World} {base e : Nat} {v : Value} {l : List UInt8} (h : Own w base e v l) (hb : Below w.heap.size w w') : Own w' base e v l := by
  rcases h with ⟨rfl, rfl⟩ | ⟨g, sp, h1, rfl, hr, hm⟩
  · exact .inl ⟨rfl, rfl⟩
  · exact .inr ⟨g, sp, h1, rfl, hr.mono hb, hm⟩
theorem Own.base {w : World} {base base' e : Nat} {v : Value} {l : List UInt8} (h : Own w base e v l) (hb : base' ≤ base) : Own w base' e v l := by
  rcases h with ⟨rfl, rfl⟩ | ⟨g, sp, h1, rfl, hr, hm⟩
  · exact .inl ⟨rfl, rfl⟩
  · exact .inr ⟨g, sp, by omega, rfl, hr, hm⟩
theorem Own.ge {w : World} {base e : Nat} {v : Value} {l : List UInt8} (h : Own w base e v l) : ∀ k, v.ownBlock = some k → base ≤ k := by
  intro k hk
  rcases h with ⟨rfl, rfl⟩ | ⟨g, sp, h1, rfl, hr, hm⟩
  · simp [Value.ownBlock] at hk
  · simp [Value.ownBlock] at hk; omega
theorem Own.alloc {w : World} {base e : Nat} {v : Value} {l : List UInt8} (h : Own w base e v l) (o : Obj) : Own (w.alloc o) base e v l :=
  h.mono ((Below.refl _ _).alloc (Nat.le_refl _) o)

/-- What a call hands back: bytes in a row of its own; all that was there stays. -/
def RetOwn (w : World) (e : Nat) (l : List UInt8) (en : Ending) (w' : World) : Prop :=
  ∃ v', en = .returned v' ∧ Own w' w.heap.size e v' l ∧ Below w.heap.size w w'

/-- What a call answers; all that was there stays. -/
def Gives (w : World) (v : Value) (en : Ending) (w' : World) : Prop := en = .returned v ∧ Below w.heap.size w w'

theorem zeroCells_u8 (n : Nat) : (Builtin.zeroCells (Value.int .u8 0).cells n).toList = bytesV (List.replicate n 0) := by
  apply List.ext_getElem?
  intro i
  simp [Builtin.zeroCells, bytesV, Value.cells, List.getElem?_replicate]
  by_cases h : i < n <;> simp [h, Nat.mod_one]
theorem madeCells_u8 (n : Nat) : madeCells (Value.int .u8 0).cells (n * 1) = (bytesV (List.replicate n 0)).toArray := by
  apply Array.ext'
  apply List.ext_getElem?
  intro i
  simp [madeCells, bytesV, Value.cells, List.getElem?_replicate]
  by_cases h : i < n <;> simp [h, Nat.mod_one]

/-- 'make([]byte, n)', n a variable: an equation on the operation, for every world. -/
theorem run_make_u8 {P : Program} (t e : TypeId) (ht : P.underlying t = some (.slice e)) (hi : (P.info? e).map (fun i => (i.zero, i.size, i.bytes)) = some (some (.int .u8 0), 1, 1)) (kl kc : IntKind) (n : Nat) (hn : n ≤ 281474976710656) (w : World) :
    (Instr.makeSlice t (.int kl (n : Int)) (.int kc (n : Int))).run P w = .ok (.slice (some ⟨w.heap.size, 0, none⟩) n n) (w.alloc (.cells (bytesV (List.replicate n 0)).toArray e (0, 0))) := by
  obtain ⟨i, h1, h2, h3, h4⟩ := info_parts hi
  have := run_make (P := P) w t e i _ ht h1 h2 kl kc (n : Int) (n : Int) (by omega) (Int.le_refl _) (by rw [h4]; omega) (by omega)
  rw [this, h3]
  simp only [Int.toNat_natCast]
  rw [madeCells_u8]

/-- 'append(v, x...)': v a row of one's own, x any bytes. -/
theorem run_append_Own {P : Program} (w : World) (base : Nat) (t ty e : TypeId) (ht : P.underlying t = some (.slice e)) (hi : (P.info? e).map (fun i => (i.zero, i.size, i.bytes)) = some (some (.int .u8 0), 1, 1))
    (v x : Value) (l m : List UInt8) (hown : Own w base e v l) (hx : Rd w x m) (hlen : l.length + m.length ≤ 140737488355328) (hbase : base ≤ w.heap.size) :
    ∃ v' w', (Builtin.append_ #[t, t] ty #[v, x]).run P w = .ok v' w' ∧ Own w' base e v' (l ++ m) ∧ w.grownBy w' v.ownBlock := by
  obtain ⟨i, h1, h2, h3, h4⟩ := info_parts hi
  by_cases hm0 : m = []
  · subst hm0
    obtain ⟨p, c, rfl, hc, hpc⟩ := hx.empty rfl
    refine ⟨v, w, ?_, by simpa using hown, ⟨rfl, rfl, rfl, Nat.le_refl _, fun _ _ _ => rfl⟩⟩
    have hle : ∃ vp vn vc, v = .slice vp vn vc ∧ vn ≤ vc := by
      rcases hown with ⟨rfl, rfl⟩ | ⟨g, sp, _, rfl, _, _⟩
      · exact ⟨none, 0, 0, rfl, Nat.le_refl _⟩
      · exact ⟨_, _, _, rfl, by omega⟩
    obtain ⟨vp, vn, vc, rfl, hle⟩ := hle
    cases p <;> cases vp <;> simp [Builtin.append_, run_underlying ht, sizeOf, typeInfo, h1, Builtin.lenOf, Builtin.firstCells, loadCells, loadCellsFrom, hle, storeCells]
  · have hpos : 0 < m.length := List.length_pos_iff.2 hm0
    obtain ⟨b, off, c, rfl, hmc, hcm, hcell⟩ := hx.at hpos
    have hnews : ∀ j u, (bytesV m)[j]? = some u → w.cell? ((⟨b, off, none⟩ : Addr).add j) = some u := by
      intro j u hu
      obtain ⟨hj, rfl⟩ := bytesV_get m j u hu
      rw [Addr.add_lit]
      exact hcell j hj
    have hnl : (bytesV m).length = m.length * i.size := by rw [bytesV_length, h3]; omega
    have grown : ∀ (old : Nat), old < l.length + m.length → ∀ (row : Option Nat),
        Own (w.drew.alloc (.cells ((bytesV l).toArray ++ (bytesV m).toArray ++ Builtin.zeroCells (Value.int .u8 0).cells (grownCap w (l.length + m.length) old e - (l.length + m.length))) e)) base e
          (.slice (some ⟨w.heap.size, 0, none⟩) (l.length + m.length) (grownCap w (l.length + m.length) old e)) (l ++ m) ∧
        w.grownBy (w.drew.alloc (.cells ((bytesV l).toArray ++ (bytesV m).toArray ++ Builtin.zeroCells (Value.int .u8 0).cells (grownCap w (l.length + m.length) old e - (l.length + m.length))) e)) row := by
      intro old _ row
      have hge := grownCap_ge w (l.length + m.length) old e
      have hcm' : grownCap w (l.length + m.length) old e ≤ maxLen := grownCap_le_maxLen w (l.length + m.length) old e (by unfold maxLen; omega)
      refine ⟨.inr ⟨w.heap.size, List.replicate (grownCap w (l.length + m.length) old e - (l.length + m.length)) 0, hbase, ?_, ?_, ?_⟩, ⟨rfl, rfl, rfl, by simp, fun k hk _ => Below.heap_alloc w.drew _ k hk⟩⟩
      · simp
        omega
      · have hcs : (bytesV l).toArray ++ (bytesV m).toArray ++ Builtin.zeroCells (Value.int .u8 0).cells (grownCap w (l.length + m.length) old e - (l.length + m.length)) = (bytesV (l ++ m ++ List.replicate (grownCap w (l.length + m.length) old e - (l.length + m.length)) 0)).toArray := by
          apply Array.ext'
          simp only [Array.toList_append, zeroCells_u8, bytesV_append]
        rw [hcs]
        exact heap_alloc_new w.drew _
      · simp
        omega
    rcases hown with ⟨rfl, rfl⟩ | ⟨g, sp, hbg, rfl, hrow, hcap⟩
    · have hr := run_append_nil (P := P) w t ty e i (.int .u8 0) ht h1 h2 ⟨b, off, none⟩ m.length c (bytesV m) hnl hnews hpos (by simp at hlen; omega) (by rw [h4]; simp at hlen; omega)
      have hgr := grown 0 (by simpa using hpos) (Value.ownBlock (.slice none 0 0))
      simp only [List.length_nil, Nat.zero_add, List.nil_append, bytesV, List.map_nil, Array.empty_append] at hgr ⊢
      exact ⟨_, _, hr, hgr.1, hgr.2⟩
    · by_cases hroom : l.length + m.length ≤ l.length + sp.length
      · have hr := run_append_room (P := P) w t ty e i ht h1 g l.length (l.length + sp.length) (bytesV (l ++ sp)).toArray hrow ⟨b, off, none⟩ m.length c (bytesV m) hnl hnews (bytesV_oneCell m) hroom (by rw [h3]; simp [bytesV_length]; omega)
        refine ⟨_, _, hr, .inr ⟨g, sp.drop m.length, hbg, ?_, ?_, ?_⟩, ⟨rfl, rfl, rfl, by simp, fun k _ hk => setRow_other w g k _ (fun e => hk (by simp [Value.ownBlock, e]))⟩⟩
        · simp
          omega
        · have hcs : (List.take (l.length * i.size) (bytesV (l ++ sp)).toArray.toList ++ bytesV m ++ List.drop (l.length * i.size + (bytesV m).length) (bytesV (l ++ sp)).toArray.toList) = bytesV (l ++ m ++ sp.drop m.length) := by
            simp only [h3, Nat.mul_one, bytesV_append, bytesV_length, bytesV_drop]
            have e1 : (bytesV l).length = l.length := bytesV_length l
            rw [List.take_append_of_le_length (by omega), List.take_of_length_le (by omega), List.drop_append, e1]
            simp
            omega
          rw [hcs]
          exact setRow_heap w g _ _ e _ hrow
        · simp
          omega
      · have holds : ∀ j u, (bytesV l)[j]? = some u → w.cell? ((⟨g, 0, none⟩ : Addr).add j) = some u := by
          intro j u hu
          obtain ⟨hj, rfl⟩ := bytesV_get l j u hu
          have := hrow.cell j (by simp; omega)
          rw [Addr.add_lit, Nat.zero_add, this]
          simp [hj]
        have hr := run_append_grow (P := P) w t ty e i (.int .u8 0) ht h1 h2 ⟨g, 0, none⟩ l.length (l.length + sp.length) (bytesV l) (by rw [bytesV_length, h3]; omega) holds ⟨b, off, none⟩ m.length c (bytesV m) hnl hnews (by omega) (by omega) (growslice_fits (by omega) (by rw [h4]; omega))
        have hgr := grown (l.length + sp.length) (by omega) (Value.ownBlock (.slice (some ⟨g, 0, none⟩) l.length (l.length + sp.length)))
        exact ⟨_, _, hr, hgr.1, hgr.2⟩

/-- The same as a step of the walk. -/
theorem wpList_append_Own {P : Program} {w : World} {ops : Array Oper} {rest : List Oper} {o : Oper} {a : Act} {Q : Exit → Act → World → Prop} (hgd : o.guard = none) (s x : Operand) (t : TypeId)
    (ho : o.op = .call { callee := .builtin .append, args := #[s, x], argTypes := #[t, t] })
    (base e : Nat) (ht : P.underlying t = some (.slice e)) (hi : (P.info? e).map (fun i => (i.zero, i.size, i.bytes)) = some (some (.int .u8 0), 1, 1))
    (v u : Value) (l m : List UInt8) (hs : a.eval s = v) (hown : Own w base e v l) (hx : a.eval x = u) (hrd : Rd w u m) (hlen : l.length + m.length ≤ 140737488355328) (hbase : base ≤ w.heap.size)
    (h : ∀ v' w', Own w' base e v' (l ++ m) → w.grownBy w' v.ownBlock → wpList P ops Q rest (a.put o.dst v') w') : wpList P ops Q (o :: rest) a w := by
  refine wpList_plain hgd fun K hK => ?_
  obtain ⟨v', w', hr, h2, h3⟩ := run_append_Own (P := P) w base t o.type e ht hi v u l m hown hrd hlen hbase
  unfold Oper.wp execOp
  simp only [ho, resolve, invoke, builtin, Sem.run_bind, Sem.run_pure, Result.andThen_ok, List.map_toArray, List.map_cons, List.map_nil, hs, hx, hr]
  exact hK _ _ (h v' w' h2 h3)

end Go.FL

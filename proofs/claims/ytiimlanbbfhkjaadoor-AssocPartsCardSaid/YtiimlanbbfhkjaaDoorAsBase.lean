/- An association in memory: its block, its row of what is to be sent, the bytes that it owns; what a method may change. Conditions: none. No walk. -/
import Derived.Test.YtiimlanbbfhkjaaDoorBaseF
import Derived.Test.YtiimlanbbfhkjaaDoorBaseC
import Derived.Test.YtiimlanbbfhkjaaDoorBodA
set_option linter.unusedSimpArgs false
set_option linter.unusedVariables false






namespace Go.FL

open Go.RowKit

structure OutD where
  path : Nat
  tag : Nat
  c : Chk
structure EvD where
  began : Bool
  ended : Bool
  clean : Bool
  peer : InitD
  tsn : Nat
def EvD.none : EvD := ⟨false, false, false, .zero, 0⟩
def EvD.cells (e : EvD) : List Value := [.bool e.began, .bool e.ended, .bool e.clean, .int .u32 (e.peer.tag : Int), .int .u32 (e.peer.rwnd : Int), .int .u16 (e.peer.out : Int), .int .u16 (e.peer.in_ : Int), .int .u32 (e.peer.tsn : Int), .slice .none 0 0, .int .u32 (e.tsn : Int)]
def EvD.val (e : EvD) : Value := .agg #[.bool e.began, .bool e.ended, .bool e.clean, .int .u32 (e.peer.tag : Int), .int .u32 (e.peer.rwnd : Int), .int .u16 (e.peer.out : Int), .int .u16 (e.peer.in_ : Int), .int .u32 (e.peer.tsn : Int), .slice .none 0 0, .int .u32 (e.tsn : Int)]
structure AsD where
  p : Nat
  t : Nat
  key : List UInt8
  st : Nat
  tag : Nat
  tsn : Nat
  peer : InitD
  go : Nat
  gp : Nat
  row : List OutD
  timer : Int
  said : OutD
  wait : Nat
  often : Nat
/-- The cells of an association; vk, vp, vr, vs: the slices of the key, the peer's cookie, the row, the body of what was said last. -/
def AsD.cells (a : AsD) (vk vp vr vs : Value) : List Value :=
  [.int .i64 (a.p : Int), .int .i64 128, .int .i64 2, .int .i64 65536, .int .i64 65536, .int .i64 1000, .int .i64 3, .int .i64 1, .int .i64 60, .int .i64 5, .int .i64 100, .int .i64 10, .int .i64 2, .int .i64 (a.t : Int),
   vk, .int .u8 (a.st : Int), .int .u32 (a.tag : Int), .int .u32 (a.tsn : Int),
   .int .u32 (a.peer.tag : Int), .int .u32 (a.peer.rwnd : Int), .int .u16 (a.peer.out : Int), .int .u16 (a.peer.in_ : Int), .int .u32 (a.peer.tsn : Int), vp,
   .int .u32 (a.go : Int), .int .u32 (a.gp : Int), vr, .int .i64 a.timer,
   .int .i64 (a.said.path : Int), .int .u32 (a.said.tag : Int), .int .u8 (a.said.c.k.toNat : Int), .int .u8 (a.said.c.f.toNat : Int), vs, .int .i64 (a.wait : Int), .int .i64 (a.often : Int)]
def outCell (o : OutD) (s : Value) : List Value := [.int .i64 (o.path : Int), .int .u32 (o.tag : Int), .int .u8 (o.c.k.toNat : Int), .int .u8 (o.c.f.toNat : Int), s]
def outCells : List OutD → List Value → List Value
  | o :: l, s :: ss => outCell o s ++ outCells l ss
  | _, _ => []
theorem outCells_length : ∀ (l : List OutD) (ss : List Value), l.length = ss.length → (outCells l ss).length = l.length * 5
  | [], [], _ => rfl
  | c :: cs, s :: ss, h => by
    have := outCells_length cs ss (by simpa using h)
    simp only [outCells, outCell, List.length_append, List.length_cons, List.length_nil, this]
    omega
theorem outCells_snoc : ∀ (l : List OutD) (ss : List Value) (o : OutD) (s : Value), l.length = ss.length → outCells (l ++ [o]) (ss ++ [s]) = outCells l ss ++ outCell o s
  | [], [], c, s, _ => by simp [outCells]
  | c0 :: cs, s0 :: ss, c, s, h => by
    simp only [List.cons_append, outCells]
    rw [outCells_snoc cs ss c s (by simpa using h), List.append_assoc]
theorem outCells_at : ∀ (l : List OutD) (ss : List Value) (i : Nat) (h : i < l.length) (h' : i < ss.length),
    (outCells l ss)[i * 5]? = some (.int .i64 (l[i].path : Int)) ∧ (outCells l ss)[i * 5 + 1]? = some (.int .u32 (l[i].tag : Int)) ∧ (outCells l ss)[i * 5 + 2]? = some (.int .u8 (l[i].c.k.toNat : Int)) ∧ (outCells l ss)[i * 5 + 3]? = some (.int .u8 (l[i].c.f.toNat : Int)) ∧ (outCells l ss)[i * 5 + 4]? = some ss[i]
  | c :: cs, s :: ss, 0, _, _ => by simp [outCells, outCell]
  | c :: cs, s :: ss, i + 1, h, h' => by
    have := outCells_at cs ss i (by simpa using h) (by simpa using h')
    have e : (i + 1) * 5 = (i * 5) + 5 := by omega
    have e1 : (i + 1) * 5 + 1 = (i * 5 + 1) + 5 := by omega
    have e2 : (i + 1) * 5 + 2 = (i * 5 + 2) + 5 := by omega
    have e3 : (i + 1) * 5 + 3 = (i * 5 + 3) + 5 := by omega
    have e4 : (i + 1) * 5 + 4 = (i * 5 + 4) + 5 := by omega
    simp only [e, e1, e2, e3, e4, outCells, outCell, List.cons_append, List.nil_append, List.getElem?_cons_succ, List.getElem_cons_succ]
    exact this
/-- A row of what is to be sent, of one's own. -/
def OutsAt (eO eB B : Nat) (w : World) (v : Value) (l : List OutD) : Prop :=
  ∃ ss : List Value, l.length = ss.length ∧ OwnK w B eO 5 v l.length (outCells l ss) ∧ ∀ i (_ : i < l.length) (_ : i < ss.length), Own w B eB ss[i] l[i].c.b
theorem OutsAt.nil (eO eB B : Nat) (w : World) : OutsAt eO eB B w (.slice none 0 0) [] := ⟨[], rfl, OwnK.nil _ _ _ _, fun i h _ => absurd h (by simp)⟩
theorem OutsAt.mono {eO eB B : Nat} {w w' : World} {v : Value} {l : List OutD} (h : OutsAt eO eB B w v l) (hb : Below w.heap.size w w') : OutsAt eO eB B w' v l := by
  obtain ⟨ss, h1, h2, h3⟩ := h
  exact ⟨ss, h1, h2.mono hb, fun i a b => (h3 i a b).mono hb⟩
theorem OwnK.chg {S : Nat → Prop} {w w' : World} {base e K n : Nat} {v : Value} {l : List Value} (h : OwnK w base e K v n l) (hb : Chg S w w') (hr : ∀ k, v.ownBlock = some k → ¬ S k) : OwnK w' base e K v n l := by
  obtain ⟨h0, ⟨rfl, rfl⟩ | ⟨g, m, sp, h1, rfl, h2, hg, hm⟩⟩ := h
  · exact ⟨h0, .inl ⟨rfl, rfl⟩⟩
  · refine ⟨h0, .inr ⟨g, m, sp, h1, rfl, h2, ?_, hm⟩⟩
    rw [hb.block g (Array.getElem?_eq_some_iff.1 hg).1 (hr g (by simp [Value.ownBlock])), hg]
/-- Blocks of S are none of bytes. -/
def NoBytes (eB : Nat) (S : Nat → Prop) (w : World) : Prop := ∀ k l, S k → ¬ RowV w k eB l
theorem Own.free {S : Nat → Prop} {w : World} {B eB : Nat} {v : Value} {l : List UInt8} (h : Own w B eB v l) (hS : NoBytes eB S w) : ∀ k, v.ownBlock = some k → ¬ S k := by
  intro k hk hs
  rcases h with ⟨rfl, rfl⟩ | ⟨g, sp, h1, rfl, hr, hm⟩
  · simp [Value.ownBlock] at hk
  · simp [Value.ownBlock] at hk
    subst hk
    exact hS g _ hs (RowV.of_row hr)
theorem OutsAt.chg {S : Nat → Prop} {eO eB B : Nat} {w w' : World} {v : Value} {l : List OutD} (h : OutsAt eO eB B w v l) (hb : Chg S w w') (hS : NoBytes eB S w) (hr : ∀ k, v.ownBlock = some k → ¬ S k) : OutsAt eO eB B w' v l := by
  obtain ⟨ss, h1, h2, h3⟩ := h
  exact ⟨ss, h1, h2.chg hb hr, fun i a b => (h3 i a b).chg hb ((h3 i a b).free hS)⟩
/-- The association lies in block g; vr: the slice of its row. -/
def AsAt (eA eO eB B : Nat) (w : World) (g : Nat) (vr : Value) (a : AsD) : Prop :=
  ∃ vk vp vs, RowV w g eA (a.cells vk vp vr vs) ∧ B ≤ g ∧ Own w B eB vk a.key ∧ Own w B eB vp a.peer.ck ∧ OutsAt eO eB B w vr a.row ∧ Own w B eB vs a.said.c.b
theorem AsAt.mono {eA eO eB B : Nat} {w w' : World} {g : Nat} {vr : Value} {a : AsD} (h : AsAt eA eO eB B w g vr a) (hb : Below w.heap.size w w') : AsAt eA eO eB B w' g vr a := by
  obtain ⟨vk, vp, vs, h1, h2, h3, h4, h5, h6⟩ := h
  exact ⟨vk, vp, vs, h1.mono hb, h2, h3.mono hb, h4.mono hb, h5.mono hb, h6.mono hb⟩
theorem AsAt.chg {S : Nat → Prop} {eA eO eB B : Nat} {w w' : World} {g : Nat} {vr : Value} {a : AsD} (h : AsAt eA eO eB B w g vr a) (hb : Chg S w w') (hS : NoBytes eB S w) (hg : ¬ S g) (hr : ∀ k, vr.ownBlock = some k → ¬ S k) : AsAt eA eO eB B w' g vr a := by
  obtain ⟨vk, vp, vs, h1, h2, h3, h4, h5, h6⟩ := h
  exact ⟨vk, vp, vs, h1.chg hb hg, h2, h3.chg hb (h3.free hS), h4.chg hb (h4.free hS), h5.chg hb hS hr, h6.chg hb (h6.free hS)⟩
/-- What a method on it may change: its block and the block of its row. -/
def Mine (g : Nat) (vr : Value) : Nat → Prop := fun k => k = g ∨ vr.ownBlock = some k
theorem rowV_ne {w : World} {g h e e' : Nat} {l l' : List Value} (a : RowV w g e l) (b : RowV w h e' l') (hne : e ≠ e') : g ≠ h := by
  rintro rfl
  exact hne (rowV_fun a b).1
theorem OwnK.rowV {w : World} {base e K n : Nat} {v : Value} {l : List Value} (h : OwnK w base e K v n l) : ∀ k, v.ownBlock = some k → ∃ l', RowV w k e l' := by
  obtain ⟨h0, ⟨rfl, rfl⟩ | ⟨g, m, sp, h1, rfl, h2, hg, hm⟩⟩ := h
  · intro k hk
    simp [Value.ownBlock] at hk
  · intro k hk
    simp [Value.ownBlock] at hk
    subst hk
    exact ⟨_, hg⟩
theorem AsAt.noBytes {eA eO eB B : Nat} {w : World} {g : Nat} {vr : Value} {a : AsD} (h : AsAt eA eO eB B w g vr a) (h1 : eA ≠ eB) (h2 : eO ≠ eB) : NoBytes eB (Mine g vr) w := by
  obtain ⟨vk, vp, vs, a1, -, -, -, ⟨ss, -, a5, -⟩, -⟩ := h
  rintro k l (rfl | hk) hl
  · exact h1 (rowV_fun a1 hl).1
  · obtain ⟨l', hl'⟩ := a5.rowV k hk
    exact h2 (rowV_fun hl' hl).1
/-- The row's slice behind a method: the same block, or one that is new. -/
def RowTo (w : World) (vr vr' : Value) : Prop := ∀ k, vr'.ownBlock = some k → vr.ownBlock = some k ∨ w.heap.size ≤ k
/-- A method went: the association is a' behind it. -/
def Did (eA eO eB B : Nat) (w : World) (g : Nat) (vr : Value) (a' : AsD) (w' : World) : Prop :=
  ∃ vr', AsAt eA eO eB B w' g vr' a' ∧ RowTo w vr vr' ∧ Chg (Mine g vr) w w'
theorem Did.refl {eA eO eB B : Nat} {w : World} {g : Nat} {vr : Value} {a : AsD} (h : AsAt eA eO eB B w g vr a) : Did eA eO eB B w g vr a w := ⟨vr, h, fun _ h => .inl h, Chg.refl _ _⟩
theorem Did.gr {eA eO eB B : Nat} {w w' : World} {g : Nat} {vr : Value} {a : AsD} (h : AsAt eA eO eB B w g vr a) (hb : Below w.heap.size w w') : Did eA eO eB B w g vr a w' := ⟨vr, h.mono hb, fun _ h => .inl h, Chg.of_gr hb⟩
theorem Did.trans {eA eO eB B : Nat} {w w1 w2 : World} {g : Nat} {vr vr1 : Value} {a2 : AsD} (hr : RowTo w vr vr1) (hc : Chg (Mine g vr) w w1) (k : Did eA eO eB B w1 g vr1 a2 w2) : Did eA eO eB B w g vr a2 w2 := by
  obtain ⟨vr2, k1, k2, k3⟩ := k
  refine ⟨vr2, k1, fun j hj => ?_, hc.then k3 (fun i hi hm => ?_)⟩
  · rcases k2 j hj with h | h
    · exact hr j h
    · exact .inr (Nat.le_trans hc.size h)
  · rcases hm with rfl | hm
    · exact .inl rfl
    · rcases hr i hm with h | h
      · exact .inr h
      · omega
/-- A row of one's own of n elements. -/
def OwK (B e K n : Nat) (l : List Value) : Value → World → Prop := fun v w => OwnK w B e K v n l
theorem OwK.gr (B e K n : Nat) (l : List Value) : Stab GrR (OwK B e K n l) := fun _ _ _ h k => OwnK.mono h k
theorem OwK.gb {B g : Nat} (e K n : Nat) (l : List Value) (hg : g < B) : Stab (GbR g) (OwK B e K n l) := fun _ _ _ h k => OwnK.grown h k (fun j hj => by have := OwnK.ge h j hj; intro e; simp at e; omega)
theorem own_new (w : World) (B e K : Nat) (l : List Value) (hB : B ≤ w.heap.size) (hK : l.length = K) : OwnK (w.alloc (.cells l.toArray e (0, 0))) B e K (.slice (some ⟨w.heap.size, 0, none⟩) 1 1) 1 l :=
  ⟨by rw [hK]; omega, .inr ⟨w.heap.size, 0, [], hB, rfl, by simp, by simpa using heap_alloc_new w _, by unfold maxLen; omega⟩⟩
theorem outCell_one (o : OutD) {w : World} {B e : Nat} {s : Value} {l : List UInt8} (h : Own w B e s l) : ∀ u ∈ outCell o s, u.oneCell' = true := fun u hu => by
  simp only [outCell, List.mem_cons, List.not_mem_nil, or_false] at hu
  rcases hu with rfl | rfl | rfl | rfl | rfl
  · rfl
  · rfl
  · rfl
  · rfl
  · obtain ⟨p, q, hh, -⟩ := h.rd
    rw [hh]
    rfl
theorem outsAt_mk {eO eB B : Nat} {w : World} {v s : Value} {l : List OutD} {ss : List Value} {o : OutD} (h1 : l.length = ss.length) (hn : OwnK w B eO 5 v (l.length + 1) (outCells l ss ++ outCell o s)) (h3 : ∀ i (_ : i < l.length) (_ : i < ss.length), Own w B eB ss[i] l[i].c.b)
    (hs : Own w B eB s o.c.b) : OutsAt eO eB B w v (l ++ [o]) := by
  refine ⟨ss ++ [s], by simp [h1], by rw [outCells_snoc _ _ _ _ h1, List.length_append]; exact hn, fun i a b => ?_⟩
  by_cases hi : i < l.length
  · have e1 : (ss ++ [s])[i] = ss[i]'(by omega) := List.getElem_append_left (by omega)
    have e2 : (l ++ [o])[i] = l[i] := List.getElem_append_left hi
    rw [e1, e2]
    exact h3 i hi (by omega)
  · have hi2 : i = l.length := by
      simp at a
      omega
    subst hi2
    have e1 : (ss ++ [s])[l.length] = s := by simp [h1]
    have e2 : (l ++ [o])[l.length] = o := by simp
    rw [e1, e2]
    exact hs
/-- A chunk by value over bytes of one's own. -/
def CkO (B e : Nat) (c : Chk) : Value → World → Prop := fun v w => ∃ p n k, v = .agg #[.int .u8 (c.k.toNat : Int), .int .u8 (c.f.toNat : Int), .slice p n k] ∧ Own w B e (.slice p n k) c.b
theorem CkO.gr (B e : Nat) (c : Chk) : Stab GrR (CkO B e c) := fun _ _ _ ⟨p, n, k, h1, h2⟩ g => ⟨p, n, k, h1, h2.mono g⟩
theorem ckO_mk {B e : Nat} {c : Chk} {w : World} {s : Value} (h : Own w B e s c.b) : CkO B e c (.agg #[.int .u8 (c.k.toNat : Int), .int .u8 (c.f.toNat : Int), s]) w := by
  obtain ⟨p, k, hh, -⟩ := id h.rd
  subst hh
  exact ⟨p, _, k, rfl, h⟩
end Go.FL

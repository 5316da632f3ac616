/- Two ends in memory, and what is on its way between them; what a turn does, told plainly. Conditions: none. No walk. -/
import Derived.Test.YtiimlanbbfhkjaaDoorAsNew
import Derived.Test.YtiimlanbbfhkjaaDoorAsFire
set_option linter.unusedSimpArgs false
set_option linter.unusedVariables false



namespace Go.FL

open Go.RowKit

structure TwoD where
  a : AsD
  b : AsD
  ea : EvD
  eb : EvD
  now : Nat
  pk : Nat
/-- The cells of two ends that drain by themselves, between which nothing is on its way. -/
def TwoD.cells (T : TwoD) (ga gb : Nat) : List Value :=
  [.pointer (some ⟨ga, 0, none⟩), .pointer (some ⟨gb, 0, none⟩), .slice none 0 0, .slice none 0 0,
   .bool T.ea.began, .bool T.ea.ended, .bool T.ea.clean, .int .u32 (T.ea.peer.tag : Int), .int .u32 (T.ea.peer.rwnd : Int), .int .u16 (T.ea.peer.out : Int), .int .u16 (T.ea.peer.in_ : Int), .int .u32 (T.ea.peer.tsn : Int), .slice .none 0 0, .int .u32 (T.ea.tsn : Int),
   .bool T.eb.began, .bool T.eb.ended, .bool T.eb.clean, .int .u32 (T.eb.peer.tag : Int), .int .u32 (T.eb.peer.rwnd : Int), .int .u16 (T.eb.peer.out : Int), .int .u16 (T.eb.peer.in_ : Int), .int .u32 (T.eb.peer.tsn : Int), .slice .none 0 0, .int .u32 (T.eb.tsn : Int),
   .int .i64 (T.now : Int), .int .i64 (T.pk : Int), .bool true]
/-- The blocks of two slices are not one. -/
def Sepv (u v : Value) : Prop := ∀ k, u.ownBlock = some k → ¬ v.ownBlock = some k
theorem Sepv.symm {u v : Value} (h : Sepv u v) : Sepv v u := fun k h1 h2 => h k h2 h1
theorem Sepv.nil_left (v : Value) : Sepv (.slice none 0 0) v := fun k h => by simp [Value.ownBlock] at h
theorem Sepv.nil_right (v : Value) : Sepv v (.slice none 0 0) := fun k _ h => by simp [Value.ownBlock] at h
theorem OutsAt.lt {eO eB B : Nat} {w : World} {v : Value} {l : List OutD} (h : OutsAt eO eB B w v l) : ∀ k, v.ownBlock = some k → k < w.heap.size := fun k hk => by
  obtain ⟨ss, -, h2, -⟩ := h
  obtain ⟨l', h3⟩ := h2.rowV k hk
  exact h3.lt
theorem OutsAt.ge {eO eB B : Nat} {w : World} {v : Value} {l : List OutD} (h : OutsAt eO eB B w v l) : ∀ k, v.ownBlock = some k → B ≤ k := fun k hk => by
  obtain ⟨ss, -, h2, -⟩ := h
  exact OwnK.ge h2 k hk
theorem OutsAt.ne {eO eB B e g : Nat} {w : World} {v : Value} {l : List OutD} {m : List Value} (h : OutsAt eO eB B w v l) (hg : RowV w g e m) (hne : e ≠ eO) : ∀ k, v.ownBlock = some k → ¬ k = g := fun k hk e1 => by
  subst e1
  obtain ⟨ss, -, h2, -⟩ := h
  obtain ⟨l', h3⟩ := h2.rowV k hk
  exact hne (rowV_fun hg h3).1
theorem AsAt.row {eA eO eB B : Nat} {w : World} {g : Nat} {vr : Value} {a : AsD} (h : AsAt eA eO eB B w g vr a) : ∃ m, RowV w g eA m := by
  obtain ⟨vk, vp, vs, r1, -⟩ := h
  exact ⟨_, r1⟩
theorem AsAt.outs {eA eO eB B : Nat} {w : World} {g : Nat} {vr : Value} {a : AsD} (h : AsAt eA eO eB B w g vr a) : OutsAt eO eB B w vr a.row := by
  obtain ⟨vk, vp, vs, -, -, -, -, r5, -⟩ := h
  exact r5
theorem AsAt.ge {eA eO eB B : Nat} {w : World} {g : Nat} {vr : Value} {a : AsD} (h : AsAt eA eO eB B w g vr a) : ∀ k, Mine g vr k → B ≤ k := by
  rintro k (rfl | hk)
  · obtain ⟨vk, vp, vs, -, r2, -⟩ := h
    exact r2
  · exact h.outs.ge k hk
/-- Two ends lie in memory, apart from one another, and from what is on its way: A to b, L to a. -/
structure MidAt (eA eO eB eT B : Nat) (w : World) (t ga gb : Nat) (vra vrb xa xb : Value) (T : TwoD) (A L : List OutD) : Prop where
  two : RowV w t eT (T.cells ga gb)
  tB : B ≤ t
  pa : AsAt eA eO eB B w ga vra T.a
  pb : AsAt eA eO eB B w gb vrb T.b
  ne : ga ≠ gb
  ab : Sepv vra vrb
  la : OutsAt eO eB B w xa A
  lb : OutsAt eO eB B w xb L
  xaa : Sepv xa vra
  xab : Sepv xa vrb
  xba : Sepv xb vra
  xbb : Sepv xb vrb
variable {eA eO eB eT B : Nat} {w w' : World} {t ga gb : Nat} {vra vrb xa xb : Value} {T : TwoD} {A L : List OutD}

theorem MidAt.mono (h : MidAt eA eO eB eT B w t ga gb vra vrb xa xb T A L) (hb : Below w.heap.size w w') : MidAt eA eO eB eT B w' t ga gb vra vrb xa xb T A L :=
  ⟨h.two.mono hb, h.tB, h.pa.mono hb, h.pb.mono hb, h.ne, h.ab, h.la.mono hb, h.lb.mono hb, h.xaa, h.xab, h.xba, h.xbb⟩
/-- The ends change places. -/
theorem sepTo {u v v' : Value} (hlt : ∀ k, u.ownBlock = some k → k < w.heap.size) (h : Sepv u v) (hr : RowTo w v v') : Sepv u v' := fun k h1 h2 => by
  rcases hr k h2 with h3 | h3
  · exact h k h1 h3
  · have := hlt k h1
    omega
theorem MidAt.didB (h : MidAt eA eO eB eT B w t ga gb vra vrb xa xb T A L) (h1 : eT ≠ eA) (h2 : eT ≠ eO) (h3 : eA ≠ eO) (h4 : eA ≠ eB) (h5 : eO ≠ eB) {b' : AsD} (hd : Did eA eO eB B w gb vrb b' w') :
    ∃ vrb', MidAt eA eO eB eT B w' t ga gb vra vrb' xa xb { T with b := b' } A L ∧ Chg (Mine gb vrb) w w' := by
  obtain ⟨vr', k1, k2, k3⟩ := hd
  obtain ⟨ma, hra⟩ := h.pa.row
  obtain ⟨mb, hrb⟩ := h.pb.row
  have hN := h.pb.noBytes h4 h5
  refine ⟨vr', ⟨h.two.chg k3 (mine_not h.pb h.two h1 h2), h.tB, h.pa.chg k3 hN ?_ ?_, k1, h.ne, sepTo h.pa.outs.lt h.ab k2, h.la.chg k3 hN ?_, h.lb.chg k3 hN ?_, h.xaa, sepTo h.la.lt h.xab k2, h.xba, sepTo h.lb.lt h.xbb k2⟩, k3⟩
  · rintro (e | e)
    · exact h.ne e
    · exact h.pb.outs.ne hra h3 _ e rfl
  · rintro k hk (e | e)
    · exact h.pa.outs.ne hrb h3 _ hk e
    · exact h.ab k hk e
  · rintro k hk (e | e)
    · exact h.la.ne hrb h3 _ hk e
    · exact h.xab k hk e
  · rintro k hk (e | e)
    · exact h.lb.ne hrb h3 _ hk e
    · exact h.xbb k hk e
theorem MidAt.didA (h : MidAt eA eO eB eT B w t ga gb vra vrb xa xb T A L) (h1 : eT ≠ eA) (h2 : eT ≠ eO) (h3 : eA ≠ eO) (h4 : eA ≠ eB) (h5 : eO ≠ eB) {a' : AsD} (hd : Did eA eO eB B w ga vra a' w') :
    ∃ vra', MidAt eA eO eB eT B w' t ga gb vra' vrb xa xb { T with a := a' } A L ∧ Chg (Mine ga vra) w w' := by
  obtain ⟨vr', k1, k2, k3⟩ := hd
  obtain ⟨ma, hra⟩ := h.pa.row
  obtain ⟨mb, hrb⟩ := h.pb.row
  have hN := h.pa.noBytes h4 h5
  refine ⟨vr', ⟨h.two.chg k3 (mine_not h.pa h.two h1 h2), h.tB, k1, h.pb.chg k3 hN ?_ ?_, h.ne, (sepTo h.pb.outs.lt h.ab.symm k2).symm, h.la.chg k3 hN ?_, h.lb.chg k3 hN ?_, sepTo h.la.lt h.xaa k2, h.xab, sepTo h.lb.lt h.xba k2, h.xbb⟩, k3⟩
  · rintro (e | e)
    · exact h.ne e.symm
    · exact h.pa.outs.ne hrb h3 _ e rfl
  · rintro k hk (e | e)
    · exact h.pb.outs.ne hra h3 _ hk e
    · exact h.ab k e hk
  · rintro k hk (e | e)
    · exact h.la.ne hra h3 _ hk e
    · exact h.xaa k hk e
  · rintro k hk (e | e)
    · exact h.lb.ne hra h3 _ hk e
    · exact h.xba k hk e
/-- Of the two ends' own block something is laid. -/
theorem MidAt.set (h : MidAt eA eO eB eT B w t ga gb vra vrb xa xb T A L) (h1 : eT ≠ eA) (h2 : eT ≠ eO) (h3 : eT ≠ eB) {T' : TwoD} (hc : Chg (fun k => k = t) w w') (hr : RowV w' t eT (T'.cells ga gb)) (ha : T'.a = T.a) (hb : T'.b = T.b) :
    MidAt eA eO eB eT B w' t ga gb vra vrb xa xb T' A L := by
  have hN : NoBytes eB (fun k => k = t) w := fun k l hk hl => by
    subst hk
    exact h3 (rowV_fun h.two hl).1
  obtain ⟨ma, hra⟩ := h.pa.row
  obtain ⟨mb, hrb⟩ := h.pb.row
  have ka := h.pa.chg hc hN (fun e => h1 (rowV_fun h.two (e ▸ hra)).1) (h.pa.outs.ne h.two h2)
  have kb := h.pb.chg hc hN (fun e => h1 (rowV_fun h.two (e ▸ hrb)).1) (h.pb.outs.ne h.two h2)
  exact ⟨hr, h.tB, by rw [ha]; exact ka, by rw [hb]; exact kb, h.ne, h.ab, h.la.chg hc hN (h.la.ne h.two h2), h.lb.chg hc hN (h.lb.ne h.two h2), h.xaa, h.xab, h.xba, h.xbb⟩
/-- What is on its way comes from a's row: Out. -/
theorem MidAt.outA (h : MidAt eA eO eB eT B w t ga gb vra vrb xa xb T A L) (h1 : eT ≠ eA) (h2 : eT ≠ eO) (h3 : eA ≠ eO) (h4 : eA ≠ eB) (k1 : AsAt eA eO eB B w' ga (.slice none 0 0) { T.a with row := [] }) (k3 : Chg (fun k => k = ga) w w') :
    MidAt eA eO eB eT B w' t ga gb (.slice none 0 0) vrb xa xb { T with a := { T.a with row := [] } } A L := by
  obtain ⟨ma, hra⟩ := h.pa.row
  obtain ⟨mb, hrb⟩ := h.pb.row
  have hN : NoBytes eB (fun k => k = ga) w := fun k l hk hl => by
    subst hk
    exact h4 (rowV_fun hra hl).1
  refine ⟨h.two.chg k3 (fun e => h1 (rowV_fun h.two (e ▸ hra)).1), h.tB, k1, h.pb.chg k3 hN (fun e => h.ne e.symm) (h.pb.outs.ne hra h3), h.ne, .nil_left _, h.la.chg k3 hN (h.la.ne hra h3), h.lb.chg k3 hN (h.lb.ne hra h3), .nil_right _, h.xab, .nil_right _, h.xbb⟩
theorem MidAt.outB (h : MidAt eA eO eB eT B w t ga gb vra vrb xa xb T A L) (h1 : eT ≠ eA) (h2 : eT ≠ eO) (h3 : eA ≠ eO) (h4 : eA ≠ eB) (k1 : AsAt eA eO eB B w' gb (.slice none 0 0) { T.b with row := [] }) (k3 : Chg (fun k => k = gb) w w') :
    MidAt eA eO eB eT B w' t ga gb vra (.slice none 0 0) xa xb { T with b := { T.b with row := [] } } A L := by
  obtain ⟨ma, hra⟩ := h.pa.row
  obtain ⟨mb, hrb⟩ := h.pb.row
  have hN : NoBytes eB (fun k => k = gb) w := fun k l hk hl => by
    subst hk
    exact h4 (rowV_fun hrb hl).1
  refine ⟨h.two.chg k3 (fun e => h1 (rowV_fun h.two (e ▸ hrb)).1), h.tB, h.pa.chg k3 hN (fun e => h.ne e) (h.pa.outs.ne hrb h3), k1, h.ne, .nil_right _, h.la.chg k3 hN (h.la.ne hrb h3), h.lb.chg k3 hN (h.lb.ne hrb h3), h.xaa, .nil_right _, h.xba, .nil_right _⟩

/-- Nothing is looked at any more that was on its way. -/
theorem MidAt.done (h : MidAt eA eO eB eT B w t ga gb vra vrb xa xb T A L) : MidAt eA eO eB eT B w t ga gb vra vrb (.slice none 0 0) (.slice none 0 0) T [] [] :=
  ⟨h.two, h.tB, h.pa, h.pb, h.ne, h.ab, OutsAt.nil _ _ _ _, OutsAt.nil _ _ _ _, .nil_left _, .nil_left _, .nil_left _, .nil_left _⟩
/-- Whether the packet with this number is lost. -/
def lostB (lost n : Nat) : Bool := decide (n ≤ 64) && decide (lost / 2 ^ (n - 1) % 2 = 1)
/-- What holds of an end of which something is asked. -/
def okA (a : AsD) : Bool := decide (a.key.length ≤ 64 ∧ a.row.length ≤ 1000000 ∧ a.peer.tag < 4294967296 ∧ a.gp < 4294967296 ∧ a.st < 256)
/-- Behind a chunk, and what came of it; none: this is not told here. -/
def chunkD (a : AsD) (now : Int) (path : Nat) (c : Chk) : Option (AsD × EvD) :=
  if okA a = true ∧ c.b.length ≤ 1000000 then
    if c.k = 1 then (if a.st = 1 ∧ (initGet c).2 = 0 then some (onInitD a now path c, .none) else none)
    else if c.k = 2 then some (onInitAckD a now c, .none)
    else if c.k = 10 then (if a.st = 1 ∧ (cookTells a.key c.b).1 = 0 ∧ freshB (cookTells a.key c.b).2.born now 100 = true then
      some (onEchoD a path (cookTells a.key c.b).2, ⟨true, false, false, (onEchoD a path (cookTells a.key c.b).2).peer, (cookTells a.key c.b).2.otsn⟩) else none)
    else if c.k = 11 then some (if a.st = 3 then ({ a with st := 4, timer := -1 }, ⟨true, false, false, { a.peer with ck := [] }, a.tsn⟩) else (a, .none))
    else if c.k = 7 then some (onShutdownD a now path c, .none)
    else if c.k = 8 then some (onShutAckD a path)
    else if c.k = 14 then some (if a.st = 8 then (endsD a, ⟨false, true, true, .zero, 0⟩) else (a, .none))
    else none
  else none
/-- Behind a packet on its way. -/
def stepD (lost : Nat) (now : Int) (x : AsD × EvD × Nat) (o : OutD) : Option (AsD × EvD × Nat) :=
  if lostB lost (x.2.2 + 1) = true then some (x.1, x.2.1, x.2.2 + 1)
  else if ¬ x.1.st < 256 then none
  else if takesB x.1 o.tag [o.c] = true then (chunkD x.1 now o.path o.c).map fun r => (r.1, noteE x.2.1 r.2, x.2.2 + 1)
  else some (x.1, x.2.1, x.2.2 + 1)
def stepsD (lost : Nat) (now : Int) : AsD × EvD × Nat → List OutD → Option (AsD × EvD × Nat)
  | x, [] => some x
  | x, o :: l => (stepD lost now x o).bind fun y => stepsD lost now y l
/-- Behind Tick. -/
def tickD (a : AsD) (now : Int) : Option (AsD × EvD) :=
  if a.timer = -1 ∨ now < a.timer then some (a, .none)
  else if a.said.path < 1000000 ∧ a.wait < 1000000 ∧ a.often < 1000000 ∧ a.t < 1000000 ∧ 1 ≤ a.p ∧ a.p < 1000000 ∧ a.row.length ≤ 1000000 ∧ a.peer.tag < 4294967296 then some (fireD a now) else none
/-- Behind a turn. -/
def turnD (lost : Nat) (T : TwoD) : Option TwoD :=
  if T.now < 1000000 ∧ T.pk < 1000000 ∧ T.a.row.length ≤ 1000000 ∧ T.b.row.length ≤ 1000000 then
    (stepsD lost (T.now + 1 : Nat) ({ T.b with row := [] }, T.eb, T.pk) T.a.row).bind fun x =>
    (stepsD lost (T.now + 1 : Nat) ({ T.a with row := [] }, T.ea, x.2.2) T.b.row).bind fun y =>
    (tickD y.1 (T.now + 1 : Nat)).bind fun p =>
    (tickD x.1 (T.now + 1 : Nat)).bind fun q =>
    if p.1.row.length ≤ 1000000 ∧ q.1.row.length ≤ 1000000 ∧ y.2.2 < 2000000 then
      some ⟨drainD p.1 (T.now + 1 : Nat) 7, drainD q.1 (T.now + 1 : Nat) 8, noteE y.2.1 p.2, noteE x.2.1 q.2, T.now + 1, y.2.2⟩
    else none
  else none
def runsD (lost : Nat) : Nat → TwoD → Option TwoD
  | 0, T => some T
  | n + 1, T => (turnD lost T).bind (runsD lost n)
end Go.FL

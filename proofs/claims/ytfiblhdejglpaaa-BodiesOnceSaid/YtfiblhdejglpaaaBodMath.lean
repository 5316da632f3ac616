/- What chunks say: numbers at places of a body, bodies of each kind. Conditions: none. No program in sight. -/
import Derived.Test.YtfiblhdejglpaaaChunkMath
namespace Go.FL

/-- Data. -/
structure DataD where
  tsn : Nat
  st : Nat
  ssn : Nat
  un : Bool
  fi : Bool
  la : Bool
  b : List UInt8
def DataD.wf (d : DataD) : Prop := d.tsn < 4294967296 ∧ d.st < 65536 ∧ d.ssn < 65536
def bitIf (x : UInt8) (c : Bool) : UInt8 := if c then x else 0
def dataFlags (un fi la : Bool) : UInt8 := bitIf 4 un ||| bitIf 2 fi ||| bitIf 1 la
def DataD.body (d : DataD) : List UInt8 := beBytes 4 d.tsn ++ (beBytes 2 d.st ++ (beBytes 2 d.ssn ++ (beBytes 4 0 ++ d.b)))
def DataD.chk (d : DataD) : Chk := ⟨0, dataFlags d.un d.fi d.la, d.body⟩
def dataOf (c : Chk) : DataD := ⟨numAt c.b 0 4, numAt c.b 4 2, numAt c.b 6 2, c.f &&& 4 != 0, c.f &&& 2 != 0, c.f &&& 1 != 0, c.b.drop 12⟩
def DataD.zero : DataD := ⟨0, 0, 0, false, false, false, []⟩
theorem DataD.ext' {a b : DataD} (h1 : a.tsn = b.tsn) (h2 : a.st = b.st) (h3 : a.ssn = b.ssn) (h4 : a.un = b.un) (h5 : a.fi = b.fi) (h6 : a.la = b.la) (h7 : a.b = b.b) : a = b := by
  cases a; cases b; simp_all
theorem DataD.body_length (d : DataD) : d.body.length = 12 + d.b.length := by simp [DataD.body, beBytes_length]; omega
theorem dataFlags_at (un fi la : Bool) : (dataFlags un fi la &&& 4 != 0) = un ∧ (dataFlags un fi la &&& 2 != 0) = fi ∧ (dataFlags un fi la &&& 1 != 0) = la ∧ dataFlags un fi la < 8 := by
  cases un <;> cases fi <;> cases la <;> decide
theorem dataFlags_of : ∀ f : UInt8, f < 8 → dataFlags (f &&& 4 != 0) (f &&& 2 != 0) (f &&& 1 != 0) = f := by
  intro f hf
  have h : ∀ n : Nat, n < 8 → dataFlags (UInt8.ofNat n &&& 4 != 0) (UInt8.ofNat n &&& 2 != 0) (UInt8.ofNat n &&& 1 != 0) = UInt8.ofNat n := by decide
  have h1 := h f.toNat (UInt8.lt_iff_toNat_lt.1 hf)
  rwa [UInt8.ofNat_toNat] at h1
def dataOk (c : Chk) : Prop := 12 < c.b.length ∧ (dataOf c).chk = c
theorem data_back (d : DataD) (h : d.wf) : dataOf d.chk = d := by
  obtain ⟨h1, h2, h3⟩ := h
  have hf := dataFlags_at d.un d.fi d.la
  have e4 : (beBytes 4 d.tsn).length = 4 := beBytes_length _ _
  apply DataD.ext'
  · exact numAt_be [] (beBytes 2 d.st ++ (beBytes 2 d.ssn ++ (beBytes 4 0 ++ d.b))) 0 4 _ rfl h1
  · exact numAt_be (beBytes 4 d.tsn) (beBytes 2 d.ssn ++ (beBytes 4 0 ++ d.b)) 4 2 _ e4 h2
  · show numAt d.body 6 2 = d.ssn
    rw [DataD.body, ← List.append_assoc]
    exact numAt_be _ _ 6 2 _ (by simp [beBytes_length]) h3
  · exact hf.1
  · exact hf.2.1
  · exact hf.2.2.1
  · show d.body.drop 12 = d.b
    rw [DataD.body, ← List.append_assoc, ← List.append_assoc, ← List.append_assoc]
    exact List.drop_left' (by simp [beBytes_length])
theorem data_ok (d : DataD) (h : d.wf) : dataOk d.chk ↔ 0 < d.b.length := by
  unfold dataOk
  rw [data_back d h]
  show 12 < d.body.length ∧ d.chk = d.chk ↔ _
  rw [d.body_length]
  simp

/-- Beginnings. -/
structure InitD where
  tag : Nat
  rwnd : Nat
  out : Nat
  in_ : Nat
  tsn : Nat
  ck : List UInt8
def InitD.zero : InitD := ⟨0, 0, 0, 0, 0, []⟩
theorem InitD.ext' {a b : InitD} (h1 : a.tag = b.tag) (h2 : a.rwnd = b.rwnd) (h3 : a.out = b.out) (h4 : a.in_ = b.in_) (h5 : a.tsn = b.tsn) (h6 : a.ck = b.ck) : a = b := by
  cases a; cases b; simp_all
def InitD.wf (i : InitD) : Prop := i.tag < 4294967296 ∧ i.rwnd < 4294967296 ∧ i.out < 65536 ∧ i.in_ < 65536 ∧ i.tsn < 4294967296
def InitD.head (i : InitD) : List UInt8 := beBytes 4 i.tag ++ (beBytes 4 i.rwnd ++ (beBytes 2 i.out ++ (beBytes 2 i.in_ ++ beBytes 4 i.tsn)))
theorem InitD.head_length (i : InitD) : i.head.length = 16 := by simp [InitD.head, beBytes_length]
def InitD.more (i : InitD) : List UInt8 := i.head ++ (beBytes 2 7 ++ (beBytes 2 (4 + i.ck.length) ++ i.ck))
theorem InitD.more_length (i : InitD) : i.more.length = 20 + i.ck.length := by simp [InitD.more, beBytes_length, InitD.head_length]; omega
def InitD.body (kind : UInt8) (i : InitD) : List UInt8 := if kind = 2 then padded i.more else i.head
def InitD.chk (kind : UInt8) (i : InitD) : Chk := ⟨kind, 0, i.body kind⟩
theorem InitD.body_ge (kind : UInt8) (i : InitD) : 16 ≤ (i.body kind).length := by
  unfold InitD.body
  split
  · rw [padded_length, i.more_length]
    have := roundN_le (20 + i.ck.length)
    omega
  · rw [i.head_length]
    exact Nat.le_refl _
def cutAt (l : List UInt8) (a : Nat) (n : Int) : List UInt8 := if 0 ≤ n ∧ (a : Int) + n ≤ l.length then (l.drop a).take n.toNat else []
def initCk (l : List UInt8) : List UInt8 := cutAt l 20 ((numAt l 18 2 : Int) - 4)
def initOf (c : Chk) : InitD := ⟨numAt c.b 0 4, numAt c.b 4 4, numAt c.b 8 2, numAt c.b 10 2, numAt c.b 12 4, if c.k = 2 then initCk c.b else []⟩
def InitD.may (i : InitD) : Prop := i.tag ≠ 0 ∧ i.out ≠ 0 ∧ i.in_ ≠ 0
def initOk (c : Chk) : Prop := (c.k = 1 ∨ (c.k = 2 ∧ 0 < (initOf c).ck.length)) ∧ (initOf c).may ∧ (initOf c).chk c.k = c
theorem init_head (i : InitD) (h : i.wf) (m : List UInt8) : numAt (i.head ++ m) 0 4 = i.tag ∧ numAt (i.head ++ m) 4 4 = i.rwnd ∧ numAt (i.head ++ m) 8 2 = i.out ∧ numAt (i.head ++ m) 10 2 = i.in_ ∧ numAt (i.head ++ m) 12 4 = i.tsn := by
  obtain ⟨h1, h2, h3, h4, h5⟩ := h
  have e : i.head ++ m = beBytes 4 i.tag ++ (beBytes 4 i.rwnd ++ (beBytes 2 i.out ++ (beBytes 2 i.in_ ++ (beBytes 4 i.tsn ++ m)))) := by simp [InitD.head]
  rw [e]
  refine ⟨numAt_be [] _ 0 4 _ rfl h1, numAt_be _ _ 4 4 _ (beBytes_length _ _) h2, ?_, ?_, ?_⟩
  · rw [← List.append_assoc]
    exact numAt_be _ _ 8 2 _ (by simp [beBytes_length]) h3
  · rw [← List.append_assoc, ← List.append_assoc]
    exact numAt_be _ _ 10 2 _ (by simp [beBytes_length]) h4
  · rw [← List.append_assoc, ← List.append_assoc, ← List.append_assoc]
    exact numAt_be _ _ 12 4 _ (by simp [beBytes_length]) h5
theorem initCk_more (i : InitD) (m : List UInt8) (h : i.ck.length ≤ 65531) : initCk (i.more ++ m) = i.ck := by
  have e : i.more ++ m = (i.head ++ beBytes 2 7) ++ (beBytes 2 (4 + i.ck.length) ++ (i.ck ++ m)) := by simp [InitD.more]
  have hl : (i.head ++ beBytes 2 7).length = 18 := by simp [InitD.head_length, beBytes_length]
  have hn : numAt (i.more ++ m) 18 2 = 4 + i.ck.length := by
    rw [e]
    exact numAt_be _ _ 18 2 _ hl (by omega)
  rw [initCk, hn, show ((4 + i.ck.length : Nat) : Int) - 4 = (i.ck.length : Int) by omega, cutAt, if_pos (by simp [i.more_length]; omega), Int.toNat_natCast, e, ← List.append_assoc]
  exact mid_of _ i.ck m 20 _ (by simp [InitD.head_length, beBytes_length]) rfl
theorem init_back (kind : UInt8) (i : InitD) (h : i.wf) (hc : i.ck.length ≤ 65531) (hk : kind ≠ 2 → i.ck = []) : initOf (i.chk kind) = i := by
  by_cases h2 : kind = 2
  · subst h2
    have e : (i.chk 2).b = i.more ++ List.replicate (roundN i.more.length - i.more.length) 0 := rfl
    have e2 : (i.chk 2).b = i.head ++ ((beBytes 2 7 ++ (beBytes 2 (4 + i.ck.length) ++ i.ck)) ++ List.replicate (roundN i.more.length - i.more.length) 0) := by
      rw [e, InitD.more, List.append_assoc]
    have hh := init_head i h ((beBytes 2 7 ++ (beBytes 2 (4 + i.ck.length) ++ i.ck)) ++ List.replicate (roundN i.more.length - i.more.length) 0)
    rw [← e2] at hh
    apply InitD.ext'
    · exact hh.1
    · exact hh.2.1
    · exact hh.2.2.1
    · exact hh.2.2.2.1
    · exact hh.2.2.2.2
    · show (if (i.chk 2).k = 2 then initCk (i.chk 2).b else []) = i.ck
      rw [if_pos (show (InitD.chk 2 i).k = 2 from rfl), e]
      exact initCk_more i _ hc
  · have e : (i.chk kind).b = i.head ++ [] := by
      show i.body kind = _
      rw [InitD.body, if_neg h2, List.append_nil]
    have hh := init_head i h []
    rw [← e] at hh
    apply InitD.ext'
    · exact hh.1
    · exact hh.2.1
    · exact hh.2.2.1
    · exact hh.2.2.2.1
    · exact hh.2.2.2.2
    · show (if (i.chk kind).k = 2 then initCk (i.chk kind).b else []) = i.ck
      rw [if_neg (show ¬ (i.chk kind).k = 2 from h2), hk h2]

/-- Acknowledgements. -/
structure SackD where
  cum : Nat
  rwnd : Nat
  gaps : List (Nat × Nat)
  dups : List Nat
def SackD.zero : SackD := ⟨0, 0, [], []⟩
def gapBytes (g : Nat × Nat) : List UInt8 := beBytes 2 g.1 ++ beBytes 2 g.2
def gapsBytes (l : List (Nat × Nat)) : List UInt8 := (l.map gapBytes).flatten
theorem gapsBytes_cons (g : Nat × Nat) (l : List (Nat × Nat)) : gapsBytes (g :: l) = gapBytes g ++ gapsBytes l := rfl
theorem gapsBytes_append (l m : List (Nat × Nat)) : gapsBytes (l ++ m) = gapsBytes l ++ gapsBytes m := by simp [gapsBytes]
theorem gapBytes_length (g : Nat × Nat) : (gapBytes g).length = 4 := by simp [gapBytes, beBytes_length]
theorem gapsBytes_length : ∀ l : List (Nat × Nat), (gapsBytes l).length = 4 * l.length
  | [] => rfl
  | g :: l => by rw [gapsBytes_cons, List.length_append, gapBytes_length, gapsBytes_length l, List.length_cons]; omega
def SackD.head (s : SackD) : List UInt8 := beBytes 4 s.cum ++ (beBytes 4 s.rwnd ++ (beBytes 2 s.gaps.length ++ beBytes 2 s.dups.length))
theorem SackD.head_length (s : SackD) : s.head.length = 12 := by simp [SackD.head, beBytes_length]
def SackD.body (s : SackD) : List UInt8 := s.head ++ (gapsBytes s.gaps ++ catBE 4 s.dups)
theorem SackD.body_length (s : SackD) : s.body.length = 12 + 4 * s.gaps.length + 4 * s.dups.length := by
  simp [SackD.body, SackD.head_length, gapsBytes_length, catBE_length]
  omega
def SackD.chk (s : SackD) : Chk := ⟨3, 0, s.body⟩
/-- Forward. -/
structure FwdD where
  cum : Nat
  skips : List (Nat × Nat)
def FwdD.zero : FwdD := ⟨0, []⟩
def FwdD.body (f : FwdD) : List UInt8 := beBytes 4 f.cum ++ gapsBytes f.skips
theorem FwdD.body_length (f : FwdD) : f.body.length = 4 + 4 * f.skips.length := by simp [FwdD.body, beBytes_length, gapsBytes_length]
def FwdD.chk (f : FwdD) : Chk := ⟨192, 0, f.body⟩
/-- Pairs at a place. -/
def pairAt (l : List UInt8) (a : Nat) : Nat × Nat := (numAt l a 2, numAt l (a + 2) 2)
def pairsAt (l : List UInt8) (a n : Nat) : List (Nat × Nat) := (List.range n).map fun i => pairAt l (a + 4 * i)
def numsAt (l : List UInt8) (a n : Nat) : List Nat := (List.range n).map fun i => numAt l (a + 4 * i) 4
theorem pairsAt_length (l : List UInt8) (a n : Nat) : (pairsAt l a n).length = n := by simp [pairsAt]
theorem numsAt_length (l : List UInt8) (a n : Nat) : (numsAt l a n).length = n := by simp [numsAt]
theorem pairsAt_succ (l : List UInt8) (a n : Nat) : pairsAt l a (n + 1) = pairsAt l a n ++ [pairAt l (a + 4 * n)] := by simp [pairsAt, List.range_succ]
theorem numsAt_succ (l : List UInt8) (a n : Nat) : numsAt l a (n + 1) = numsAt l a n ++ [numAt l (a + 4 * n) 4] := by simp [numsAt, List.range_succ]
def pairsWf (l : List (Nat × Nat)) : Prop := ∀ g ∈ l, g.1 < 65536 ∧ g.2 < 65536
def numsWf (l : List Nat) : Prop := ∀ x ∈ l, x < 4294967296
theorem pairsAt_of : ∀ (g : List (Nat × Nat)) (p s : List UInt8) (a : Nat), p.length = a → pairsWf g → pairsAt (p ++ (gapsBytes g ++ s)) a g.length = g := by
  intro g
  induction g with
  | nil => intro p s a _ _; rfl
  | cons x g ih =>
    intro p s a hp hw
    obtain ⟨h1, h2⟩ := hw x (by simp)
    have ih' := ih (p ++ gapBytes x) s (a + 4) (by simp [gapBytes_length, hp]) (fun y hy => hw y (by simp [hy]))
    have e : p ++ (gapsBytes (x :: g) ++ s) = p ++ gapBytes x ++ (gapsBytes g ++ s) := by rw [gapsBytes_cons]; simp
    rw [e]
    have e0 : pairAt (p ++ gapBytes x ++ (gapsBytes g ++ s)) a = x := by
      have e1 : p ++ gapBytes x ++ (gapsBytes g ++ s) = p ++ (beBytes 2 x.1 ++ (beBytes 2 x.2 ++ (gapsBytes g ++ s))) := by simp [gapBytes]
      have e2 : p ++ gapBytes x ++ (gapsBytes g ++ s) = (p ++ beBytes 2 x.1) ++ (beBytes 2 x.2 ++ (gapsBytes g ++ s)) := by simp [gapBytes]
      apply Prod.ext
      · show numAt _ a 2 = x.1
        rw [e1]
        exact numAt_be p _ a 2 _ hp h1
      · show numAt _ (a + 2) 2 = x.2
        rw [e2]
        exact numAt_be _ _ (a + 2) 2 _ (by simp [beBytes_length, hp]) h2
    rw [pairsAt, List.length_cons, List.range_succ_eq_map, List.map_cons, List.map_map]
    rw [Nat.mul_zero, Nat.add_zero, e0]
    congr 1
    refine Eq.trans ?_ ih'
    rw [pairsAt]
    apply List.map_congr_left
    intro i _
    show pairAt _ (a + 4 * (i + 1)) = _
    rw [show a + 4 * (i + 1) = a + 4 + 4 * i by omega]
theorem numsAt_of : ∀ (g : List Nat) (p s : List UInt8) (a : Nat), p.length = a → numsWf g → numsAt (p ++ (catBE 4 g ++ s)) a g.length = g := by
  intro g
  induction g with
  | nil => intro p s a _ _; rfl
  | cons x g ih =>
    intro p s a hp hw
    have h1 := hw x (by simp)
    have ih' := ih (p ++ beBytes 4 x) s (a + 4) (by simp [beBytes_length, hp]) (fun y hy => hw y (by simp [hy]))
    have e : p ++ (catBE 4 (x :: g) ++ s) = p ++ beBytes 4 x ++ (catBE 4 g ++ s) := by rw [catBE_cons]; simp
    rw [e]
    have e0 : numAt (p ++ beBytes 4 x ++ (catBE 4 g ++ s)) a 4 = x := by
      rw [List.append_assoc]
      exact numAt_be p _ a 4 _ hp h1
    rw [numsAt, List.length_cons, List.range_succ_eq_map, List.map_cons, List.map_map]
    rw [Nat.mul_zero, Nat.add_zero, e0]
    congr 1
    refine Eq.trans ?_ ih'
    rw [numsAt]
    apply List.map_congr_left
    intro i _
    show numAt _ (a + 4 * (i + 1)) 4 = _
    rw [show a + 4 * (i + 1) = a + 4 + 4 * i by omega]
end Go.FL

/- Cookies as bytes. Conditions: none. No program in sight. -/
import Derived.Test.YtjpemfciiakphaaDoorNumMath
import Derived.Test.YtjpemfciiakphaaDoorMacMath
namespace Go.FL

/-- A cookie. -/
structure CookD where
  born : Int
  ot : Nat
  pt : Nat
  otsn : Nat
  ptsn : Nat
  rw : Nat
  out : Nat
  in_ : Nat
def CookD.zero : CookD := ⟨0, 0, 0, 0, 0, 0, 0, 0⟩
theorem CookD.ext' {a b : CookD} (h0 : a.born = b.born) (h1 : a.ot = b.ot) (h2 : a.pt = b.pt) (h3 : a.otsn = b.otsn) (h4 : a.ptsn = b.ptsn) (h5 : a.rw = b.rw) (h6 : a.out = b.out) (h7 : a.in_ = b.in_) : a = b := by
  cases a; cases b; simp_all
def CookD.wf (c : CookD) : Prop := (-9223372036854775808 ≤ c.born ∧ c.born < 9223372036854775808) ∧ c.ot < 4294967296 ∧ c.pt < 4294967296 ∧ c.otsn < 4294967296 ∧ c.ptsn < 4294967296 ∧ c.rw < 4294967296 ∧ c.out < 65536 ∧ c.in_ < 65536
def bornN (b : Int) : Nat := (b % 18446744073709551616).toNat
def bornI (n : Nat) : Int := if n < 9223372036854775808 then (n : Int) else (n : Int) - 18446744073709551616
theorem bornN_lt (b : Int) : bornN b < 18446744073709551616 := by unfold bornN; omega
theorem bornI_N (b : Int) (h : -9223372036854775808 ≤ b ∧ b < 9223372036854775808) : bornI (bornN b) = b := by
  unfold bornI bornN
  split <;> omega
theorem bornI_bounds (n : Nat) (h : n < 18446744073709551616) : -9223372036854775808 ≤ bornI n ∧ bornI n < 9223372036854775808 := by
  unfold bornI
  split <;> omega
def CookD.body (c : CookD) : List UInt8 := beBytes 8 (bornN c.born) ++ (beBytes 4 c.ot ++ (beBytes 4 c.pt ++ (beBytes 4 c.otsn ++ (beBytes 4 c.ptsn ++ (beBytes 4 c.rw ++ (beBytes 2 c.out ++ beBytes 2 c.in_))))))
theorem CookD.body_length (c : CookD) : c.body.length = 32 := by simp [CookD.body, beBytes_length]
def cookBytes (key : List UInt8) (c : CookD) : List UInt8 := c.body ++ macSum key c.body
theorem cookBytes_length (key : List UInt8) (c : CookD) : (cookBytes key c).length = 64 := by simp [cookBytes, CookD.body_length, macSum_length]
def cookOf (l : List UInt8) : CookD := ⟨bornI (numAt l 0 8), numAt l 8 4, numAt l 12 4, numAt l 16 4, numAt l 20 4, numAt l 24 4, numAt l 28 2, numAt l 30 2⟩
theorem cookOf_wf (l : List UInt8) : (cookOf l).wf :=
  ⟨bornI_bounds _ (numAt_lt l 0 8), numAt_lt l 8 4, numAt_lt l 12 4, numAt_lt l 16 4, numAt_lt l 20 4, numAt_lt l 24 4, numAt_lt l 28 2, numAt_lt l 30 2⟩
theorem cook_parts (c : CookD) (m : List UInt8) : ∀ (i a n : Nat) (p q : List UInt8) (x : Nat), p ++ (beBytes n x ++ q) = c.body → p.length = a → ((c.body ++ m).drop a).take n = beBytes n x := by
  intro i a n p q x h hp
  rw [← h, List.append_assoc, List.append_assoc]
  exact mid_of p _ _ a n hp (beBytes_length _ _)
theorem cook_at (c : CookD) (m p q : List UInt8) (a n x : Nat) (h : c.body = p ++ (beBytes n x ++ q)) (hp : p.length = a) : ((c.body ++ m).drop a).take n = beBytes n x := by
  rw [h, List.append_assoc, List.append_assoc]
  exact mid_of p _ _ a n hp (beBytes_length _ _)
/-- Each field's own place. -/
theorem cook_places (c : CookD) (m : List UInt8) :
    ((c.body ++ m).drop 0).take 8 = beBytes 8 (bornN c.born) ∧ ((c.body ++ m).drop 8).take 4 = beBytes 4 c.ot ∧ ((c.body ++ m).drop 12).take 4 = beBytes 4 c.pt ∧ ((c.body ++ m).drop 16).take 4 = beBytes 4 c.otsn ∧
    ((c.body ++ m).drop 20).take 4 = beBytes 4 c.ptsn ∧ ((c.body ++ m).drop 24).take 4 = beBytes 4 c.rw ∧ ((c.body ++ m).drop 28).take 2 = beBytes 2 c.out ∧ ((c.body ++ m).drop 30).take 2 = beBytes 2 c.in_ := by
  have e := c.body.eq_nil_or_concat
  clear e
  refine ⟨cook_at c m [] _ 0 8 _ rfl rfl, cook_at c m (beBytes 8 (bornN c.born)) _ 8 4 _ rfl (beBytes_length _ _), ?_, ?_, ?_, ?_, ?_, ?_⟩
  · exact cook_at c m (beBytes 8 (bornN c.born) ++ beBytes 4 c.ot) (beBytes 4 c.otsn ++ (beBytes 4 c.ptsn ++ (beBytes 4 c.rw ++ (beBytes 2 c.out ++ beBytes 2 c.in_)))) 12 4 _ (by simp [CookD.body]) (by simp [beBytes_length])
  · exact cook_at c m (beBytes 8 (bornN c.born) ++ (beBytes 4 c.ot ++ beBytes 4 c.pt)) (beBytes 4 c.ptsn ++ (beBytes 4 c.rw ++ (beBytes 2 c.out ++ beBytes 2 c.in_))) 16 4 _ (by simp [CookD.body]) (by simp [beBytes_length])
  · exact cook_at c m (beBytes 8 (bornN c.born) ++ (beBytes 4 c.ot ++ (beBytes 4 c.pt ++ beBytes 4 c.otsn))) (beBytes 4 c.rw ++ (beBytes 2 c.out ++ beBytes 2 c.in_)) 20 4 _ (by simp [CookD.body]) (by simp [beBytes_length])
  · exact cook_at c m (beBytes 8 (bornN c.born) ++ (beBytes 4 c.ot ++ (beBytes 4 c.pt ++ (beBytes 4 c.otsn ++ beBytes 4 c.ptsn)))) (beBytes 2 c.out ++ beBytes 2 c.in_) 24 4 _ (by simp [CookD.body]) (by simp [beBytes_length])
  · exact cook_at c m (beBytes 8 (bornN c.born) ++ (beBytes 4 c.ot ++ (beBytes 4 c.pt ++ (beBytes 4 c.otsn ++ (beBytes 4 c.ptsn ++ beBytes 4 c.rw))))) (beBytes 2 c.in_) 28 2 _ (by simp [CookD.body]) (by simp [beBytes_length])
  · exact cook_at c m (beBytes 8 (bornN c.born) ++ (beBytes 4 c.ot ++ (beBytes 4 c.pt ++ (beBytes 4 c.otsn ++ (beBytes 4 c.ptsn ++ (beBytes 4 c.rw ++ beBytes 2 c.out)))))) [] 30 2 _ (by simp [CookD.body]) (by simp [beBytes_length])
theorem numAt_piece (l : List UInt8) (a n x : Nat) (h : a + n ≤ l.length) (hx : x < 256 ^ n) (he : (l.drop a).take n = beBytes n x) : numAt l a n = x := by
  rw [numAt, if_pos h, he, beVal_of n x hx]
theorem cook_back (c : CookD) (h : c.wf) (m : List UInt8) : cookOf (c.body ++ m) = c := by
  obtain ⟨h0, h1, h2, h3, h4, h5, h6, h7⟩ := h
  obtain ⟨e0, e1, e2, e3, e4, e5, e6, e7⟩ := cook_places c m
  have hl : 32 ≤ (c.body ++ m).length := by simp [CookD.body_length]
  apply CookD.ext'
  · show bornI (numAt _ 0 8) = c.born
    rw [numAt_piece _ 0 8 _ (by omega) (bornN_lt _) e0, bornI_N _ h0]
  · exact numAt_piece _ 8 4 _ (by omega) h1 e1
  · exact numAt_piece _ 12 4 _ (by omega) h2 e2
  · exact numAt_piece _ 16 4 _ (by omega) h3 e3
  · exact numAt_piece _ 20 4 _ (by omega) h4 e4
  · exact numAt_piece _ 24 4 _ (by omega) h5 e5
  · exact numAt_piece _ 28 2 _ (by omega) h6 e6
  · exact numAt_piece _ 30 2 _ (by omega) h7 e7
def CookD.may (c : CookD) : Prop := 0 ≤ c.born ∧ c.ot ≠ 0 ∧ c.pt ≠ 0 ∧ c.out ≠ 0 ∧ c.in_ ≠ 0
instance (c : CookD) : Decidable c.may := by unfold CookD.may; infer_instance
/-- What a reader tells of bytes: the error's number and the cookie. -/
def cookTells (key l : List UInt8) : Int × CookD :=
  if l.length ≠ 64 then (7, .zero) else if macSum key (l.take 32) ≠ l.drop 32 then (10, .zero) else if (cookOf l).may then (0, cookOf l) else (7, .zero)
theorem cookTells_back (key : List UInt8) (c : CookD) (h : c.wf) : cookTells key (cookBytes key c) = if c.may then (0, c) else (7, .zero) := by
  have h1 : (cookBytes key c).take 32 = c.body := List.take_left' c.body_length
  have h2 : (cookBytes key c).drop 32 = macSum key c.body := List.drop_left' c.body_length
  rw [cookTells, if_neg (by simp [cookBytes_length]), h1, h2, if_neg (by simp), cookBytes, cook_back c h]
theorem beBytes_inj (n x y : Nat) (hx : x < 256 ^ n) (hy : y < 256 ^ n) : beBytes n x = beBytes n y ↔ x = y := by
  constructor
  · intro h
    have := congrArg beVal h
    rwa [beVal_of n x hx, beVal_of n y hy] at this
  · rintro rfl
    rfl
end Go.FL

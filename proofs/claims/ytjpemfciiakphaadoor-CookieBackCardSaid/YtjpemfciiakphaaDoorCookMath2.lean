/- Cookies as bytes, more: turned bytes, fields apart. Conditions: none. No program in sight. -/
import Derived.Test.YtjpemfciiakphaaDoorCookMath
import Derived.Test.YtjpemfciiakphaaDoorBits
namespace Go.FL
theorem xor_self_zero (x y : UInt8) (h : x ^^^ y = x) : y = 0 := by
  have h2 : x ^^^ (x ^^^ y) = x ^^^ x := by rw [h]
  rw [← UInt8.xor_assoc] at h2
  simpa using h2
theorem cookTells_len (key l : List UInt8) (h : l.length ≠ 64) : cookTells key l = (7, .zero) := by rw [cookTells, if_pos h]
theorem cookTells_turned (key : List UInt8) (c : CookD) (k : Nat) (y : UInt8) (hk1 : 32 ≤ k) (hk2 : k < (cookBytes key c).length) (hy : y ≠ 0) :
    cookTells key ((cookBytes key c).set k ((cookBytes key c)[k] ^^^ y)) = (10, .zero) := by
  have h1 : ((cookBytes key c).set k ((cookBytes key c)[k] ^^^ y)).take 32 = c.body := by
    rw [List.take_set_of_le hk1]
    exact List.take_left' c.body_length
  rw [cookTells, if_neg (by simp [cookBytes_length]), h1, if_pos]
  intro h
  have h2 : (cookBytes key c).drop 32 = macSum key c.body := List.drop_left' c.body_length
  have h3 : ((cookBytes key c).set k ((cookBytes key c)[k] ^^^ y)).drop 32 = (cookBytes key c).drop 32 := by rw [← h, h2]
  have h4 := congrArg (fun l => l[k - 32]?) h3
  simp only [List.getElem?_drop, show 32 + (k - 32) = k by omega, List.getElem?_set_self hk2, List.getElem?_eq_getElem hk2, Option.some.injEq] at h4
  exact hy (xor_self_zero _ _ h4)
theorem bornN_inj {a b : Int} (ha : -9223372036854775808 ≤ a ∧ a < 9223372036854775808) (hb : -9223372036854775808 ≤ b ∧ b < 9223372036854775808) : bornN a = bornN b ↔ a = b := by
  constructor
  · intro h
    rw [← bornI_N a ha, ← bornI_N b hb, h]
  · rintro rfl
    rfl
def cfroms : List Nat := [0, 8, 12, 16, 20, 24, 28, 30, 32]
def cfrom (i : Nat) : Nat := cfroms.getD i 0
def cones (c d : CookD) : List Bool := [decide (c.born = d.born), decide (c.ot = d.ot), decide (c.pt = d.pt), decide (c.otsn = d.otsn), decide (c.ptsn = d.ptsn), decide (c.rw = d.rw), decide (c.out = d.out), decide (c.in_ = d.in_)]
theorem cones_at (c d : CookD) (hc : c.wf) (hd : d.wf) (m m2 : List UInt8) (i : Nat) (hi : i < 8) :
    decide (((c.body ++ m).drop (cfrom i)).take (cfrom (i + 1) - cfrom i) = ((d.body ++ m2).drop (cfrom i)).take (cfrom (i + 1) - cfrom i)) = (cones c d)[i]'hi := by
  obtain ⟨h0, h1, h2, h3, h4, h5, h6, h7⟩ := hc
  obtain ⟨g0, g1, g2, g3, g4, g5, g6, g7⟩ := hd
  obtain ⟨e0, e1, e2, e3, e4, e5, e6, e7⟩ := cook_places c m
  obtain ⟨f0, f1, f2, f3, f4, f5, f6, f7⟩ := cook_places d m2
  have b4 : (256 : Nat) ^ 4 = 4294967296 := by decide
  have b2 : (256 : Nat) ^ 2 = 65536 := by decide
  match i, hi with
  | 0, _ => exact decide_eq_decide.2 (by rw [show ((c.body ++ m).drop (cfrom 0)).take (cfrom (0 + 1) - cfrom 0) = _ from e0, show ((d.body ++ m2).drop (cfrom 0)).take (cfrom (0 + 1) - cfrom 0) = _ from f0, beBytes_inj 8 _ _ (bornN_lt _) (bornN_lt _), bornN_inj h0 g0])
  | 1, _ => exact decide_eq_decide.2 (by rw [show ((c.body ++ m).drop (cfrom 1)).take (cfrom (1 + 1) - cfrom 1) = _ from e1, show ((d.body ++ m2).drop (cfrom 1)).take (cfrom (1 + 1) - cfrom 1) = _ from f1, beBytes_inj 4 _ _ (by omega) (by omega)])
  | 2, _ => exact decide_eq_decide.2 (by rw [show ((c.body ++ m).drop (cfrom 2)).take (cfrom (2 + 1) - cfrom 2) = _ from e2, show ((d.body ++ m2).drop (cfrom 2)).take (cfrom (2 + 1) - cfrom 2) = _ from f2, beBytes_inj 4 _ _ (by omega) (by omega)])
  | 3, _ => exact decide_eq_decide.2 (by rw [show ((c.body ++ m).drop (cfrom 3)).take (cfrom (3 + 1) - cfrom 3) = _ from e3, show ((d.body ++ m2).drop (cfrom 3)).take (cfrom (3 + 1) - cfrom 3) = _ from f3, beBytes_inj 4 _ _ (by omega) (by omega)])
  | 4, _ => exact decide_eq_decide.2 (by rw [show ((c.body ++ m).drop (cfrom 4)).take (cfrom (4 + 1) - cfrom 4) = _ from e4, show ((d.body ++ m2).drop (cfrom 4)).take (cfrom (4 + 1) - cfrom 4) = _ from f4, beBytes_inj 4 _ _ (by omega) (by omega)])
  | 5, _ => exact decide_eq_decide.2 (by rw [show ((c.body ++ m).drop (cfrom 5)).take (cfrom (5 + 1) - cfrom 5) = _ from e5, show ((d.body ++ m2).drop (cfrom 5)).take (cfrom (5 + 1) - cfrom 5) = _ from f5, beBytes_inj 4 _ _ (by omega) (by omega)])
  | 6, _ => exact decide_eq_decide.2 (by rw [show ((c.body ++ m).drop (cfrom 6)).take (cfrom (6 + 1) - cfrom 6) = _ from e6, show ((d.body ++ m2).drop (cfrom 6)).take (cfrom (6 + 1) - cfrom 6) = _ from f6, beBytes_inj 2 _ _ (by omega) (by omega)])
  | 7, _ => exact decide_eq_decide.2 (by rw [show ((c.body ++ m).drop (cfrom 7)).take (cfrom (7 + 1) - cfrom 7) = _ from e7, show ((d.body ++ m2).drop (cfrom 7)).take (cfrom (7 + 1) - cfrom 7) = _ from f7, beBytes_inj 2 _ _ (by omega) (by omega)])
theorem cfrom_le (i : Nat) (hi : i < 8) : cfrom i ≤ cfrom (i + 1) ∧ cfrom (i + 1) ≤ 32 := by
  match i, hi with
  | 0, _ => decide
  | 1, _ => decide
  | 2, _ => decide
  | 3, _ => decide
  | 4, _ => decide
  | 5, _ => decide
  | 6, _ => decide
  | 7, _ => decide
end Go.FL

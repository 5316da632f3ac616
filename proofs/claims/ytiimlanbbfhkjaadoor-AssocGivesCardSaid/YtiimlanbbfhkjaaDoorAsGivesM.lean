/- One that is never answered, told plainly. Conditions: none. No walk. -/
import Derived.Test.YtiimlanbbfhkjaaDoorAsWorks
set_option linter.unusedSimpArgs false
set_option linter.unusedVariables false


namespace Go.FL

open Go.RowKit

/-- It has been said f times again; the timer runs out at T. -/
def gD (p t f T wait : Nat) : AsD := ⟨p, t, [107], 2, 1, 10, .zero, 0, 0, [], (T : Int), ⟨f % p, 0, iA.chk 1⟩, wait, f⟩
theorem gD_open (p t : Nat) (hp : 1 ≤ p) : openD (newD p t [107]) 0 true 1 10 = ({ gD p t 0 3 3 with row := [⟨0, 0, iA.chk 1⟩] }, 0) := by
  unfold openD
  rw [if_pos (show (newD p t [107]).st = 0 from rfl), if_neg (by decide), if_pos rfl]
  unfold gD dialD runD newD
  rw [Nat.zero_mod]
  rfl
theorem gD_idle (p t f T wait m : Nat) (h : m < T) : tickD (gD p t f T wait) (m : Int) = some (gD p t f T wait, .none) := tickD_idle (.inr (by show (m : Int) < (T : Int); omega))
/-- What one does whose timer runs out. -/
def gFire (p t f m wait : Nat) : AsD := { gD p t (f + 1) (m + min (2 * wait) 60) (min (2 * wait) 60) with row := [⟨(f + 1) % p, 0, iA.chk 1⟩] }
theorem gD_fire (p t f T wait m : Nat) (hm : ¬ m < T) (hf : f + 1 ≤ t) (hb : f < 1000000 ∧ wait < 1000000 ∧ t < 1000000 ∧ 1 ≤ p ∧ p < 1000000) : tickD (gD p t f T wait) (m : Int) = some (gFire p t f m wait, .none) := by
  unfold tickD
  have hlt : f % p < p := Nat.mod_lt _ (by omega)
  rw [if_neg (by show ¬ ((T : Int) = -1 ∨ (m : Int) < (T : Int)); omega), if_pos ⟨by show f % p < _; omega, hb.2.1, hb.1, hb.2.2.1, hb.2.2.2.1, hb.2.2.2.2, by show (0 : Nat) ≤ _; omega, by show (0 : Nat) < _; omega⟩]
  unfold fireD
  rw [if_neg (by show ¬ t < f + 1; omega)]
  unfold gD gFire gD
  simp only [Nat.mod_add_mod, List.nil_append]
  rfl
def gEnd (p t f T wait : Nat) : AsD := endsD { gD p t f T wait with often := f + 1 }
theorem gD_gives (p t f T wait m : Nat) (hm : ¬ m < T) (hf : t < f + 1) (hb : f < 1000000 ∧ wait < 1000000 ∧ t < 1000000 ∧ 1 ≤ p ∧ p < 1000000) : tickD (gD p t f T wait) (m : Int) = some (gEnd p t f T wait, ⟨false, true, false, .zero, 0⟩) := by
  unfold tickD
  have hlt : f % p < p := Nat.mod_lt _ (by omega)
  rw [if_neg (by show ¬ ((T : Int) = -1 ∨ (m : Int) < (T : Int)); omega), if_pos ⟨by show f % p < _; omega, hb.2.1, hb.1, hb.2.2.1, hb.2.2.2.1, hb.2.2.2.2, by show (0 : Nat) ≤ _; omega, by show (0 : Nat) < _; omega⟩]
  unfold fireD
  rw [if_pos (by show t < f + 1; omega)]
  rfl
/-- What Tick does at the moment m: nothing, or it is said again; or it ends. -/
theorem gD_tick (p t f T wait last m : Nat) (hf : f ≤ t) (hb : t ≤ 40 ∧ 1 ≤ p ∧ p ≤ 4) (hw : 1 ≤ wait ∧ wait ≤ 60) (hT : T = last + wait) (hm : last < m ∧ m ≤ T) (hT2 : T ≤ 3 + 60 * f) :
    (∃ a' L f' T' wait' last', tickD (gD p t f T wait) (m : Int) = some (a', .none) ∧ a'.row = L ∧ { a' with row := [] } = gD p t f' T' wait' ∧ f' = f + L.length ∧ L.length ≤ 1 ∧ (∀ i (h : i < L.length), L[i].path = (f + 1) % p ∧ L[i].tag = 0 ∧ L[i].c = iA.chk 1) ∧ f' ≤ t ∧ (1 ≤ wait' ∧ wait' ≤ 60) ∧ T' = last' + wait' ∧ (last' < m + 1 ∧ m + 1 ≤ T') ∧ T' ≤ 3 + 60 * f' ∧ last' = (if L.length = 0 then last else m)) ∨
    (f = t ∧ m = T ∧ tickD (gD p t f T wait) (m : Int) = some (gEnd p t f T wait, ⟨false, true, false, .zero, 0⟩)) := by
  by_cases h1 : m < T
  · exact .inl ⟨gD p t f T wait, [], f, T, wait, last, gD_idle p t f T wait m h1, rfl, rfl, rfl, by simp, fun i h => absurd h (by simp), hf, hw, hT, by omega, hT2, rfl⟩
  · by_cases h2 : f + 1 ≤ t
    · refine .inl ⟨gFire p t f m wait, [⟨(f + 1) % p, 0, iA.chk 1⟩], f + 1, m + min (2 * wait) 60, min (2 * wait) 60, m, gD_fire p t f T wait m h1 h2 (by omega), rfl, rfl, rfl, by simp, fun i h => ?_, h2, by omega, rfl, by omega, by omega, by simp⟩
      have hi : i = 0 := by simpa using h
      subst hi
      exact ⟨rfl, rfl, rfl⟩
    · exact .inr ⟨by omega, by omega, gD_gives p t f T wait m h1 (by omega) (by omega)⟩
end Go.FL

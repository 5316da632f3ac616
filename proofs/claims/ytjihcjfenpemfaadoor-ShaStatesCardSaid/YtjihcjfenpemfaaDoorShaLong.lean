/- What the statements' helper long answers; the opener of rows of bytes. Conditions: none but what the argument reads as. -/
import Derived.Test.YtjihcjfenpemfaaDoorRows
import Derived.Test.YtjihcjfenpemfaaDoorOpenRows
namespace Go.Proofs.YtjihcjfenpemfaaDoor
open Go.RowKit Go.FL Go.ChangeShapes Go.WideShapes

def longB (ls : List (List UInt8)) : Bool := decide (50 < ls.length) || ls.any fun l => decide (1024 < l.length)
theorem longB_no {ls : List (List UInt8)} (h : longB ls = false) : ls.length ≤ 50 ∧ ∀ i (hi : i < ls.length), ls[i].length ≤ 1024 := by
  simp [longB] at h
  exact ⟨h.1, fun i hi => h.2 _ (List.getElem_mem hi)⟩
theorem rowsArg {H : Type} {enc : TypeId × Value → H} {W : World} {r : Reach} {b0 : Nat} {spare : Nat → Bool} {held : Bool} {v : Value} {d : DataW H} {p : List MemPlace}
    (hv : Value.okWide Tryd.prog W r b0 29 v) (h : DataW.Trod enc Tryd.prog W 0 spare held 29 v d p) : ∃ ls : List (List UInt8), RowsAt W v ls := by
  obtain ⟨a, n, c, rfl⟩ := okWide_slice Tryd.underlying29 hv
  exact rows_open Tryd.underlying29 Tryd.underlying22 Tryd.underlying5 (by kernel_rfl) (by kernel_rfl) h

set_option maxHeartbeats 400000 in
theorem long_any (v : Value) (ls : List (List UInt8)) (w : World) (hv : RowsAt w v ls) : Calls Tryd.prog 15 #[v] w fun e w' => e = .returned (.bool (longB ls)) ∧ w = w' := by
  obtain ⟨p, c, rfl, hlc, hcm, hcell⟩ := hv
  unfold maxLen at hcm
  by_cases hbig : 50 < ls.length
  · have HB := hid (show longB ls = true by simp [longB, hbig])
    go_enter Tryd.func15, Tryd.ntmps15
    go_wp2
    go_ret
    exact ⟨by rw [HB.out]; rfl, rfl⟩
  · go_enter Tryd.func15, Tryd.ntmps15
    go_wp2
    go_loop [3] (fun y => ∃ i : Nat, i ≤ ls.length ∧ y = .int .i64 (i : Int) ∧ Hid (∀ j (_ : j < ls.length), j < i → ls[j].length ≤ 1024)) (fun y => ls.length - (intOf y).toNat)
    case atStart => exact ⟨0, Nat.zero_le _, rfl, fun j _ h => absurd h (Nat.not_lt_zero _)⟩
    case round =>
      obtain ⟨i, hi, rfl, hsm⟩ := hrel
      by_cases hlt : i < ls.length
      · obtain ⟨b, off, u, rfl, hc, hr⟩ := hcell i hlt
        obtain ⟨pu, cu, rfl, hlcu, hcmu, _, h5u⟩ := hr
        unfold maxLen at hcmu
        clear hcell h5u
        by_cases hb : 1024 < ls[i].length
        · have HB := hid (show longB ls = true by
            have : ls.any (fun l => decide (1024 < l.length)) = true := List.any_eq_true.2 ⟨ls[i], List.getElem_mem hlt, by simpa using hb⟩
            simp [longB, this])
          generalize ls[i].length = n at *
          go_wp2
          go_ret
          exact ⟨by rw [HB.out]; rfl, rfl⟩
        · have HSM := hid (show ∀ j (_ : j < ls.length), j < i + 1 → ls[j].length ≤ 1024 from fun j hj hji => by
            by_cases e : j = i
            · subst e; omega
            · exact hsm.out j hj (by omega))
          clear hsm
          generalize ls[i].length = n at *
          go_wp2
          go_round
          case rel => exact ⟨i + 1, by omega, by go_num, HSM.out⟩
          case measure => simp [intOf]; omega
      · obtain rfl : i = ls.length := by omega
        have HB := hid (show longB ls = false by
          have h1 : ls.any (fun l => decide (1024 < l.length)) = false := by
            rw [List.any_eq_false]
            intro l hl
            obtain ⟨j, hj, rfl⟩ := List.getElem_of_mem hl
            have := hsm.out j hj hj
            simp; omega
          simp [longB, h1]; omega)
        clear hsm hcell
        go_wp2
        go_ret
        exact ⟨by rw [HB.out]; rfl, rfl⟩
end Go.Proofs.YtjihcjfenpemfaaDoor

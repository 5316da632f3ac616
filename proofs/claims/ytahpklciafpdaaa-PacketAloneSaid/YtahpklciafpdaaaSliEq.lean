/- slices.Equal over bytes. Conditions: what comes in reads as it should. -/
import Derived.Test.YtahpklciafpdaaaRows
import Derived.Test.YtahpklciafpdaaaBaseA
import Derived.BigQuiet
set_option linter.unusedSimpArgs false
set_option linter.unusedVariables false
namespace Go.FL
theorem take_eq_step (l m : List UInt8) (k : Nat) (hl : k < l.length) (hm : k < m.length) (h : l.take k = m.take k) (he : l[k] = m[k]) : l.take (k + 1) = m.take (k + 1) := by
  rw [List.take_succ_eq_append_getElem hl, List.take_succ_eq_append_getElem hm, h, he]
theorem byte_eq (a b : UInt8) : (a.toNat : Int) = (b.toNat : Int) ↔ a = b := by
  rw [← UInt8.toNat_inj]
  omega
end Go.FL
namespace Go.Proofs.Ytahpklciafpdaaa
open Go.RowKit Go.FL
set_option maxRecDepth 20000 in
set_option maxHeartbeats 1000000 in
theorem sliEq_any (v u : Value) (l m : List UInt8) (w : World) (h : Rd w v l) (k : Rd w u m) :
    Calls Try.prog 42 #[v, u] w fun e w' => e = .returned (.bool (decide (l = m))) ∧ Below w.heap.size w w' := by
  have HV := hid h
  have HU := hid k
  obtain ⟨p, c, rfl, hlc, hcm, hpn, hcell⟩ := h
  obtain ⟨q, cq, rfl, hlq, hcq, hqn, hcelq⟩ := k
  unfold maxLen at hcm hcq
  have HC := hid hcell
  have HQ := hid hcelq
  clear hcell hcelq
  by_cases hlen : l.length = m.length
  · have hnl : ((l.length : Int) != (m.length : Int)) = false := by simp; omega
    have HLEN := hid hlen
    clear hlen
    go_enter Try.func42, Try.ntmps42
    go_wp2_with fail
    go_loopw [5, 13] (fun o y wr => ∃ (j : Nat), j ≤ l.length ∧ y = .int .i64 (j : Int) ∧ l.take j = m.take j ∧ Hid (Below w.heap.size w wr)) (fun _ y _ => l.length - (intOf y).toNat)
    case atStart => exact ⟨0, Nat.zero_le _, rfl, by simp, hid (Below.refl _ _)⟩
    case round =>
      obtain ⟨j, hj, rfl, htk, HB⟩ := hrel
      by_cases hlt : j < l.length
      · have hlm : j < m.length := by have := HLEN.out; omega
        obtain ⟨b1, o1, rfl, e1⟩ := HC.out j hlt
        obtain ⟨b2, o2, rfl, e2⟩ := HQ.out j hlm
        have f1 := cell?_of_below HB.out e1
        have f2 := cell?_of_below HB.out e2
        have i0 : (0 : Int) ≤ (j : Int) := by omega
        have i1 : (j : Int) < (l.length : Int) := by omega
        have i2 : (j : Int) < (m.length : Int) := by omega
        have i3 : ((j : Int)).toNat = j := by omega
        have HST := hid (take_eq_step l m j hlt hlm htk)
        have HNE := hid (show l[j] ≠ m[j] → l ≠ m from fun hne h => hne (by subst h; rfl))
        generalize l[j] = x at *
        generalize m[j] = y at *
        clear e1 e2 htk
        by_cases hxy : x = y
        · subst hxy
          have hb : ((x.toNat : Int) != (x.toNat : Int)) = false := by simp
          have HS := hid (HST.out rfl)
          go_wp2_with fail
          go_quiet (fail)
          go_wp2_with fail
          go_roundw
          case rel => exact ⟨j + 1, by omega, by go_num, HS.out, hid (gr_trans HB.out (gr_drewN _ _))⟩
          case measure => simp [intOf]; omega
        · have hb : ((x.toNat : Int) != (y.toNat : Int)) = true := by
            simp only [bne_iff_ne, ne_eq]
            rw [byte_eq]
            exact hxy
          have HD := hid (decide_eq_false (HNE.out hxy))
          go_wp2_with fail
          go_quiet (fail)
          go_wp2_with fail
          go_ret
          exact ⟨by rw [HD.out]; rfl, gr_trans HB.out (gr_drewN _ _)⟩
      · obtain rfl : j = l.length := by omega
        have HD := hid (decide_eq_true (show l = m by rw [List.take_length, HLEN.out, List.take_length] at htk; exact htk))
        go_wp2_with fail
        go_ret
        exact ⟨by rw [HD.out]; rfl, HB.out⟩
  · have hnl : ((l.length : Int) != (m.length : Int)) = true := by simp; omega
    have HD := hid (decide_eq_false (show l ≠ m from fun h => hlen (by rw [h])))
    go_enter Try.func42, Try.ntmps42
    go_wp2_with fail
    go_ret
    exact ⟨by rw [HD.out]; rfl, Below.refl _ _⟩
end Go.Proofs.Ytahpklciafpdaaa

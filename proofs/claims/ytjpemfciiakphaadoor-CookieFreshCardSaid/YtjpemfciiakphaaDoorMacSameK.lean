/- mac.Same tells whether bytes are the same. Conditions: what comes in reads as bytes. -/
import Derived.Test.YtjpemfciiakphaaDoorRows
import Derived.Test.YtjpemfciiakphaaDoorAlike
namespace Go.Proofs.YtjpemfciiakphaaDoor
open Go.RowKit Go.FL

set_option maxRecDepth 20000 in
set_option maxHeartbeats 400000 in
theorem same_dr (v u : Value) (l m : List UInt8) (w : World) (hv : Rd w v l) (hu : Rd w u m) :
    Calls Tryd.prog 25 #[v, u] w fun e w' => e = .returned (.bool (decide (l = m))) ∧ ∃ n, w' = w.drewN n := by
  obtain ⟨p, c, rfl, hlc, hcm, hpn, hcell⟩ := hv
  obtain ⟨p', c', rfl, hlc', hcm', hpn', hcell'⟩ := hu
  unfold maxLen at hcm hcm'
  by_cases hlen : l.length = m.length
  · have HL := hid hlen
    have hne : ((l.length : Int) != (m.length : Int)) = false := by simp [hlen]
    have hle : l.length ≤ m.length := by omega
    clear hlen
    go_enter Tryd.func25, Tryd.ntmps25
    go_wp2
    go_loopw [5, 15] (fun x i wr => ∃ (k : Nat) (u : UInt8), k ≤ l.length ∧ i = .int .i64 k ∧ x = .int .u8 (u.toNat : Int) ∧ Hid (u = 0 ↔ l.take k = m.take k) ∧ ∃ n, wr = w.drewN n) (fun _ i _ => l.length - (intOf i).toNat)
    case atStart => exact ⟨0, 0, Nat.zero_le _, rfl, rfl, by simp [Hid], 0, rfl⟩
    case round =>
      obtain ⟨k, u, hk, rfl, rfl, hu, n, rfl⟩ := hrel
      by_cases hlt : k < l.length
      · have hltm : k < m.length := by omega
        obtain ⟨b, off, rfl, hc⟩ := hcell k hlt
        obtain ⟨b', off', rfl, hc'⟩ := hcell' k hltm
        have i1 : (0 : Int) ≤ (k : Int) := by omega
        have i2 : (k : Int) < (l.length : Int) := by omega
        have i3 : (k : Int) < (m.length : Int) := by omega
        have HA := hid (alike_step l m k hlt hltm u hu.out)
        go_wp2
        first | (go_quiet (fail); go_wp2) | skip
        go_roundw
        case rel => exact ⟨k + 1, _, by omega, by go_num, by rw [bits_xor8, bits_or8], HA.out, _, rfl⟩
        case measure => simp [intOf]; omega
      · obtain rfl : k = l.length := by omega
        have he : l = m ↔ u = 0 := by
          rw [hu.out, List.take_length, HL.out, List.take_length]
        by_cases h0 : u = 0
        · subst h0
          have hd : decide (l = m) = true := by simpa using he.2 rfl
          clear he hu
          go_wp2
          go_ret
          exact ⟨by rw [hd]; rfl, n, rfl⟩
        · have hd : decide (l = m) = false := by simp [he, h0]
          have hz : ((u.toNat : Int) == 0) = false := by
            have : u.toNat ≠ 0 := fun h => h0 (UInt8.toNat_inj.1 h)
            simp
            omega
          clear he hu h0
          go_wp2
          go_ret
          exact ⟨by rw [hd]; rfl, n, rfl⟩
  · have hne : ((l.length : Int) != (m.length : Int)) = true := by simp; omega
    have hd : decide (l = m) = false := by
      simp only [decide_eq_false_iff_not]
      intro h; exact hlen (by rw [h])
    clear hlen
    go_enter Tryd.func25, Tryd.ntmps25
    go_wp2
    go_ret
    exact ⟨by rw [hd]; rfl, 0, rfl⟩
theorem same_any (v u : Value) (l m : List UInt8) (w : World) (hv : Rd w v l) (hu : Rd w u m) :
    Calls Tryd.prog 25 #[v, u] w fun e w' => e = .returned (.bool (decide (l = m))) ∧ Below w.heap.size w w' := by
  refine (same_dr v u l m w hv hu).mono ?_
  rintro e w' ⟨rfl, n, rfl⟩
  exact ⟨rfl, gr_drewN w n⟩
theorem same_yes (v u : Value) (l m : List UInt8) (w : World) (hv : Rd w v l) (hu : Rd w u m) (h : l = m) :
    Calls Tryd.prog 25 #[v, u] w fun e w' => e = .returned (.bool true) ∧ Below w.heap.size w w' := by
  refine (same_any v u l m w hv hu).mono ?_
  rintro e w' ⟨rfl, h2⟩
  exact ⟨by rw [decide_eq_true h], h2⟩
theorem same_no (v u : Value) (l m : List UInt8) (w : World) (hv : Rd w v l) (hu : Rd w u m) (h : l ≠ m) :
    Calls Tryd.prog 25 #[v, u] w fun e w' => e = .returned (.bool false) ∧ Below w.heap.size w w' := by
  refine (same_any v u l m w hv hu).mono ?_
  rintro e w' ⟨rfl, h2⟩
  exact ⟨by rw [decide_eq_false h], h2⟩
end Go.Proofs.YtjpemfciiakphaaDoor

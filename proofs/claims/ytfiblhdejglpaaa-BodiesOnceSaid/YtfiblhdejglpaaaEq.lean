/- What the statements' helper EqBytes answers. Conditions: what comes in reads as bytes. -/
import Derived.Test.YtfiblhdejglpaaaRows
import Derived.Test.YtfiblhdejglpaaaMem
import Derived.Test.YtfiblhdejglpaaaBits
import Derived.BigQuiet
import Derived.Deep.QuietTactic
namespace Go.Proofs.Ytfiblhdejglpaaa
open Go.RowKit Go.FL

theorem alike_step (l m : List UInt8) (k : Nat) (hl : k < l.length) (hm : k < m.length) (u : UInt8) (h : u = 0 ↔ l.take k = m.take k) : (u ||| (l[k] ^^^ m[k])) = 0 ↔ l.take (k + 1) = m.take (k + 1) := by
  rw [or_zero, xor_zero8, h, List.take_succ_eq_append_getElem hl, List.take_succ_eq_append_getElem hm]
  constructor
  · rintro ⟨h1, h2⟩; rw [h1, h2]
  · intro h1
    have := List.append_inj h1 (by simp; omega)
    exact ⟨this.1, by simpa using this.2⟩

set_option maxHeartbeats 400000 in
theorem eqBytes_any (v u : Value) (l m : List UInt8) (w : World) (hv : Rd w v l) (hu : Rd w u m) :
    Calls Try.prog 56 #[v, u] w fun e w' => e = .returned (.bool (decide (l = m))) ∧ ∃ n, w' = w.drewN n := by
  obtain ⟨p, c, rfl, hlc, hcm, hpn, hcell⟩ := hv
  obtain ⟨p', c', rfl, hlc', hcm', hpn', hcell'⟩ := hu
  unfold maxLen at hcm hcm'
  by_cases hlen : l.length = m.length
  · have HL := hid hlen
    have hne : ((l.length : Int) != (m.length : Int)) = false := by simp [hlen]
    have hle : l.length ≤ m.length := by omega
    clear hlen
    go_enter Try.func56, Try.ntmps56
    go_wp2
    go_loopw [6, 7] (fun x i wr => ∃ (k : Nat) (u : UInt8), k ≤ l.length ∧ i = .int .i64 k ∧ x = .int .u8 (u.toNat : Int) ∧ Hid (u = 0 ↔ l.take k = m.take k) ∧ ∃ n, wr = w.drewN n) (fun _ i _ => l.length - (intOf i).toNat)
    case atStart => exact ⟨0, 0, Nat.zero_le _, rfl, rfl, by simp [Hid], 0, rfl⟩
    case round =>
      obtain ⟨k, u, hk, rfl, rfl, hu, n, rfl⟩ := hrel
      by_cases hlt : k < l.length
      · have hltm : k < m.length := by omega
        obtain ⟨b, off, rfl, hc⟩ := hcell k hlt
        obtain ⟨b', off', rfl, hc'⟩ := hcell' k hltm
        have i1 : (0 : Int) ≤ (k : Int) := by omega
        have i2 : (k : Int) < (l.length : Int) := by omega
        have i3 : (k : Int) < (m.length : Int) := by omega
        have HA := hid (alike_step l m k hlt hltm u hu.out)
        go_wp2
        go_quiet (fail)
        go_wp2
        go_roundw
        case rel => exact ⟨k + 1, _, by omega, by go_num, by rw [bits_xor8, bits_or8], HA.out, _, rfl⟩
        case measure => simp [intOf]; omega
      · obtain rfl : k = l.length := by omega
        have he : l = m ↔ u = 0 := by
          rw [hu.out, List.take_length, HL.out, List.take_length]
        by_cases h0 : u = 0
        · subst h0
          have hd : decide (l = m) = true := by simpa using he.2 rfl
          clear he hu
          go_wp2
          go_ret
          exact ⟨by rw [hd]; rfl, n, rfl⟩
        · have hd : decide (l = m) = false := by simp [he, h0]
          have hz : ((u.toNat : Int) == 0) = false := by
            have : u.toNat ≠ 0 := fun h => h0 (UInt8.toNat_inj.1 h)
            simp
            omega
          clear he hu h0
          go_wp2
          go_ret
          exact ⟨by rw [hd]; rfl, n, rfl⟩
  · have hne : ((l.length : Int) != (m.length : Int)) = true := by simp; omega
    have hd : decide (l = m) = false := by
      simp only [decide_eq_false_iff_not]
      intro h; exact hlen (by rw [h])
    clear hlen
    go_enter Try.func56, Try.ntmps56
    go_wp2
    go_ret
    exact ⟨by rw [hd]; rfl, 0, rfl⟩
end Go.Proofs.Ytfiblhdejglpaaa

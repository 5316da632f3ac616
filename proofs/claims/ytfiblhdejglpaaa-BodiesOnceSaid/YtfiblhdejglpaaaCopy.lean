/- What the statements' helper CopyBytes answers. Conditions: what comes in reads as bytes, of a length that memory bears. -/
import Derived.Test.YtfiblhdejglpaaaRows
import Derived.Test.YtfiblhdejglpaaaMem
import Derived.BigQuiet
import Derived.Deep.QuietTactic
namespace Go.Proofs.Ytfiblhdejglpaaa
open Go.RowKit Go.FL

theorem infoU8 : (Try.prog.info? 5).map (fun i => (i.zero, i.size, i.bytes)) = some (some (.int .u8 0), 1, 1) := by kernel_rfl

theorem set_step (l : List UInt8) (k : Nat) (h : k < l.length) : (l.take k ++ List.replicate (l.length - k) 0).set k l[k] = l.take (k + 1) ++ List.replicate (l.length - (k + 1)) 0 := by
  obtain ⟨m, h1, h2⟩ : ∃ m, l.length - k = m + 1 ∧ l.length - (k + 1) = m := ⟨_, by omega, rfl⟩
  have h3 : (l.take k).length = k := by simp; omega
  rw [h1, h2, List.replicate_succ, List.set_append, h3, if_neg (Nat.lt_irrefl k), Nat.sub_self, List.set_cons_zero, List.take_succ_eq_append_getElem h, List.append_assoc]
  rfl

set_option maxHeartbeats 400000 in
theorem copyBytes_any (v : Value) (l : List UInt8) (w : World) (h : Rd w v l) (hs : l.length ≤ 281474976710656) :
    Calls Try.prog 55 #[v] w (RetOwn w 5 l) := by
  by_cases h0 : l = []
  · obtain ⟨p, c, rfl, hc, hpc⟩ := h.empty h0
    subst h0
    go_enter Try.func55, Try.ntmps55
    go_wp2
    go_ret
    exact ⟨_, rfl, Own.nil _ _ _, Below.refl _ _⟩
  · have H := hid h
    obtain ⟨b, off, c, rfl, hlc, hcm, hcell⟩ := h.at (List.length_pos_iff.2 h0)
    have hpos : ((l.length : Int) == 0) = false := by have := List.length_pos_iff.2 h0; simp; omega
    clear h h0
    unfold maxLen at hcm
    have hmk := run_make_u8 (P := Try.prog) 24 5 Try.underlying24 infoU8 .i64 .i64 l.length hs
    go_enter Try.func55, Try.ntmps55
    go_wp2
    go_loopw [4] (fun i wr => ∃ k : Nat, k ≤ l.length ∧ i = .int .i64 k ∧ Row wr w.heap.size 5 (l.take k ++ List.replicate (l.length - k) 0) ∧ Below w.heap.size w wr) (fun i _ => l.length - (intOf i).toNat)
    case atStart => exact ⟨0, Nat.zero_le _, rfl, by simpa using Row.new w 5 (List.replicate l.length 0), (Below.refl _ _).alloc (Nat.le_refl _) _⟩
    case round =>
      obtain ⟨k, hk, rfl, hrow, hb⟩ := hrel
      by_cases hlt : k < l.length
      · have hcs := cell?_of_below hb (hcell k hlt)
        have hcd := hrow.cell k (by simp; omega)
        have hcf := hrow.frozen k
        have HR := hid (hrow.store k l[k])
        have HB := hid (hb.setCell (p := ⟨w.heap.size, k, none⟩) (Nat.le_refl _) (.int .u8 (l[k].toNat : Int)))
        clear hcell hmk hrow hb
        go_wp2
        go_roundw
        case rel => exact ⟨k + 1, by omega, by go_num, by rw [← set_step l k hlt]; exact HR.out, HB.out⟩
        case measure => simp [intOf]; omega
      · obtain rfl : k = l.length := by omega
        go_wp2
        go_ret
        exact ⟨_, rfl, .inr ⟨w.heap.size, [], Nat.le_refl _, rfl, by simpa using hrow, by unfold maxLen; simp; omega⟩, hb⟩
end Go.Proofs.Ytfiblhdejglpaaa

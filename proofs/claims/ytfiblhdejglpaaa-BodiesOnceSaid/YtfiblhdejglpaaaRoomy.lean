/- What the statements' helpers Roomy and Kept answer. Conditions: what comes in reads as bytes, of a length that memory bears. -/
import Derived.Test.YtfiblhdejglpaaaRows
import Derived.Test.YtfiblhdejglpaaaMem
import Derived.Test.YtfiblhdejglpaaaEq
import Derived.BigQuiet
import Derived.Deep.QuietTactic
namespace Go.Proofs.Ytfiblhdejglpaaa
open Go.RowKit Go.FL

theorem infoU8r : (Try.prog.info? 5).map (fun i => (i.zero, i.size, i.bytes)) = some (some (.int .u8 0), 1, 1) := by kernel_rfl

/-- A row that Roomy made, its marks behind it. -/
def Roomed (w : World) (base : Nat) (v : Value) (l : List UInt8) : Prop :=
  ∃ g, base ≤ g ∧ v = .slice (some ⟨g, 0, none⟩) l.length (l.length + 16) ∧ Row w g 5 (l ++ List.replicate 16 90) ∧ l.length + 16 ≤ maxLen
theorem Roomed.mono {w w' : World} {base : Nat} {v : Value} {l : List UInt8} (h : Roomed w base v l) (hb : Below w.heap.size w w') : Roomed w' base v l := by
  obtain ⟨g, h1, h2, h3, h4⟩ := h
  exact ⟨g, h1, h2, h3.mono hb, h4⟩
theorem Roomed.rd {w : World} {base : Nat} {v : Value} {l : List UInt8} (h : Roomed w base v l) : Rd w v l := by
  obtain ⟨g, h1, rfl, h3, h4⟩ := h
  have := h3.rd l.length (l.length + 16) (by simp) (by omega) h4
  simpa using this
theorem Roomed.own {w : World} {base : Nat} {v : Value} {l : List UInt8} (h : Roomed w base v l) : Own w base 5 v l := by
  obtain ⟨g, h1, rfl, h3, h4⟩ := h
  exact .inr ⟨g, List.replicate 16 90, h1, by simp, h3, by simpa using h4⟩
def RetRoomy (w : World) (l : List UInt8) (en : Ending) (w' : World) : Prop :=
  ∃ v', en = .returned v' ∧ Roomed w' w.heap.size v' l ∧ Below w.heap.size w w'

theorem marks_step (n j : Nat) (h : n + j < n + 16) : (List.replicate n (0 : UInt8) ++ (List.replicate j 90 ++ List.replicate (16 - j) 0)).set (n + j) 90 = List.replicate n 0 ++ (List.replicate (j + 1) 90 ++ List.replicate (16 - (j + 1)) 0) := by
  obtain ⟨m, h1, h2⟩ : ∃ m, 16 - j = m + 1 ∧ 16 - (j + 1) = m := ⟨_, by omega, rfl⟩
  rw [h1, h2, List.replicate_succ, List.set_append, List.length_replicate, if_neg (by omega), show n + j - n = j by omega, List.set_append, List.length_replicate, if_neg (by omega), Nat.sub_self, List.set_cons_zero]
  congr 1
  rw [List.replicate_succ', List.append_assoc]
  rfl
theorem marks_at (l : List UInt8) (j : Nat) (h : j < 16) : (l ++ List.replicate 16 (90 : UInt8))[l.length + j]'(by simp; omega) = 90 := by
  rw [List.getElem_append_right (Nat.le_add_right _ _)]
  exact List.getElem_replicate _
theorem fill_step (l m : List UInt8) (k : Nat) (h : k < l.length) : (l.take k ++ (List.replicate (l.length - k) 0 ++ m)).set k l[k] = l.take (k + 1) ++ (List.replicate (l.length - (k + 1)) 0 ++ m) := by
  obtain ⟨j, h1, h2⟩ : ∃ j, l.length - k = j + 1 ∧ l.length - (k + 1) = j := ⟨_, by omega, rfl⟩
  have h3 : (l.take k).length = k := by simp; omega
  rw [h1, h2, List.replicate_succ, List.set_append, h3, if_neg (Nat.lt_irrefl k), Nat.sub_self, List.cons_append, List.set_cons_zero, List.take_succ_eq_append_getElem h, List.append_assoc]
  rfl

set_option maxHeartbeats 400000 in
theorem roomy_any (v : Value) (l : List UInt8) (w : World) (h : Rd w v l) (hs : l.length ≤ 140737488355328) :
    Calls Try.prog 14 #[v] w (RetRoomy w l) := by
  obtain ⟨p, c, rfl, hlc, hcm, hpn, hcell⟩ := h
  unfold maxLen at hcm
  have hmk := run_make_u8 (P := Try.prog) 24 5 Try.underlying24 infoU8r .i64 .i64 (l.length + 16) (by omega)
  have ec : ((l.length + 16 : Nat) : Int) = (l.length : Int) + 16 := by omega
  rw [ec] at hmk
  clear ec
  go_enter Try.func14, Try.ntmps14
  go_wp2
  go_loopw [4] (fun i wr => ∃ j : Nat, j ≤ 16 ∧ i = .int .i64 ((l.length + j : Nat) : Int) ∧ Row wr w.heap.size 5 (List.replicate l.length 0 ++ (List.replicate j 90 ++ List.replicate (16 - j) 0)) ∧ Below w.heap.size w wr) (fun i _ => l.length + 16 - (intOf i).toNat)
  case atStart => exact ⟨0, Nat.zero_le _, rfl, by rw [show (List.replicate l.length (0 : UInt8) ++ (List.replicate 0 90 ++ List.replicate (16 - 0) 0)) = List.replicate (l.length + 16) 0 from List.replicate_append_replicate]; exact Row.new w 5 _, (Below.refl _ _).alloc (Nat.le_refl _) _⟩
  case round =>
    obtain ⟨j, hj, rfl, hrow, hb⟩ := hrel
    by_cases hlt : j < 16
    · have hcd := hrow.cell (l.length + j) (by simp; omega)
      have hcf := hrow.frozen (l.length + j)
      have HR := hid (hrow.store (l.length + j) 90)
      have HB := hid (hb.setCell (p := ⟨w.heap.size, l.length + j, none⟩) (Nat.le_refl _) (.int .u8 90))
      clear hcell hmk hrow hb
      go_wp2
      go_roundw
      case rel => exact ⟨j + 1, by omega, by go_num, by rw [← marks_step l.length j (by omega)]; exact HR.out, HB.out⟩
      case measure => simp [intOf]; omega
    · obtain rfl : j = 16 := by omega
      have hrow' : Row wr w.heap.size 5 (l.take 0 ++ (List.replicate (l.length - 0) 0 ++ List.replicate 16 90)) := by simpa using hrow
      clear hrow hmk
      go_wp2
      go_loopw [5] (fun i wr => ∃ k : Nat, k ≤ l.length ∧ i = .int .i64 k ∧ Row wr w.heap.size 5 (l.take k ++ (List.replicate (l.length - k) 0 ++ List.replicate 16 90)) ∧ Below w.heap.size w wr) (fun i _ => l.length - (intOf i).toNat)
      case atStart => exact ⟨0, Nat.zero_le _, rfl, hrow', hb⟩
      case round =>
        clear hrow' hb
        obtain ⟨k, hk, rfl, hrow, hb⟩ := hrel
        by_cases hlt : k < l.length
        · obtain ⟨b, off, rfl, hc⟩ := hcell k hlt
          have hcs := cell?_of_below hb hc
          have hcd := hrow.cell k (by simp; omega)
          have hcf := hrow.frozen k
          have HR := hid (hrow.store k l[k])
          have HB := hid (hb.setCell (p := ⟨w.heap.size, k, none⟩) (Nat.le_refl _) (.int .u8 (l[k].toNat : Int)))
          clear hcell hrow hb hc
          go_wp2
          go_roundw
          case rel => exact ⟨k + 1, by omega, by go_num, by rw [← fill_step l _ k hlt]; exact HR.out, HB.out⟩
          case measure => simp [intOf]; omega
        · obtain rfl : k = l.length := by omega
          go_wp2
          go_ret
          exact ⟨_, rfl, ⟨w.heap.size, Nat.le_refl _, rfl, by simpa using hrow, by unfold maxLen; omega⟩, hb⟩

set_option maxHeartbeats 400000 in
theorem kept_any (v u : Value) (l : List UInt8) (base : Nat) (w : World) (hv : Roomed w base v l) (hu : Rd w u l) :
    Calls Try.prog 20 #[v, u] w fun e w' => e = .returned (.bool true) ∧ ∃ n, w' = w.drewN n := by
  have hv' := hv.rd
  obtain ⟨g, _, rfl, hrow, hm⟩ := hv
  unfold maxLen at hm
  have HV := hid hv'
  clear hv'
  go_enter Try.func20, Try.ntmps20
  go_wp2_with fail
  refine (eqBytes_any _ _ l l _ HV.out hu).mono ?_
  simp only [decide_true]
  rintro e w' ⟨rfl, n, rfl⟩
  go_wp2
  go_loop [6] (fun i => ∃ j : Nat, j ≤ 16 ∧ i = .int .i64 j) (fun i => 16 - (intOf i).toNat)
  case atStart => exact ⟨0, Nat.zero_le _, rfl⟩
  case round =>
    obtain ⟨j, hj, rfl⟩ := hrel
    by_cases hlt : j < 16
    · have hc := hrow.cell (l.length + j) (by simp; omega)
      have h90 : (l ++ List.replicate 16 (90 : UInt8))[l.length + j]'(by simp; omega) = 90 :=
         marks_at l j hlt
      rw [h90] at hc
      clear h90 hrow HV
      go_wp2
      go_round
      case rel => exact ⟨j + 1, by omega, by go_num⟩
      case measure => simp [intOf]; omega
    · obtain rfl : j = 16 := by omega
      go_wp2
      go_ret
      exact ⟨rfl, n, rfl⟩

/-- The same two answers, said by what stays. -/
theorem eqBytes_gr (v u : Value) (l m : List UInt8) (w : World) (hv : Rd w v l) (hu : Rd w u m) :
    Calls Try.prog 56 #[v, u] w fun e w' => e = .returned (.bool (decide (l = m))) ∧ Below w.heap.size w w' :=
  (eqBytes_any v u l m w hv hu).mono fun e w' ⟨h1, n, h2⟩ => ⟨h1, by rw [h2]; exact gr_drewN w n⟩
theorem eqBytes_yes (v u : Value) (l : List UInt8) (w : World) (hv : Rd w v l) (hu : Rd w u l) :
    Calls Try.prog 56 #[v, u] w fun e w' => e = .returned (.bool true) ∧ Below w.heap.size w w' :=
  (eqBytes_gr v u l l w hv hu).mono fun e w' ⟨h1, h2⟩ => ⟨by rw [h1]; simp, h2⟩
theorem eqBytes_no (v u : Value) (l m : List UInt8) (w : World) (hv : Rd w v l) (hu : Rd w u m) (h : l ≠ m) :
    Calls Try.prog 56 #[v, u] w fun e w' => e = .returned (.bool false) ∧ Below w.heap.size w w' :=
  (eqBytes_gr v u l m w hv hu).mono fun e w' ⟨h1, h2⟩ => ⟨by rw [h1]; simp [h], h2⟩
theorem kept_gr (v u : Value) (l : List UInt8) (base : Nat) (w : World) (hv : Roomed w base v l) (hu : Rd w u l) :
    Calls Try.prog 20 #[v, u] w fun e w' => e = .returned (.bool true) ∧ Below w.heap.size w w' :=
  (kept_any v u l base w hv hu).mono fun e w' ⟨h1, n, h2⟩ => ⟨h1, by rw [h2]; exact gr_drewN w n⟩
end Go.Proofs.Ytfiblhdejglpaaa

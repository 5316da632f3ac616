/- The small functions of layer 11. Conditions: what comes in reads as it should. -/
import Derived.Test.YtjpemfciiakphaaDoorCookMath
import Derived.Test.YtjpemfciiakphaaDoorNumPG
import Derived.Test.YtjpemfciiakphaaDoorNumRG
import Derived.Test.YtjpemfciiakphaaDoorRowV
import Derived.Test.YtjpemfciiakphaaDoorApartMath
namespace Go.FL
open Go.RowKit
/-- A cookie as a value. -/
def CookD.cells (c : CookD) : List Value := [.int .i64 c.born, .int .u32 (c.ot : Int), .int .u32 (c.pt : Int), .int .u32 (c.otsn : Int), .int .u32 (c.ptsn : Int), .int .u32 (c.rw : Int), .int .u16 (c.out : Int), .int .u16 (c.in_ : Int)]
def CookD.val (c : CookD) : Value := .agg #[.int .i64 c.born, .int .u32 (c.ot : Int), .int .u32 (c.pt : Int), .int .u32 (c.otsn : Int), .int .u32 (c.ptsn : Int), .int .u32 (c.rw : Int), .int .u16 (c.out : Int), .int .u16 (c.in_ : Int)]
theorem RowV.eight {w : World} {g e : Nat} {a b c d a' b' c' d' : Value} (h : RowV w g e [a, b, c, d, a', b', c', d']) : w.cell? ⟨g, 0, none⟩ = some a ∧ w.cell? ⟨g, 1, none⟩ = some b ∧ w.cell? ⟨g, 2, none⟩ = some c ∧ w.cell? ⟨g, 3, none⟩ = some d ∧ w.cell? ⟨g, 4, none⟩ = some a' ∧ w.cell? ⟨g, 5, none⟩ = some b' ∧ w.cell? ⟨g, 6, none⟩ = some c' ∧ w.cell? ⟨g, 7, none⟩ = some d' :=
  ⟨h.at 0 (by simp), h.at 1 (by simp), h.at 2 (by simp), h.at 3 (by simp), h.at 4 (by simp), h.at 5 (by simp), h.at 6 (by simp), h.at 7 (by simp)⟩
theorem strNums_list (l : List UInt8) : (strOfNums (l.map fun b => (b.toNat : Int))).toList = l := by
  rw [ByteArray.toList_eq, strOfNums_data, List.map_map]
  conv => rhs; rw [← List.map_id l]
  apply List.map_congr_left
  intro b _
  simp
theorem wrap_span (now born : Int) (h : born ≤ now) (h1 : -9223372036854775808 ≤ now ∧ now < 9223372036854775808) (h2 : -9223372036854775808 ≤ born ∧ born < 9223372036854775808) : IntKind.u64.wrap (IntKind.u64.wrap now - IntKind.u64.wrap born) = now - born := by
  simp only [IntKind.wrap, IntKind.signed, IntKind.bits]
  simp
  omega
def freshB (born now life : Int) : Bool := decide (0 ≤ life ∧ born ≤ now ∧ now - born ≤ life)
end Go.FL
namespace Go.Proofs.YtjpemfciiakphaaDoor
open Go.RowKit Go.FL

theorem twin_any (v : Value) (l : List UInt8) (w : World) (h : Rd w v l) (hs : l.length ≤ 140737488355320) :
    Calls Tryd.prog 10 #[v] w (RetOwn w 5 l) := by
  have HV := hid h
  obtain ⟨p, c, rfl, hlc, hcm, hpn, hcell⟩ := h
  unfold maxLen at hcm
  clear hcell
  have HE := hid (show Own (w.alloc (.cells #[] 5 (0, 0))) w.heap.size 5 (.slice (some ⟨w.heap.size, 0, none⟩) 0 0) [] from .inr ⟨w.heap.size, [], Nat.le_refl _, rfl, Row.new w 5 [], by unfold maxLen; simp⟩)
  have G0 := hid (show Below w.heap.size w (w.alloc (.cells #[] 5 (0, 0))) from (Below.refl _ _).alloc (Nat.le_refl _) _)
  go_enter Tryd.func10, Tryd.ntmps10
  go_wp2_with (at_builtin; refine wpList_append_Own rfl (.tmp 3) (.tmp 4) 22 rfl w.heap.size 5 Tryd.underlying22 infoU8o _ _ [] l rfl HE.out rfl (HV.out.mono G0.out) (by simp; omega) G0.out.size ?_)
  intro v2 w2 ho2 hg2
  go_wp2_with fail
  go_ret
  exact ⟨_, rfl, ho2, G0.out.grown hg2 G0.out.size (fun k hk => HE.out.ge k hk)⟩

theorem sameStr_any (v u : Value) (l m : List UInt8) (w : World) (h : Rd w v l) (k : Rd w u m) :
    Calls Tryd.prog 11 #[v, u] w fun e w' => e = .returned (.bool (decide (l = m))) ∧ w = w' := by
  obtain ⟨x, hx⟩ : ∃ x, x = strOfNums (l.map fun b => (b.toNat : Int)) := ⟨_, rfl⟩
  obtain ⟨y, hy⟩ : ∃ y, y = strOfNums (m.map fun b => (b.toNat : Int)) := ⟨_, rfl⟩
  have c1 := run_convert_rd (P := Tryd.prog) w 22 5 9 Tryd.underlying22 Tryd.underlying5 Tryd.underlying9 _ _ h
  have c2 := run_convert_rd (P := Tryd.prog) w 22 5 9 Tryd.underlying22 Tryd.underlying5 Tryd.underlying9 _ _ k
  rw [strOf, ← hx] at c1
  rw [strOf, ← hy] at c2
  have HQ := hid (show decide (l = m) = (x.toList == y.toList) by
    rw [hx, hy, strNums_list, strNums_list, Bool.eq_iff_iff]
    simp only [decide_eq_true_eq, beq_iff_eq])
  obtain ⟨p, n, c, rfl⟩ := h.form
  obtain ⟨q, n2, c', rfl⟩ := k.form
  clear hx hy h k
  go_enter Tryd.func11, Tryd.ntmps11
  go_wp2_with fail
  go_ret
  exact ⟨by rw [HQ.out]; rfl, rfl⟩

theorem number_any (v : Value) (l : List UInt8) (a n : Nat) (A' N : Int) (hA : A' = (a : Int)) (hN : N = (n : Int)) (hn : n = 1 ∨ n = 2 ∨ n = 4 ∨ n = 8) (w : World) (h : Rd w v l) (hs : l.length ≤ 140737488355320) :
    Calls Tryd.prog 29 #[v, .int .i64 A', .int .i64 N] w fun e w' => e = .returned (.int .u64 (numAt l a n : Int)) ∧ Below w.heap.size w w' := by
  subst hA hN
  have HV := hid h
  have HS := hid hs
  have HN := hid hn
  obtain ⟨p, k, c, rfl⟩ := h.form
  clear h hs hn
  go_enter Tryd.func29, Tryd.ntmps29
  go_wp2_with fail
  refine (refGet_at _ l a n _ _ rfl rfl HN.out _ HV.out HS.out).mono ?_
  rintro e w1 ⟨er, rfl, hb, _⟩
  go_wp2_with fail
  all_goals go_ret
  all_goals exact ⟨rfl, hb⟩

theorem fresh_walk (c : CookD) (hc : c.wf) (now life : Int) (h1 : -9223372036854775808 ≤ now ∧ now < 9223372036854775808) (h2 : -9223372036854775808 ≤ life ∧ life < 9223372036854775808) (w : World) :
    Calls Tryd.prog 16 #[c.val, .int .i64 now, .int .i64 life] w fun e w' => e = .returned (.bool (freshB c.born now life)) ∧ Below w.heap.size w w' := by
  obtain ⟨⟨hb1, hb2⟩, _⟩ := hc
  obtain ⟨born, ot, pt, otsn, ptsn, rwn, out, in_⟩ := c
  simp only [CookD.val] at *
  by_cases a1 : 0 ≤ life
  · by_cases a2 : born ≤ now
    · have HW := hid (wrap_span now born a2 h1 ⟨hb1, hb2⟩)
      go_enter Tryd.func16, Tryd.ntmps16
      go_wp2_with fail
      go_ret
      exact ⟨by rw [HW.out]; simp [freshB, a1, a2], (Below.refl _ _).alloc (Nat.le_refl _) _⟩
    · go_enter Tryd.func16, Tryd.ntmps16
      go_wp2_with fail
      go_ret
      exact ⟨by simp [freshB, a1, a2]; omega, (Below.refl _ _).alloc (Nat.le_refl _) _⟩
  · go_enter Tryd.func16, Tryd.ntmps16
    go_wp2_with fail
    go_ret
    exact ⟨by simp [freshB, a1]; omega, (Below.refl _ _).alloc (Nat.le_refl _) _⟩

theorem may_walk (c : CookD) (w : World) :
    Calls Tryd.prog 28 #[c.val] w fun e w' => e = .returned (.bool (decide c.may)) ∧ Below w.heap.size w w' := by
  obtain ⟨born, ot, pt, otsn, ptsn, rwn, out, in_⟩ := c
  simp only [CookD.val, CookD.may] at *
  have z1 : ∀ n : Nat, n ≠ 0 → ((n : Int) != 0) = true := fun n h => by simp; omega
  have z2 : ∀ n : Nat, n ≠ 0 → (0 : Int) < (n : Int) := fun n h => by omega
  by_cases a1 : 0 ≤ born
  · by_cases a2 : ot = 0
    · subst a2
      go_enter Tryd.func28, Tryd.ntmps28
      go_wp2_with fail
      go_ret
      exact ⟨by simp, (Below.refl _ _).alloc (Nat.le_refl _) _⟩
    · have f2 := z1 _ a2
      by_cases a3 : pt = 0
      · subst a3
        go_enter Tryd.func28, Tryd.ntmps28
        go_wp2_with fail
        go_ret
        exact ⟨by simp, (Below.refl _ _).alloc (Nat.le_refl _) _⟩
      · have f3 := z1 _ a3
        by_cases a4 : out = 0
        · subst a4
          go_enter Tryd.func28, Tryd.ntmps28
          go_wp2_with fail
          go_ret
          exact ⟨by simp, (Below.refl _ _).alloc (Nat.le_refl _) _⟩
        · have f4 := z2 _ a4
          have f5 : (1 : Int) ≤ (out : Int) := by omega
          go_enter Tryd.func28, Tryd.ntmps28
          go_wp2_with fail
          go_ret
          exact ⟨by simp [a1, a2, a3, a4]; rw [Bool.eq_iff_iff]; simp; omega, (Below.refl _ _).alloc (Nat.le_refl _) _⟩
  · go_enter Tryd.func28, Tryd.ntmps28
    go_wp2_with fail
    go_ret
    exact ⟨by simp [show ¬ 0 ≤ born by omega], (Below.refl _ _).alloc (Nat.le_refl _) _⟩
theorem refFresh_walk (c : CookD) (hc : c.wf) (now life : Int) (h1 : -9223372036854775808 ≤ now ∧ now < 9223372036854775808) (h2 : -9223372036854775808 ≤ life ∧ life < 9223372036854775808) (w : World) :
    Calls Tryd.prog 17 #[c.val, .int .i64 now, .int .i64 life] w fun e w' => e = .returned (.bool (freshB c.born now life)) ∧ Below w.heap.size w w' := by
  obtain ⟨⟨hb1, hb2⟩, _⟩ := hc
  obtain ⟨born, ot, pt, otsn, ptsn, rwn, out, in_⟩ := c
  simp only [CookD.val] at *
  by_cases a1 : 0 ≤ life
  · by_cases a2 : born ≤ now
    · have HW := hid (wrap_span now born a2 h1 ⟨hb1, hb2⟩)
      go_enter Tryd.func17, Tryd.ntmps17
      go_wp2_with fail
      go_ret
      exact ⟨by rw [HW.out]; simp [freshB, a1, a2], (Below.refl _ _).alloc (Nat.le_refl _) _⟩
    · go_enter Tryd.func17, Tryd.ntmps17
      go_wp2_with fail
      go_ret
      exact ⟨by simp [freshB, a1, a2]; omega, (Below.refl _ _).alloc (Nat.le_refl _) _⟩
  · go_enter Tryd.func17, Tryd.ntmps17
    go_wp2_with fail
    go_ret
    exact ⟨by simp [freshB, a1]; omega, (Below.refl _ _).alloc (Nat.le_refl _) _⟩

theorem refMay_walk (c : CookD) (w : World) :
    Calls Tryd.prog 30 #[c.val] w fun e w' => e = .returned (.bool (decide c.may)) ∧ Below w.heap.size w w' := by
  obtain ⟨born, ot, pt, otsn, ptsn, rwn, out, in_⟩ := c
  simp only [CookD.val, CookD.may] at *
  have z1 : ∀ n : Nat, n ≠ 0 → ((n : Int) != 0) = true := fun n h => by simp; omega
  have z2 : ∀ n : Nat, n ≠ 0 → (0 : Int) < (n : Int) := fun n h => by omega
  by_cases a1 : 0 ≤ born
  · by_cases a2 : ot = 0
    · subst a2
      go_enter Tryd.func30, Tryd.ntmps30
      go_wp2_with fail
      go_ret
      exact ⟨by simp, (Below.refl _ _).alloc (Nat.le_refl _) _⟩
    · have f2 := z1 _ a2
      by_cases a3 : pt = 0
      · subst a3
        go_enter Tryd.func30, Tryd.ntmps30
        go_wp2_with fail
        go_ret
        exact ⟨by simp, (Below.refl _ _).alloc (Nat.le_refl _) _⟩
      · have f3 := z1 _ a3
        by_cases a4 : out = 0
        · subst a4
          go_enter Tryd.func30, Tryd.ntmps30
          go_wp2_with fail
          go_ret
          exact ⟨by simp, (Below.refl _ _).alloc (Nat.le_refl _) _⟩
        · have f4 := z2 _ a4
          have f5 : (1 : Int) ≤ (out : Int) := by omega
          go_enter Tryd.func30, Tryd.ntmps30
          go_wp2_with fail
          go_ret
          exact ⟨by simp [a1, a2, a3, a4]; rw [Bool.eq_iff_iff]; simp; omega, (Below.refl _ _).alloc (Nat.le_refl _) _⟩
  · go_enter Tryd.func30, Tryd.ntmps30
    go_wp2_with fail
    go_ret
    exact ⟨by simp [show ¬ 0 ≤ born by omega], (Below.refl _ _).alloc (Nat.le_refl _) _⟩
end Go.Proofs.YtjpemfciiakphaaDoor

/- packet.may and the document's May; sizes of packets. Conditions: what comes in reads as it should. -/
import Derived.Test.YtahpklciafpdaaaPktMath
import Derived.Test.YtahpklciafpdaaaChunksOpen
import Derived.Test.YtahpklciafpdaaaChunkMoreP
import Derived.Test.YtahpklciafpdaaaBaseC
import Derived.Test.YtahpklciafpdaaaBaseD
set_option linter.unusedSimpArgs false
set_option linter.unusedVariables false
namespace Go.FL
open Go.RowKit
theorem byteEqP (x c : UInt8) : (x.toNat : Int) = (c.toNat : Int) ↔ x = c := by
  rw [← UInt8.toNat_inj]
  omega
theorem kind_eq (k c : UInt8) (C : Int) (hC : C = (c.toNat : Int)) : ((k.toNat : Int) == C) = decide (k = c) := by
  subst hC
  rw [Bool.eq_iff_iff]
  simp only [beq_iff_eq, decide_eq_true_eq]
  exact byteEqP k c
theorem any_take {α : Type} (l : List α) (f : α → Bool) (i : Nat) (h : i < l.length) : (l.take (i + 1)).any f = ((l.take i).any f || f l[i]) := by
  rw [List.take_succ_eq_append_getElem h, List.any_append]
  simp
theorem any_of_take {α : Type} (l : List α) (f : α → Bool) (i : Nat) (h : (l.take i).any f = true) : l.any f = true := by
  rw [List.any_eq_true] at h ⊢
  obtain ⟨x, hx, hf⟩ := h
  exact ⟨x, List.mem_of_mem_take hx, hf⟩
/-- A packet by value. -/
def PktAt (w : World) (v : Value) (p : Pkt) : Prop := ∃ s, v = .agg #[.int .u32 (p.tag : Int), s] ∧ ChunksAt w s p.cs ∧ p.tag < 4294967296
theorem PktAt.mono {w w' : World} {v : Value} {p : Pkt} (h : PktAt w v p) (hb : Below w.heap.size w w') : PktAt w' v p := by
  obtain ⟨s, h1, h2, h3⟩ := h
  exact ⟨s, h1, h2.mono hb, h3⟩
end Go.FL
namespace Go.Proofs.Ytahpklciafpdaaa
open Go.RowKit Go.FL Go.ChangeShapes

theorem alone_any (k : UInt8) (w : World) : Calls Try.prog 29 #[.int .u8 (k.toNat : Int)] w fun e w' => e = .returned (.bool (aloneB k)) ∧ w = w' := by
  obtain ⟨b1, hb1⟩ : ∃ b, b = decide (k = 1) := ⟨_, rfl⟩
  obtain ⟨b2, hb2⟩ : ∃ b, b = decide (k = 2) := ⟨_, rfl⟩
  obtain ⟨b3, hb3⟩ : ∃ b, b = decide (k = 14) := ⟨_, rfl⟩
  have h1 : ((k.toNat : Int) == 1) = b1 := by rw [kind_eq k 1 1 rfl, hb1]
  have h2 : ((k.toNat : Int) == 2) = b2 := by rw [kind_eq k 2 2 rfl, hb2]
  have h3 : ((k.toNat : Int) == 14) = b3 := by rw [kind_eq k 14 14 rfl, hb3]
  have hkb := byte_lt k
  rw [show aloneB k = (b1 || (b2 || b3)) by rw [hb1, hb2, hb3]; rfl]
  clear hb1 hb2 hb3
  cases b1 <;> cases b2 <;> cases b3
  all_goals
    go_enter Try.func29, Try.ntmps29
    go_wp2_with fail
    go_ret
    exact ⟨rfl, rfl⟩
theorem ralone_any (k : UInt8) (w : World) : Calls Try.prog 30 #[.int .u8 (k.toNat : Int)] w fun e w' => e = .returned (.bool (aloneB k)) ∧ w = w' := by
  obtain ⟨b1, hb1⟩ : ∃ b, b = decide (k = 1) := ⟨_, rfl⟩
  obtain ⟨b2, hb2⟩ : ∃ b, b = decide (k = 2) := ⟨_, rfl⟩
  obtain ⟨b3, hb3⟩ : ∃ b, b = decide (k = 14) := ⟨_, rfl⟩
  have h1 : ((k.toNat : Int) == 1) = b1 := by rw [kind_eq k 1 1 rfl, hb1]
  have h2 : ((k.toNat : Int) == 2) = b2 := by rw [kind_eq k 2 2 rfl, hb2]
  have h3 : ((k.toNat : Int) == 14) = b3 := by rw [kind_eq k 14 14 rfl, hb3]
  have hkb := byte_lt k
  rw [show aloneB k = (b1 || (b2 || b3)) by rw [hb1, hb2, hb3]; rfl]
  clear hb1 hb2 hb3
  cases b1 <;> cases b2 <;> cases b3
  all_goals
    go_enter Try.func30, Try.ntmps30
    go_wp2_with fail
    go_ret
    exact ⟨rfl, rfl⟩

set_option maxRecDepth 20000 in
theorem may1_any (c : Chk) (v : Value) (g : Nat) (p : Option Addr) (n cc : Nat) (w : World) (h : ChkAt w v c) (hg : RowV w g 23 [.slice p n cc]) :
    Calls Try.prog 49 #[v, .pointer (some ⟨g, 0, none⟩)] w fun e w' => e = .returned (.bool (wrongB n c)) ∧ Below w.heap.size w w' := by
  obtain ⟨s, rfl, ps, cps, rfl, hlc, hcm, -, -⟩ := h
  unfold maxLen at hcm
  obtain ⟨k, f, b⟩ := c
  simp only at *
  have G := hid (show Below w.heap.size w (w.alloc (.cells #[.int .u8 (k.toNat : Int), .int .u8 (f.toNat : Int), .slice ps b.length cps] 41 (0, 0))) from (Below.refl _ _).alloc (Nat.le_refl _) _)
  have g0 := (hg.mono G.out).at 0 (by simp)
  simp only [List.getElem_cons_zero] at g0
  obtain ⟨ba, hba⟩ : ∃ x, x = aloneB k := ⟨_, rfl⟩
  have HBA := hid hba
  have HW := hid (show wrongB n ⟨k, f, b⟩ = (decide (65531 < b.length) || (ba && decide (1 < n))) by rw [hba]; rfl)
  clear hba
  have hkb := byte_lt k
  by_cases hbig : 65531 < b.length
  · have e1 : (65531 : Int) < (b.length : Int) := by omega
    rw [HW.out, decide_eq_true hbig]
    clear hbig
    go_enter Try.func49, Try.ntmps49
    go_wp2_with fail
    go_ret
    exact ⟨rfl, G.out⟩
  · have e1 : ¬ (65531 : Int) < (b.length : Int) := by omega
    rw [HW.out, decide_eq_false hbig]
    clear hbig
    have e2 : decide ((1 : Int) < (n : Int)) = decide (1 < n) := by rw [Bool.eq_iff_iff]; simp; omega
    go_enter Try.func49, Try.ntmps49
    go_wp2_with fail
    refine (alone_any k _).mono ?_
    rintro e w' ⟨rfl, rfl⟩
    rw [← HBA.out]
    clear HW HBA
    cases ba
    · go_wp2_with fail
      go_ret
      exact ⟨rfl, G.out⟩
    · go_wp2_with fail
      go_ret
      exact ⟨by simp, G.out⟩

set_option maxRecDepth 20000 in
set_option maxHeartbeats 1000000 in
theorem idx_any (cs : List Chk) (v : Value) (g : Nat) (p : Option Addr) (m cc : Nat) (w : World) (h : ChunksAt w v cs) (hg : RowV w g 23 [.slice p m cc]) :
    Calls Try.prog 64 #[v, .func (.func 49) #[] #[.pointer (some ⟨g, 0, none⟩)]] w
      fun e w' => ∃ r : Int, e = .returned (.int .i64 r) ∧ (decide (0 ≤ r) = cs.any (wrongB m)) ∧ Below w.heap.size w w' := by
  have HX := hid h
  have HG := hid hg
  obtain ⟨q, cp, rfl, hlc, hcm, hel⟩ := h
  have HEL := hid hel
  unfold maxLen at hcm
  clear hel hg
  obtain ⟨n, hn⟩ : ∃ n, n = cs.length := ⟨_, rfl⟩
  have HN := hid hn
  rw [← hn] at HX hlc ⊢
  clear hn
  go_enter Try.func64, Try.ntmps64
  go_wp2_with fail
  go_loopw [8] (fun y wr => ∃ i : Nat, i ≤ n ∧ y = .int .i64 (i : Int) ∧ Hid ((cs.take i).any (wrongB m) = false) ∧ Hid (Below w.heap.size w wr)) (fun y _ => n - (intOf y).toNat)
  case atStart => exact ⟨0, Nat.zero_le _, rfl, hid rfl, hid (Below.refl _ _)⟩
  case round =>
    obtain ⟨i, hi, rfl, HA, HB⟩ := hrel
    by_cases hlt : i < n
    · have hlt2 : i < cs.length := by rw [← HN.out]; exact hlt
      obtain ⟨gb, go, sl, rfl, k0, k1, k2, hrd⟩ := HEL.out i hlt2
      have h0 := cell?_of_below HB.out k0
      have h1 := cell?_of_below HB.out k1
      have h2 := cell?_of_below HB.out k2
      have HAT := hid (any_take cs (wrongB m) i hlt2)
      have HSL := hid (hrd.mono HB.out)
      have i0 : (0 : Int) ≤ (i : Int) := by omega
      have i1 : (i : Int) < (n : Int) := by omega
      have i2 : ((i : Int)).toNat = i := by omega
      generalize cs[i] = cx at *
      obtain ⟨kk, ff, b⟩ := cx
      simp only at h0 h1 h2 hrd HSL
      obtain ⟨ps, cps, rfl, -, -, -, -⟩ := hrd
      clear k0 k1 k2 hlt2
      go_wp2_with fail
      refine (may1_any ⟨kk, ff, b⟩ _ g p m cc _ ⟨_, rfl, HSL.out⟩ (HG.out.mono HB.out)).mono ?_
      rintro e w1 ⟨rfl, hb1⟩
      have HB1 := hid (gr_trans HB.out hb1)
      obtain ⟨q, hq⟩ : ∃ q, q = wrongB m ⟨kk, ff, b⟩ := ⟨_, rfl⟩
      rw [← hq]
      rw [← hq] at HAT
      clear hb1 h0 h1 h2 hq
      cases q
      · go_wp2_with fail
        go_roundw
        case rel => exact ⟨i + 1, by omega, by go_num, hid (by rw [HAT.out, HA.out]; rfl), HB1⟩
        case measure => simp [intOf]; omega
      · go_wp2_with fail
        go_ret
        refine ⟨(i : Int), rfl, ?_, HB1.out⟩
        rw [any_of_take cs (wrongB m) (i + 1) (by rw [HAT.out]; simp)]
        simp
    · obtain rfl : i = n := by omega
      go_wp2_with fail
      go_ret
      refine ⟨-1, rfl, ?_, HB.out⟩
      have := HA.out
      rw [List.take_of_length_le (by rw [← HN.out]; exact Nat.le_refl _)] at this
      rw [this]
      rfl
theorem contains_any (cs : List Chk) (v : Value) (g : Nat) (p : Option Addr) (m cc : Nat) (w : World) (h : ChunksAt w v cs) (hg : RowV w g 23 [.slice p m cc]) :
    Calls Try.prog 50 #[v, .func (.func 49) #[] #[.pointer (some ⟨g, 0, none⟩)]] w
      fun e w' => e = .returned (.bool (cs.any (wrongB m))) ∧ Below w.heap.size w w' := by
  have HX := hid h
  have HG := hid hg
  obtain ⟨q, cp, rfl, hlc, hcm, -⟩ := h
  clear hg
  go_enter Try.func50, Try.ntmps50
  go_wp2_with fail
  refine (idx_any cs _ g p m cc _ HX.out HG.out).mono ?_
  rintro e w1 ⟨r, rfl, hr, hb1⟩
  have HR := hid hr
  clear hr
  go_wp2_with fail
  go_ret
  exact ⟨by rw [← HR.out]; rfl, hb1⟩

set_option maxRecDepth 20000 in
theorem may_any (cs : List Chk) (v : Value) (w : World) (h : ChunksAt w v cs) :
    Calls Try.prog 31 #[v] w fun e w' => e = .returned (.bool (mayB cs)) ∧ Below w.heap.size w w' := by
  have HX := hid h
  obtain ⟨q, cp, rfl, hlc, hcm, -⟩ := h
  unfold maxLen at hcm
  have HM := hid (show mayB cs = (decide (0 < cs.length) && !(cs.any (wrongB cs.length))) from rfl)
  obtain ⟨n, hn⟩ : ∃ n, n = cs.length := ⟨_, rfl⟩
  rw [← hn] at HX HM hlc ⊢
  obtain ⟨W, hW⟩ : ∃ W, W = w.alloc (.cells #[.slice q n cp] 23 (0, 0)) := ⟨_, rfl⟩
  have HR := hid (show RowV W w.heap.size 23 [.slice q n cp] by rw [hW]; exact RowV.new w _ _)
  have G := hid (show Below w.heap.size w W by rw [hW]; exact (Below.refl _ _).alloc (Nat.le_refl _) _)
  have HE := hid hW
  obtain ⟨bb, hbb⟩ : ∃ x, x = cs.any (wrongB n) := ⟨_, rfl⟩
  have HBB := hid hbb
  rw [← hbb] at HM
  clear hn hW hbb
  by_cases h0 : 0 < n
  · have e1 : (0 : Int) < (n : Int) := by omega
    rw [HM.out, decide_eq_true h0]
    clear h0
    go_enter Try.func31, Try.ntmps31
    go_wp2_with fail
    rw [← HE.out]
    refine (contains_any cs _ w.heap.size q n cp _ (HX.out.mono G.out) HR.out).mono ?_
    rintro e w1 ⟨rfl, hb1⟩
    have G1 := hid (gr_trans G.out hb1)
    rw [← HBB.out]
    clear hb1
    go_wp2_with fail
    go_ret
    exact ⟨by simp, G1.out⟩
  · have e1 : ¬ (0 : Int) < (n : Int) := by omega
    rw [HM.out, decide_eq_false h0]
    clear h0
    go_enter Try.func31, Try.ntmps31
    go_wp2_with fail
    rw [← HE.out]
    go_ret
    exact ⟨rfl, G.out⟩
end Go.Proofs.Ytahpklciafpdaaa

/- The document's May; the sizes of packets. Conditions: what comes in reads as it should. -/
import Derived.Test.YtahpklciafpdaaaPktMay
set_option linter.unusedSimpArgs false
set_option linter.unusedVariables false
namespace Go.FL
open Go.RowKit
theorem sizesN_take_le : ∀ (cs : List Chk) (i : Nat), sizesN (cs.take i) ≤ sizesN cs
  | [], i => by simp
  | c :: cs, 0 => by simp [sizesN]
  | c :: cs, i + 1 => by
    rw [List.take_succ_cons, sizesN_cons, sizesN_cons]
    have := sizesN_take_le cs i
    omega
theorem sizesN_at (cs : List Chk) (i : Nat) (h : i < cs.length) : sizesN (cs.take i) + sizeC cs[i] ≤ sizesN cs := by
  rw [← sizesN_take cs i h]
  exact sizesN_take_le cs (i + 1)
end Go.FL
namespace Go.Proofs.Ytahpklciafpdaaa
open Go.RowKit Go.FL Go.ChangeShapes

set_option maxRecDepth 20000 in
set_option maxHeartbeats 1000000 in
theorem rmay_any (cs : List Chk) (v : Value) (w : World) (h : ChunksAt w v cs) :
    Calls Try.prog 36 #[v] w fun e w' => e = .returned (.bool (mayB cs)) ∧ Below w.heap.size w w' := by
  have HX := hid h
  obtain ⟨q, cp, rfl, hlc, hcm, hel⟩ := h
  have HEL := hid hel
  unfold maxLen at hcm
  clear hel
  obtain ⟨res, hres⟩ : ∃ r, r = mayB cs := ⟨_, rfl⟩
  rw [← hres]
  have HM := hid (show res = (decide (0 < cs.length) && !(cs.any (wrongB cs.length))) from hres)
  obtain ⟨n, hn⟩ : ∃ n, n = cs.length := ⟨_, rfl⟩
  have HN := hid hn
  rw [← hn] at HX HM hlc ⊢
  clear hn hres
  go_enter Try.func36, Try.ntmps36
  go_wp2_with fail
  go_loopw [3] (fun y wr => ∃ i : Nat, i ≤ n ∧ y = .int .i64 (i : Int) ∧ Hid ((cs.take i).any (wrongB n) = false) ∧ Hid (Below w.heap.size w wr)) (fun y _ => n - (intOf y).toNat)
  case atStart => exact ⟨0, Nat.zero_le _, rfl, hid rfl, hid (Below.refl _ _)⟩
  case round =>
    obtain ⟨i, hi, rfl, HA, HB⟩ := hrel
    by_cases hlt : i < n
    · have hlt2 : i < cs.length := by rw [← HN.out]; exact hlt
      obtain ⟨gb, go, sl, rfl, k0, k1, k2, hrd⟩ := HEL.out i hlt2
      have h0 := cell?_of_below HB.out k0
      have h1 := cell?_of_below HB.out k1
      have h2 := cell?_of_below HB.out k2
      have HAT := hid (any_take cs (wrongB n) i hlt2)
      have i0 : (0 : Int) ≤ (i : Int) := by omega
      have i1 : (i : Int) < (n : Int) := by omega
      have i2 : ((i : Int)).toNat = i := by omega
      have HBAD := hid (fun (hb : (cs.take (i + 1)).any (wrongB n) = true) => (show res = false by rw [HM.out, any_of_take cs (wrongB n) (i + 1) hb]; simp))
      generalize cs[i] = cx at *
      obtain ⟨kk, ff, b⟩ := cx
      simp only at h0 h1 h2 hrd
      obtain ⟨ps, cps, rfl, hls, hms, -, -⟩ := hrd
      unfold maxLen at hms
      obtain ⟨ba, hba⟩ : ∃ x, x = aloneB kk := ⟨_, rfl⟩
      have HBA := hid hba
      have HW := hid (show wrongB n ⟨kk, ff, b⟩ = (decide (65531 < b.length) || (ba && decide (1 < n))) by rw [hba]; rfl)
      have hkb := byte_lt kk
      clear k0 k1 k2 hlt2 hba
      by_cases hbig : 65531 < b.length
      · have e1 : (65531 : Int) < (b.length : Int) := by omega
        have HR := hid (HBAD.out (by rw [HAT.out, HW.out, decide_eq_true hbig]; simp))
        clear hbig HBAD
        go_wp2_with fail
        go_ret
        exact ⟨by rw [HR.out]; rfl, HB.out⟩
      · have e1 : ¬ (65531 : Int) < (b.length : Int) := by omega
        go_wp2_with fail
        refine (ralone_any kk _).mono ?_
        rintro e w' ⟨rfl, rfl⟩
        rw [← HBA.out]
        clear HBA
        cases ba
        · have HN2 := hid (show (cs.take (i + 1)).any (wrongB n) = false by rw [HAT.out, HW.out, HA.out, decide_eq_false hbig]; rfl)
          clear hbig HBAD
          go_wp2_with fail
          go_roundw
          case rel => exact ⟨i + 1, by omega, by go_num, HN2, HB⟩
          case measure => simp [intOf]; omega
        · by_cases h1n : 1 < n
          · have e2 : (1 : Int) < (n : Int) := by omega
            have HR := hid (HBAD.out (by rw [HAT.out, HW.out, decide_eq_true h1n]; simp))
            clear hbig HBAD h1n
            go_wp2_with fail
            go_ret
            exact ⟨by rw [HR.out]; rfl, HB.out⟩
          · have e2 : ¬ (1 : Int) < (n : Int) := by omega
            have HN2 := hid (show (cs.take (i + 1)).any (wrongB n) = false by rw [HAT.out, HW.out, HA.out, decide_eq_false hbig, decide_eq_false h1n]; rfl)
            clear hbig HBAD h1n
            go_wp2_with fail
            go_roundw
            case rel => exact ⟨i + 1, by omega, by go_num, HN2, HB⟩
            case measure => simp [intOf]; omega
    · obtain rfl : i = n := by omega
      have HR := hid (show res = decide (0 < i) by
        have := HA.out
        rw [List.take_of_length_le (by rw [← HN.out]; exact Nat.le_refl _)] at this
        rw [HM.out, this]
        simp)
      have e3 : decide ((0 : Int) < (i : Int)) = decide (0 < i) := by simp
      go_wp2_with fail
      go_ret
      exact ⟨by rw [HR.out]; simp, HB.out⟩

theorem csize_any (c : Chk) (v : Value) (w : World) (h : ChkAt w v c) (hl : c.b.length ≤ 1000000000000) :
    Calls Try.prog 35 #[v] w fun e w' => e = .returned (.int .i64 (sizeC c : Int)) ∧ Below w.heap.size w w' := by
  obtain ⟨s, rfl, ps, cps, rfl, hlc, hcm, -, -⟩ := h
  unfold maxLen at hcm
  obtain ⟨k, f, b⟩ := c
  simp only at *
  have G := hid (show Below w.heap.size w (w.alloc (.cells #[.int .u8 (k.toNat : Int), .int .u8 (f.toNat : Int), .slice ps b.length cps] 41 (0, 0))) from (Below.refl _ _).alloc (Nat.le_refl _) _)
  have hr := roundN_lt b.length
  obtain ⟨r, hr2⟩ : ∃ r, r = roundN b.length := ⟨_, rfl⟩
  have HRR := hid hr2
  rw [← hr2] at hr
  obtain ⟨sz, hsz⟩ : ∃ x, x = sizeC ⟨k, f, b⟩ := ⟨_, rfl⟩
  have hsz2 : sz = 4 + r := by rw [hsz, sizeC, hr2]
  rw [← hsz]
  have hw : IntKind.i64.wrap ((4 : Int) + (r : Int)) = (sz : Int) := by rw [IntKind.wrap_i64]; omega
  clear hsz hsz2 hr2
  go_enter Try.func35, Try.ntmps35
  go_wp2_with fail
  refine (round_any (b.length : Int) _ (by simp [Lit.wf, IntKind.min, IntKind.max, IntKind.signed, IntKind.bits]; omega)).mono ?_
  rintro e w' ⟨rfl, rfl⟩
  rw [roundI_nat _ (by omega), ← HRR.out]
  go_wp2_with fail
  go_ret
  exact ⟨rfl, G.out⟩

set_option maxRecDepth 20000 in
set_option maxHeartbeats 1000000 in
theorem psize_any (p : Pkt) (v : Value) (w : World) (h : PktAt w v p) (hs : sizesN p.cs ≤ 100000000000) :
    Calls Try.prog 15 #[v] w fun e w' => e = .returned (.int .i64 (p.size : Int)) ∧ Below w.heap.size w w' := by
  obtain ⟨s, rfl, hcs, ht⟩ := h
  obtain ⟨tag, cs⟩ := p
  simp only at *
  obtain ⟨q, cp, rfl, hlc, hcm, hel⟩ := hcs
  have HEL := hid hel
  unfold maxLen at hcm
  clear hel
  have HPS := hid (show (Pkt.mk tag cs).size = 12 + sizesN cs from rfl)
  rw [HPS.out]
  obtain ⟨n, hn⟩ : ∃ n, n = cs.length := ⟨_, rfl⟩
  have HN := hid hn
  rw [← hn] at hlc ⊢
  clear hn
  obtain ⟨W, hW⟩ : ∃ W, W = w.alloc (.cells #[.int .u32 (tag : Int), .slice q n cp] 25 (0, 0)) := ⟨_, rfl⟩
  have HR := hid (show RowV W w.heap.size 25 [.int .u32 (tag : Int), .slice q n cp] by rw [hW]; exact RowV.new w _ _)
  have G := hid (show Below w.heap.size w W by rw [hW]; exact (Below.refl _ _).alloc (Nat.le_refl _) _)
  have r1 := HR.out.at 1 (by simp)
  simp only [List.getElem_cons_succ, List.getElem_cons_zero] at r1
  rw [hW] at r1
  have HE := hid hW
  clear hW
  go_enter Try.func15, Try.ntmps15
  go_wp2_with fail
  rw [← HE.out]
  clear r1
  go_loopw [3, 9] (fun y y9 wr => ∃ i a : Nat, i ≤ n ∧ y9 = .int .i64 (i : Int) ∧ y = .int .i64 (a : Int) ∧ Hid (a = 12 + sizesN (cs.take i)) ∧ Hid (Below w.heap.size w wr)) (fun _ y9 _ => n - (intOf y9).toNat)
  case atStart => exact ⟨0, 12, Nat.zero_le _, rfl, rfl, hid (by simp [sizesN]), G⟩
  case round =>
    obtain ⟨i, a, hi, rfl, rfl, HA, HB⟩ := hrel
    by_cases hlt : i < n
    · have hlt2 : i < cs.length := by rw [← HN.out]; exact hlt
      obtain ⟨gb, go, sl, rfl, k0, k1, k2, hrd⟩ := HEL.out i hlt2
      have h0 := cell?_of_below HB.out k0
      have h1 := cell?_of_below HB.out k1
      have h2 := cell?_of_below HB.out k2
      have HST := hid (sizesN_take cs i hlt2)
      have HLE := hid (sizesN_at cs i hlt2)
      have HSL := hid (hrd.mono HB.out)
      have i0 : (0 : Int) ≤ (i : Int) := by omega
      have i1 : (i : Int) < (n : Int) := by omega
      have i2 : ((i : Int)).toNat = i := by omega
      generalize cs[i] = cx at *
      have hsc : cx.b.length ≤ sizeC cx := by unfold sizeC; have := roundN_le cx.b.length; omega
      have hbl : cx.b.length ≤ 1000000000000 := by have := HLE.out; omega
      obtain ⟨kk, ff, b⟩ := cx
      simp only at h0 h1 h2 hrd HSL hbl
      obtain ⟨ps, cps, rfl, -, -, -, -⟩ := hrd
      obtain ⟨sz, hsz⟩ : ∃ x, x = sizeC ⟨kk, ff, b⟩ := ⟨_, rfl⟩
      rw [← hsz] at HST HLE
      have HSZ := hid hsz
      obtain ⟨a2, ha2⟩ : ∃ x, x = a + sz := ⟨_, rfl⟩
      have hw : IntKind.i64.wrap ((a : Int) + (sz : Int)) = (a2 : Int) := by rw [IntKind.wrap_i64]; have := HLE.out; have := HA.out; omega
      have HA2 := hid (show a2 = 12 + sizesN (cs.take (i + 1)) by rw [ha2, HST.out, HA.out]; omega)
      have GA := hid (show Below w.heap.size w (wr.alloc (.cells #[.int .u8 (kk.toNat : Int), .int .u8 (ff.toNat : Int), .slice ps b.length cps] 41 (0, 0))) from HB.out.alloc HB.out.size _)
      have HSA := hid (HSL.out.mono ((Below.refl wr.heap.size wr).alloc (Nat.le_refl _) (.cells #[.int .u8 (kk.toNat : Int), .int .u8 (ff.toNat : Int), .slice ps b.length cps] 41 (0, 0))))
      clear k0 k1 k2 hlt2 hsc hsz ha2
      go_wp2_with fail
      refine (csize_any ⟨kk, ff, b⟩ _ _ ⟨_, rfl, HSA.out⟩ hbl).mono ?_
      rintro e w1 ⟨rfl, hb1⟩
      rw [← HSZ.out]
      have HB1 := hid (gr_trans GA.out hb1)
      clear hb1 h0 h1 h2
      go_wp2_with fail
      go_roundw
      case rel => exact ⟨i + 1, a2, by omega, by go_num, rfl, HA2, HB1⟩
      case measure => simp [intOf]; omega
    · obtain rfl : i = n := by omega
      have HR2 := hid (show a = 12 + sizesN cs by
        have := HA.out
        rwa [List.take_of_length_le (by rw [← HN.out]; exact Nat.le_refl _)] at this)
      go_wp2_with fail
      go_ret
      exact ⟨by rw [← HR2.out]; rfl, HB.out⟩

set_option maxRecDepth 20000 in
set_option maxHeartbeats 1000000 in
theorem rsize_any (p : Pkt) (v : Value) (w : World) (h : PktAt w v p) (hs : sizesN p.cs ≤ 100000000000) :
    Calls Try.prog 18 #[v] w fun e w' => e = .returned (.int .i64 (p.size : Int)) ∧ Below w.heap.size w w' := by
  obtain ⟨s, rfl, hcs, ht⟩ := h
  obtain ⟨tag, cs⟩ := p
  simp only at *
  obtain ⟨q, cp, rfl, hlc, hcm, hel⟩ := hcs
  have HEL := hid hel
  unfold maxLen at hcm
  clear hel
  have HPS := hid (show (Pkt.mk tag cs).size = 12 + sizesN cs from rfl)
  rw [HPS.out]
  obtain ⟨n, hn⟩ : ∃ n, n = cs.length := ⟨_, rfl⟩
  have HN := hid hn
  rw [← hn] at hlc ⊢
  clear hn
  obtain ⟨W, hW⟩ : ∃ W, W = w.alloc (.cells #[.int .u32 (tag : Int), .slice q n cp] 25 (0, 0)) := ⟨_, rfl⟩
  have HR := hid (show RowV W w.heap.size 25 [.int .u32 (tag : Int), .slice q n cp] by rw [hW]; exact RowV.new w _ _)
  have G := hid (show Below w.heap.size w W by rw [hW]; exact (Below.refl _ _).alloc (Nat.le_refl _) _)
  have HE := hid hW
  clear hW
  go_enter Try.func18, Try.ntmps18
  go_wp2_with fail
  rw [← HE.out]
  go_loopw [3, 4] (fun y y9 wr => ∃ i a : Nat, i ≤ n ∧ y9 = .int .i64 (i : Int) ∧ y = .int .i64 (a : Int) ∧ Hid (a = 12 + sizesN (cs.take i)) ∧ Hid (Below W.heap.size W wr)) (fun _ y9 _ => n - (intOf y9).toNat)
  case atStart => exact ⟨0, 12, Nat.zero_le _, rfl, rfl, hid (by simp [sizesN]), hid (Below.refl _ _)⟩
  case round =>
    obtain ⟨i, a, hi, rfl, rfl, HA, HB⟩ := hrel
    have HRr := hid (HR.out.mono HB.out)
    have r1 := HRr.out.at 1 (by simp)
    simp only [List.getElem_cons_succ, List.getElem_cons_zero] at r1
    by_cases hlt : i < n
    · have hlt2 : i < cs.length := by rw [← HN.out]; exact hlt
      obtain ⟨gb, go, sl, rfl, k0, k1, k2, hrd⟩ := HEL.out i hlt2
      have h2 := cell?_of_below (gr_trans G.out HB.out) k2
      have HST := hid (sizesN_take cs i hlt2)
      have HLE := hid (sizesN_at cs i hlt2)
      have i0 : (0 : Int) ≤ (i : Int) := by omega
      have i1 : (i : Int) < (n : Int) := by omega
      have i2 : ((i : Int)).toNat = i := by omega
      generalize cs[i] = cx at *
      obtain ⟨kk, ff, b⟩ := cx
      simp only at h2 hrd
      obtain ⟨ps, cps, rfl, hls, hms, -, -⟩ := hrd
      unfold maxLen at hms
      have hr := roundN_le b.length
      obtain ⟨r, hr2⟩ : ∃ r, r = roundN b.length := ⟨_, rfl⟩
      have HRR := hid hr2
      have hsz : sizeC ⟨kk, ff, b⟩ = 4 + r := by rw [hr2]; rfl
      rw [hsz] at HST HLE
      rw [← hr2] at hr
      obtain ⟨a4, ha4⟩ : ∃ x, x = a + 4 := ⟨_, rfl⟩
      obtain ⟨a2, ha2⟩ : ∃ x, x = a4 + r := ⟨_, rfl⟩
      have hw4 : IntKind.i64.wrap ((a : Int) + 4) = (a4 : Int) := by rw [IntKind.wrap_i64]; have := HLE.out; have := HA.out; omega
      have hw : IntKind.i64.wrap ((a4 : Int) + (r : Int)) = (a2 : Int) := by rw [IntKind.wrap_i64]; have := HLE.out; have := HA.out; omega
      have HA2 := hid (show a2 = 12 + sizesN (cs.take (i + 1)) by rw [ha2, ha4, HST.out, HA.out]; omega)
      have hbl : b.length ≤ 100000000000 := by have := HLE.out; omega
      clear k0 k1 k2 hlt2 hsz ha2 ha4 hr2 hr
      go_wp2_with fail
      refine (refRound_any (b.length : Int) _ (by simp [Lit.wf, IntKind.min, IntKind.max, IntKind.signed, IntKind.bits]; omega)).mono ?_
      rintro e w' ⟨rfl, rfl⟩
      rw [roundI_nat _ (by omega), ← HRR.out]
      go_wp2_with fail
      go_roundw
      case rel => exact ⟨i + 1, a2, by omega, by go_num, rfl, HA2, HB⟩
      case measure => simp [intOf]; omega
    · obtain rfl : i = n := by omega
      have HR2 := hid (show a = 12 + sizesN cs by
        have := HA.out
        rwa [List.take_of_length_le (by rw [← HN.out]; exact Nat.le_refl _)] at this)
      go_wp2_with fail
      go_ret
      exact ⟨by rw [← HR2.out]; rfl, gr_trans G.out HB.out⟩
end Go.Proofs.Ytahpklciafpdaaa

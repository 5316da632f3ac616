/- What chunk.Read answers of bytes that have a head. Conditions: what comes in reads as bytes. -/
import Derived.Test.YtbjmakckljjbiaaChunkRead
namespace Go.FL
/-- Are the first i bytes noughts? -/
def fineAt (l : List UInt8) (i : Nat) : Bool := (l.take i).all (fun b => b == 0)
theorem fineAt_succ (l : List UInt8) (i : Nat) (h : i < l.length) : fineAt l (i + 1) = (fineAt l i && (l[i] == 0)) := by
  rw [fineAt, List.take_succ_eq_append_getElem h, List.all_append]
  simp [fineAt]
theorem fineAt_all (l : List UInt8) : fineAt l l.length = true ↔ ∀ b ∈ l, b = 0 := by
  rw [fineAt, List.take_length, List.all_eq_true]
  simp
theorem numAt_len (l : List UInt8) (h : 4 ≤ l.length) : numAt ((l.drop 0).take 4) 2 2 = chkLen l := by
  rw [List.drop_zero, numAt_take l 2 2 4 (by omega) h, numAt, if_pos (by omega), chkLen]
end Go.FL
namespace Go.Proofs.Ytbjmakckljjbiaa
open Go.RowKit Go.FL

/-- Where it is refused. -/
theorem cread_fail {w W : World} {v : Value} {n : Nat} {fine : Bool} {l : List UInt8} {a : Act} (h : CrSt w v n fine W) (hT : chkTells l = (Chk.zero, 0, 7)) (h2 : a.tmps.getD 2 undef = .pointer (some ⟨w.heap.size + 1, 0, none⟩) := by rfl) (h3 : a.tmps.getD 3 undef = .pointer (some ⟨w.heap.size + 1 + 1, 0, none⟩) := by rfl) (h4 : a.tmps.getD 4 undef = .int .i64 7 := by rfl) (hd : a.defers = [] := by rfl) :
    bodyPost Try.prog Try.f18 (TellsChk w 5 (chkTells l)) .ret a ((((W.setCell ⟨w.heap.size + 1, 0, none⟩ (.int .u8 0)).setCell ⟨w.heap.size + 1, 1, none⟩ (.int .u8 0)).setCell ⟨w.heap.size + 1, 2, none⟩ (.slice none 0 0)).setCell ⟨w.heap.size + 1 + 1, 0, none⟩ (.int .i64 0)) := by
  have hz := ((h.2.1.store 0 (.int .u8 0)).store 1 (.int .u8 0)).store 2 (.slice none 0 0)
  have hn := ((h.2.2.1.other ⟨w.heap.size + 1, 0, none⟩ (.int .u8 0) (by simp)).other ⟨w.heap.size + 1, 1, none⟩ (.int .u8 0) (by simp)).other ⟨w.heap.size + 1, 2, none⟩ (.slice none 0 0) (by simp)
  refine cread_ret (.int .u8 0) (.int .u8 0) (.slice none 0 0) 0 7 h2 h3 h4 hd (hz.other ⟨w.heap.size + 1 + 1, 0, none⟩ _ (by simp)) (hn.store 0 _) ⟨.slice none 0 0, by rw [hT]; rfl, by rw [hT]; exact Own.nil _ _ _, ?_⟩
  exact (((h.2.2.2.2.setCell (by simp) _).setCell (by simp) _).setCell (by simp) _).setCell (by simp; omega) _

set_option maxRecDepth 100000 in
set_option maxHeartbeats 4000000 in
theorem cread_long (v : Value) (l : List UInt8) (w : World) (hv : Rd w v l) (h4 : 4 ≤ l.length) (hs : l.length ≤ 140737488355320) :
    Calls Try.prog 18 #[v] w (TellsChk w 5 (chkTells l)) := by
  have HV := hid hv
  obtain ⟨p, c, rfl, hlc, hcm, hpn, hcell⟩ := hv
  unfold maxLen at hcm
  clear hcell
  have HNL := hid (numAt_len l h4)
  have HS := hid (CrSt.start w (.slice p l.length c))
  have hL := chkLen_lt l
  obtain ⟨L, hLL⟩ : ∃ L, L = chkLen l := ⟨_, rfl⟩
  rw [← hLL] at HNL hL
  have HLL := hid hLL
  clear hLL
  go_enter Try.func18, Try.ntmps18
  go_wp2_with fail
  refine (HS.out.take_ok l 4 4 rfl HV.out (by omega) hs).mono ?_
  rintro e w1 ⟨p1, c1, rfl, ho1, hs1, hc1⟩
  rcases ho1 with ⟨_, e0⟩ | ⟨g1, sp1, hg1, e1, hr1, hm1⟩
  · have h0 : ((l.drop 0).take 4).length = 4 := by simp; omega
    rw [e0] at h0
    simp at h0
  have hl4 : ((l.drop 0).take 4).length = 4 := by simp; omega
  rw [hl4] at hm1 e1
  simp only [Value.slice.injEq] at e1
  obtain ⟨rfl, _, rfl⟩ := e1
  have HO1 := hid (show Own w1 (w.heap.size + 4) 5 (.slice (some ⟨g1, 0, none⟩) 4 (4 + sp1.length)) ((l.drop 0).take 4) from .inr ⟨g1, sp1, by simpa using hg1, by rw [hl4], hr1, by rw [hl4]; exact hm1⟩)
  have hg1' : w.heap.size + 4 ≤ g1 := by simpa using hg1
  obtain ⟨cn, fn, cf, ff⟩ := hs1.cells
  have HS1 := hid hs1
  clear hs1 hc1 hl4 hg1
  go_wp2_with fail
  refine (get_within _ _ 2 2 2 2 rfl rfl (by omega) _ HO1.out.rd (by simp; omega)).mono ?_
  rw [HNL.out]
  rintro e w2 ⟨rfl, rfl⟩
  by_cases hlow : withinB l.length ((0 + 4 : Nat) : Int) ((L : Int) - 4) = false
  · have HW := hid hlow
    have HT := hid (show chkTells l = (Chk.zero, 0, 7) by
      have h1 : chkOk l = false := by
        simp only [withinB, decide_eq_false_iff_not] at hlow
        rw [Bool.eq_false_iff]
        intro hok
        simp only [chkOk, decide_eq_true_eq, ← HLL.out] at hok
        have := roundN_le L
        omega
      rw [chkTells, if_neg (by simp [h1])])
    clear hlow
    go_wp2_with fail
    refine (HS1.out.take_no l ((L : Int) - 4) HV.out (by omega) HW.out).mono ?_
    rintro e w2 ⟨rfl, hs2, hc2⟩
    obtain ⟨cn2, fn2, cf2, ff2⟩ := hs2.cells
    have HS2 := hid hs2
    clear hs2 hc2 cn fn cf ff
    go_wp2_with fail
    have hr4 : roundI 4 = 4 := by decide
    have HD2 := hid HS2.out.drew
    go_region_with ((first | (refine (round_any _ _ (by decide)).mono ?_; rintro e w' ⟨rfl, rfl⟩) | (refine (HD2.out.take_ok l 0 _ (by decide) HV.out (by omega) hs).mono ?_; rintro e w3 ⟨p3, c3, rfl, ho3, hs3, hc3⟩)))
    all_goals
      obtain ⟨cn3, fn3, cf3, ff3⟩ := hs3.cells
      obtain ⟨z0, z1, z2, y0, y1, y2⟩ := hs3.zeros
      have HS3 := hid hs3
      clear hs3 hc3 ho3
      go_wp2_with fail
      simp only [Act.put, List.getElem_toArray, List.getElem_cons_succ, List.getElem_cons_zero, List.setIfInBounds_toArray, List.set_cons_zero, List.set_cons_succ]
      go_loopw [36] (fun y wx => y = .int .i64 0 ∧ wx = w3) (fun _ _ => 0)
      case atStart => exact ⟨rfl, rfl⟩
      case round =>
        obtain ⟨rfl, rfl⟩ := hrel
        go_wp2_with fail
        exact cread_fail HS3.out HT.out
  · have hin : 4 ≤ L ∧ L ≤ l.length := by
      simp only [withinB, decide_eq_false_iff_not, Decidable.not_not] at hlow
      omega
    obtain ⟨hL4, hLl⟩ := hin
    clear hlow
    go_wp2_with fail
    refine (HS1.out.take_ok l (L - 4) ((L : Int) - 4) (by omega) HV.out (by omega) hs).mono ?_
    rintro e w2 ⟨p2, c2, rfl, ho2, hs2, hc2⟩
    rw [show 0 + 4 + (L - 4) = L by omega] at hs2
    rw [show 0 + 4 = 4 from rfl] at ho2
    obtain ⟨cn2, fn2, cf2, ff2⟩ := hs2.cells
    have hsz1 : w.heap.size + 4 ≤ w1.heap.size := by have := HS1.out.2.2.2.1.lt; omega
    have HO12 := hid (HO1.out.chg hc2 (fun k hk => by have := HO1.out.ge k hk; simp only [CrS]; omega))
    have HO2 := hid ho2
    have HO2G := hid ho2.ge
    have HS2 := hid hs2
    clear hs2 hc2 cn fn cf ff ho2
    go_wp2_with fail
    have hR1 := roundN_le L
    have hR2 := roundN_lt L
    have HRI := hid (roundI_nat L (by omega))
    obtain ⟨R, hRR⟩ : ∃ R, R = roundN L := ⟨_, rfl⟩
    rw [← hRR] at hR1 hR2 HRI
    have HRR := hid hRR
    clear hRR
    have HD2 := hid HS2.out.drew
    have HKW := hid (show IntKind.i64.wrap ((R : Int) - (L : Int)) = ((R - L : Nat) : Int) by rw [IntKind.wrap_i64]; omega)
    by_cases hRl : R ≤ l.length
    · go_region_with ((first | (refine (round_any _ _ (WalkArith.wf_i64 (by omega))).mono ?_; rintro e w' ⟨rfl, rfl⟩; rw [HRI.out]) | (refine (HD2.out.take_ok l (R - L) _ HKW.out HV.out (by omega) hs).mono ?_; rintro e w3 ⟨p3, c3, rfl, ho3, hs3, hc3⟩)))
      all_goals
        rw [show L + (R - L) = R by omega] at hs3
        have hpl : ((l.drop L).take (R - L)).length = R - L := by simp; omega
        have HPD := hid (show chkPad l = (l.drop L).take (R - L) by rw [chkPad, ← HLL.out, ← HRR.out])
        obtain ⟨pd, hpd⟩ : ∃ pd, pd = (l.drop L).take (R - L) := ⟨_, rfl⟩
        rw [← hpd] at ho3 hpl HPD
        have hsz2 : w.heap.size + 4 ≤ w2.heap.size := by have := HS2.out.2.2.2.1.lt; omega
        have HO13 := hid (HO12.out.chg hc3.undrew (fun k hk => by have := HO12.out.ge k hk; simp only [CrS]; omega))
        have HO23 := hid (HO2.out.chg hc3.undrew (fun k hk => by have := HO2G.out k hk; simp only [CrS]; omega))
        have hsz3 : w.heap.size + 4 ≤ w3.heap.size := by have := hs3.2.2.2.1.lt; omega
        have HO3 := hid ho3
        have HO3G := hid (show ∀ k, (Value.slice p3 (R - L) c3).ownBlock = some k → w.heap.size + 4 ≤ k from fun k hk => Nat.le_trans hsz2 (ho3.ge k hk))
        have HS3 := hid hs3
        have hpd64 : pd.length ≤ 4 := by omega
        clear hs3 hc3 ho3 hpd
        rw [← hpl] at HO3 HO3G ⊢
        go_wp2_with fail
        simp only [Act.put, List.getElem_toArray, List.getElem_cons_succ, List.getElem_cons_zero, List.setIfInBounds_toArray, List.set_cons_zero, List.set_cons_succ]
        go_loopw [12, 36] (fun _ y wx => ∃ i : Nat, i ≤ pd.length ∧ y = .int .i64 (i : Int) ∧ Hid (CrSt w (.slice p l.length c) R (fineAt pd i) wx) ∧ Hid (Chg (CrS w) w3 wx)) (fun _ y _ => pd.length - (intOf y).toNat)
        case atStart => exact ⟨0, Nat.zero_le _, rfl, HS3.out, Chg.refl _ _⟩
        case round =>
          obtain ⟨i, hi, rfl, hs, hc⟩ := hrel
          have HSX := hid hs.out
          have HCX := hid hc.out
          obtain ⟨cnx, fnx, cfx, ffx⟩ := hs.out.cells
          clear hs hc
          by_cases hlt : i < pd.length
          · have hpx : ∃ g3, p3 = some ⟨g3, 0, none⟩ ∧ wr.cell? ⟨g3, i, none⟩ = some (.int .u8 (pd[i].toNat : Int)) := by
              rcases HO3.out.chg HCX.out (fun k hk => by have := HO3G.out k hk; simp only [CrS]; omega) with ⟨_, e⟩ | ⟨g3, sp3, _, e, row, _⟩
              · rw [e] at hlt
                simp at hlt
              · simp only [Value.slice.injEq] at e
                refine ⟨g3, e.1, ?_⟩
                rw [row.cell i (by simp; omega), List.getElem_append_left hlt]
            obtain ⟨g3, rfl, hcell⟩ := hpx
            have hsucc := fineAt_succ pd i hlt
            have hbx := byte_lt pd[i]
            generalize pd[i] = x at *
            have HSF := hid (HSX.out.fine (fineAt pd (i + 1)))
            have HCF := hid (HCX.out.trans (CrS.fine (w := w) (fineAt pd (i + 1))))
            have HSU := hid hsucc
            clear hsucc HSX
            generalize hfb : fineAt pd i = fb at *
            clear hfb
            have hcase : (fb = false ∧ fineAt pd (i + 1) = false) ∨ (fb = true ∧ x = 0 ∧ fineAt pd (i + 1) = true) ∨ (fb = true ∧ ((x.toNat : Int) == 0) = false ∧ fineAt pd (i + 1) = false) := by
              have hs := HSU.out
              cases fb
              · exact .inl ⟨rfl, by simpa using hs⟩
              · by_cases hx : x = 0
                · exact .inr (.inl ⟨rfl, hx, by simpa [hx] using hs⟩)
                · refine .inr (.inr ⟨rfl, ?_, by simpa [show (x == 0) = false by simpa using hx] using hs⟩)
                  have : x.toNat ≠ 0 := fun h => hx (UInt8.toNat_inj.1 h)
                  simp
                  omega
            obtain ⟨fc, hfc⟩ : ∃ fc, fc = fineAt pd (i + 1) := ⟨_, rfl⟩
            rw [← hfc] at hcase HSF HCF
            have HFC := hid hfc
            clear HSU hfc
            rcases hcase with ⟨rfl, rfl⟩ | ⟨rfl, rfl, rfl⟩ | ⟨rfl, hx0, rfl⟩
            all_goals
              go_wp2_with fail
              go_roundw
              case rel => exact ⟨i + 1, by omega, by go_num, by rw [← HFC.out]; exact HSF.out, HCF.out⟩
              case measure => simp [intOf]; omega
          · obtain rfl : i = pd.length := by omega
            have hfa := fineAt_all pd
            generalize fineAt pd pd.length = fb at *
            have HFA := hid hfa
            clear hfa
            obtain ⟨z0, z1, z2, y0, y1, y2⟩ := HSX.out.zeros
            cases fb
            · have HT := hid (show chkTells l = (Chk.zero, 0, 7) by
                have h1 : chkOk l = false := by
                  rw [Bool.eq_false_iff]
                  intro hok
                  simp only [chkOk, decide_eq_true_eq, HPD.out] at hok
                  exact absurd (HFA.out.2 hok.2.2.2) (by decide)
                rw [chkTells, if_neg (by simp [h1])])
              go_wp2_with fail
              exact cread_fail HSX.out HT.out
            · have hok : chkOk l = true := by
                simp only [chkOk, decide_eq_true_eq, HPD.out, ← HLL.out, ← HRR.out]
                exact ⟨h4, hL4, hRl, HFA.out.1 rfl⟩
              have HT := hid (show chkTells l = (⟨l.getD 0 0, l.getD 1 0, (l.drop 4).take (L - 4)⟩, R, 0) by
                rw [chkTells, if_pos hok, chkOf, chkSize, ← HLL.out, ← HRR.out])
              obtain ⟨q1, o1, d1, e1, _, _, hcell⟩ := (HO13.out.chg HCX.out (fun k hk => by have := HO1.out.ge k hk; simp only [CrS]; omega)).rd.at (by simp; omega)
              simp only [Value.slice.injEq, Option.some.injEq, Addr.mk.injEq, and_true] at e1
              obtain ⟨⟨rfl, rfl⟩, e2, rfl⟩ := e1
              clear e2
              have k0 := hcell 0 (by simp; omega)
              have k1 := hcell 1 (by simp; omega)
              rw [show ((l.drop 0).take 4)[0]'(by simp; omega) = l.getD 0 0 by simp [List.getD, show 0 < l.length by omega]] at k0
              rw [show ((l.drop 0).take 4)[1]'(by simp; omega) = l.getD 1 0 by simp [List.getD, show 1 < l.length by omega]] at k1
              have b0 := byte_lt (l.getD 0 0)
              have b1 := byte_lt (l.getD 1 0)
              have HB2 := hid (HO23.out.chg HCX.out (fun k hk => by have := HO2G.out k hk; simp only [CrS]; omega))
              generalize l.getD 0 0 = kk at *
              generalize l.getD 1 0 = ff at *
              simp only [Nat.zero_add] at k0 k1
              clear hcell hok
              go_wp2_with fail
              clear cfx ffx hR1 hR2 hpd64 hpl hi hlt hRl hsz2 hsz3 hLl hL4 hL h4 hs
              have hg1a : ∀ (W : World) (i j : Nat) (u : Value), (W.setCell ⟨w.heap.size + 1, i, none⟩ u).cell? ⟨g1, j, none⟩ = W.cell? ⟨g1, j, none⟩ := fun W i j u => cell_blk u (by omega)
              have hg1b : ∀ (W : World) (i j : Nat) (u : Value), (W.setCell ⟨w.heap.size + 1 + 1, i, none⟩ u).cell? ⟨g1, j, none⟩ = W.cell? ⟨g1, j, none⟩ := fun W i j u => cell_blk u (by omega)
              have hrz := ((HSX.out.2.1.store 0 (.int .u8 (kk.toNat : Int))).store 1 (.int .u8 (ff.toNat : Int))).store 2 (.slice p2 (L - 4) c2)
              have hrn := ((HSX.out.2.2.1.other ⟨w.heap.size + 1, 0, none⟩ (.int .u8 (kk.toNat : Int)) (by simp)).other ⟨w.heap.size + 1, 1, none⟩ (.int .u8 (ff.toNat : Int)) (by simp)).other ⟨w.heap.size + 1, 2, none⟩ (.slice p2 (L - 4) c2) (by simp)
              have HRZ := hid (hrz.other ⟨w.heap.size + 1 + 1, 0, none⟩ (.int .i64 (R : Int)) (by simp))
              have HRN := hid (hrn.store 0 (.int .i64 (R : Int)))
              have hx1 := (hrn.store 0 (.int .i64 (R : Int))).at 0 (by simp)
              simp only [List.set_cons_zero, List.getElem_cons_zero] at hx1
              have HBF := hid ((((HSX.out.2.2.2.2.setCell (p := ⟨w.heap.size + 1, 0, none⟩) (by simp) (.int .u8 (kk.toNat : Int))).setCell (p := ⟨w.heap.size + 1, 1, none⟩) (by simp) (.int .u8 (ff.toNat : Int))).setCell (p := ⟨w.heap.size + 1, 2, none⟩) (by simp) (.slice p2 (L - 4) c2)).setCell (p := ⟨w.heap.size + 1 + 1, 0, none⟩) (by simp; omega) (.int .i64 (R : Int)))
              have HOB := hid (HB2.out.chg (S := fun g => g = w.heap.size + 1 ∨ g = w.heap.size + 1 + 1) (((((Chg.refl _ _).set ⟨w.heap.size + 1, 0, none⟩ (.int .u8 (kk.toNat : Int)) (by simp)).set ⟨w.heap.size + 1, 1, none⟩ (.int .u8 (ff.toNat : Int)) (by simp)).set ⟨w.heap.size + 1, 2, none⟩ (.slice p2 (L - 4) c2) (by simp)).set ⟨w.heap.size + 1 + 1, 0, none⟩ (.int .i64 (R : Int)) (by simp)) (fun k hk => by have := HO2G.out k hk; omega))
              clear hrz hrn
              go_region_held3 (fun w' => w'.cell? ⟨g1, 0, none⟩ = some (.int .u8 (kk.toNat : Int)) ∧ w'.cell? ⟨g1, 1, none⟩ = some (.int .u8 (ff.toNat : Int)) ∧ w'.cell? ⟨w.heap.size + 1 + 1, 0, none⟩ = some (.int .i64 (R : Int))) (go_keep) (fail)
              all_goals
                go_wp2_with fail
                refine cread_ret (.int .u8 (kk.toNat : Int)) (.int .u8 (ff.toNat : Int)) (.slice p2 (L - 4) c2) (R : Int) 0 rfl rfl rfl rfl (by first | exact HRZ.out | exact HRZ.out.drew) (by first | exact HRN.out | exact HRN.out.drew) ⟨.slice p2 (L - 4) c2, by rw [HT.out], by rw [HT.out]; exact HOB.out.base (by omega), by first | exact HBF.out | exact HBF.out.drew⟩
    · have HT := hid (show chkTells l = (Chk.zero, 0, 7) by
        have h1 : chkOk l = false := by
          rw [Bool.eq_false_iff]
          intro hok
          simp only [chkOk, decide_eq_true_eq, ← HLL.out, ← HRR.out] at hok
          omega
        rw [chkTells, if_neg (by simp [h1])])
      have HW := hid (show withinB l.length (L : Int) (IntKind.i64.wrap ((R : Int) - (L : Int))) = false by rw [HKW.out]; simp only [withinB, decide_eq_false_iff_not]; omega)
      go_region_with ((first | (refine (round_any _ _ (WalkArith.wf_i64 (by omega))).mono ?_; rintro e w' ⟨rfl, rfl⟩; rw [HRI.out]) | (refine (HD2.out.take_no l _ HV.out (by omega) HW.out).mono ?_; rintro e w3 ⟨rfl, hs3, hc3⟩)))
      all_goals
        obtain ⟨cn3, fn3, cf3, ff3⟩ := hs3.cells
        obtain ⟨z0, z1, z2, y0, y1, y2⟩ := hs3.zeros
        have HS3 := hid hs3
        clear hs3 hc3 
        go_wp2_with fail
        simp only [Act.put, List.getElem_toArray, List.getElem_cons_succ, List.getElem_cons_zero, List.setIfInBounds_toArray, List.set_cons_zero, List.set_cons_succ]
        go_loopw [36] (fun y wx => y = .int .i64 0 ∧ wx = w3) (fun _ _ => 0)
        case atStart => exact ⟨rfl, rfl⟩
        case round =>
          obtain ⟨rfl, rfl⟩ := hrel
          go_wp2_with fail
          exact cread_fail HS3.out HT.out
end Go.Proofs.Ytbjmakckljjbiaa

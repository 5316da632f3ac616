/- MacOnce: the walk of the law. Conditions: the tables of sha hold what its text says. -/
import Derived.Test.YtcjkhhhinjknhaaDoorMacWorks
import Derived.Test.YtcjkhhhinjknhaaDoorRegGr
namespace Go.Proofs.YtcjkhhhinjknhaaDoor
open Go.RowKit Go.FL

set_option maxRecDepth 100000 in
set_option maxHeartbeats 4000000 in
theorem macOnce_walk {w : World} (hlaid : ShaLaid w) {v : Value} (key : List UInt8) (hv : Rd w v key) {u : Value} (text : List UInt8) (hu : Rd w u text) {x : Value} (other : List UInt8) (hx : Rd w x other) :
    Calls Tryd.prog 7 #[v, u, x] w fun e w' => e = .returned (.bool true) ∧ Below w.heap.size w w' := by
  have HL := hid hlaid
  have HV := hid hv
  have HU := hid hu
  have HX := hid hx
  obtain ⟨p, c, rfl, _, hcm, _, hcell⟩ := hv
  obtain ⟨q, cq, rfl, _, hcq, _, hcelq⟩ := hu
  obtain ⟨r, cr, rfl, _, hcr, _, hcelr⟩ := hx
  unfold maxLen at hcm hcq hcr
  clear hcell hcelq hcelr hlaid
  by_cases hbig : 4096 < key.length ∨ 4096 < text.length ∨ 4096 < other.length
  · have hcase : 4096 < key.length ∨ (key.length ≤ 4096 ∧ 4096 < text.length) ∨ (key.length ≤ 4096 ∧ text.length ≤ 4096 ∧ 4096 < other.length) := by omega
    clear hbig
    rcases hcase with h1 | ⟨h1, h2⟩ | ⟨h1, h2, h3⟩
    all_goals
      go_enter Tryd.func7, Tryd.ntmps7
      go_wp2_with fail
      refine (works_any _ HL.out).mono ?_
      rintro e w' ⟨rfl, hb⟩
      go_wp2_with fail
      go_ret
      exact ⟨rfl, hb⟩
  · have hk4 : key.length ≤ 4096 := by omega
    have ht4 : text.length ≤ 4096 := by omega
    have ho4 : other.length ≤ 4096 := by omega
    have hk1 : key.length ≤ 1048000 := by omega
    have ht1 : text.length ≤ 1048000 := by omega
    have ho1 : other.length ≤ 1048000 := by omega
    clear hbig
    obtain ⟨d1, hd1⟩ : ∃ d, d = macSum key text := ⟨_, rfl⟩
    obtain ⟨d2, hd2⟩ : ∃ d, d = macSum other text := ⟨_, rfl⟩
    obtain ⟨d3, hd3⟩ : ∃ d, d = macSum key other := ⟨_, rfl⟩
    have HD1 := hid hd1
    have HD2 := hid hd2
    have HD3 := hid hd3
    have HL1 := hid (show (bytesV d1).length = 32 by rw [bytesV_length, hd1, macSum_length])
    have HI1 := hid (show (Tryd.prog.info? 25).map (·.size) = some (bytesV d1).length by rw [HL1.out]; kernel_rfl)
    have E1 := hid (eqSelf d1 (by rw [hd1, macSum_length]))
    have HL2 := hid (show (bytesV d2).length = 32 by rw [bytesV_length, hd2, macSum_length])
    have HI2 := hid (show (Tryd.prog.info? 25).map (·.size) = some (bytesV d2).length by rw [HL2.out]; kernel_rfl)
    have E2 := hid (eqSelf d2 (by rw [hd2, macSum_length]))
    have HL3 := hid (show (bytesV d3).length = 32 by rw [bytesV_length, hd3, macSum_length])
    have HI3 := hid (show (Tryd.prog.info? 25).map (·.size) = some (bytesV d3).length by rw [HL3.out]; kernel_rfl)
    have E3 := hid (eqSelf d3 (by rw [hd3, macSum_length]))
    clear hd1 hd2 hd3
    have hzo := zeroOut
    go_enter Tryd.func7, Tryd.ntmps7
    go_wp2_with fail
    refine (macOf_any _ _ key text _ (HV.out) (HU.out) (HL.out) hk1 ht1).mono ?_
    rw [← HD1.out]
    rintro e w1 ⟨rfl, hb⟩
    have G1 := hid (hb)
    clear hb
    go_wp2_with (refine wpList_store_rowV rfl 25 (.tmp 7) (.tmp 26) rfl w1.heap.size (bytesV d1) zeros32 25 rfl rfl (RowV.new w1 25 zeros32) ?hi1 ?ho1 (bytesV_oneCell d1) ?_)
    case hi1 => rw [HL1.out]; kernel_rfl
    case ho1 => rw [HL1.out, zeros32_length]
    intro w2 hr hg
    have hgr := gr_boxed hg.out rfl
    have HR1 := hid hr.out
    have G2 := hid (gr_trans G1.out hgr)
    clear hr hg hgr
    go_wp2_with fail
    refine (macOf_any _ _ other text _ (HX.out.mono G2.out) (HU.out.mono G2.out) (HL.out.mono G2.out) ho1 ht1).mono ?_
    rw [← HD2.out]
    rintro e w3 ⟨rfl, hb⟩
    have G3 := hid (gr_trans G2.out hb)
    have K3 := hid hb
    clear hb
    go_wp2_with (refine wpList_store_rowV rfl 25 (.tmp 8) (.tmp 29) rfl w3.heap.size (bytesV d2) zeros32 25 rfl rfl (RowV.new w3 25 zeros32) ?hi2 ?ho2 (bytesV_oneCell d2) ?_)
    case hi2 => rw [HL2.out]; kernel_rfl
    case ho2 => rw [HL2.out, zeros32_length]
    intro w4 hr hg
    have hgr := gr_boxed hg.out rfl
    have HR2 := hid hr.out
    have G4 := hid (gr_trans G3.out hgr)
    have HR1 := hid (HR1.out.mono (gr_trans K3.out hgr))
    clear hr hg hgr
    go_wp2_with fail
    refine (macOf_any _ _ key other _ (HV.out.mono G4.out) (HX.out.mono G4.out) (HL.out.mono G4.out) hk1 ho1).mono ?_
    rw [← HD3.out]
    rintro e w5 ⟨rfl, hb⟩
    have G5 := hid (gr_trans G4.out hb)
    have K5 := hid hb
    clear hb
    go_wp2_with (refine wpList_store_rowV rfl 25 (.tmp 9) (.tmp 32) rfl w5.heap.size (bytesV d3) zeros32 25 rfl rfl (RowV.new w5 25 zeros32) ?hi3 ?ho3 (bytesV_oneCell d3) ?_)
    case hi3 => rw [HL3.out]; kernel_rfl
    case ho3 => rw [HL3.out, zeros32_length]
    intro w6 hr hg
    have hgr := gr_boxed hg.out rfl
    have HR3 := hid hr.out
    have G6 := hid (gr_trans G5.out hgr)
    have HR1 := hid (HR1.out.mono (gr_trans K5.out hgr))
    have HR2 := hid (HR2.out.mono (gr_trans K5.out hgr))
    clear hr hg hgr
    have GZ := hid G6.out
    clear hzo
    go_wp2_with fail
    refine wp_region_gr [Is (.agg (bytesV d1).toArray), Is (.slice p key.length c), Is (.slice q text.length cq), Is (.agg (bytesV d1).toArray), Is (.bool true), Is (.bool true), Is (.agg (bytesV d2).toArray), Is (.slice r other.length cr), Is (.slice q text.length cq), Is (.agg (bytesV d2).toArray), Is (.bool true), Is (.bool true), Is (.bool true), Is (.agg (bytesV d3).toArray), Is (.slice p key.length c), Is (.slice r other.length cr), Is (.agg (bytesV d3).toArray), Is (.bool true), Is (.bool true), Is (.bool true), Is (.bool true), Is (.bool true), Is (.bool true)] (by kernel_rfl) (by kernel_rfl) (by kernel_rfl) ?_ ?_ ?_
    · simp only [StabAll, Is.gr, RdF.gr, OwnF.gr, AnyF.gr, and_self]
    · rename_i Kk hKk; clear hKk Kk
      simp only [AllOps, List.map_cons, List.map_nil, depsOf, List.filterMap_cons, List.filterMap_nil, Region.binds, depFacts, guardF, reduceIte, List.getD_eq_getElem?_getD, List.getElem?_cons_succ, List.getElem?_cons_zero, Option.getD_some, factAt, and_true]
      refine ⟨?_, ?_, ?_, ?_, ?_, ?_, ?_, ?_, ?_, ?_, ?_, ?_, ?_, ?_, ?_, ?_, ?_, ?_, ?_, ?_, ?_, ?_, ?_⟩
      all_goals intro ρ wv hρ hR hd
      all_goals try simp only [Is] at hd
      · exact opOk_loadRow rfl (w1.heap.size) (by first | exact hρ.2 _ rfl | simp [hd]) _ (bytesV d1) _ (HR1.out.mono hR) Tryd.underlying25 rfl (HI1.out) ⟨rfl, GrR.refl _⟩
      · exact opOk_move (.inl rfl) ⟨by simp only [Is]; (first | exact hρ.2 0 rfl | exact hd | exact hd.1 | exact hd.2 | simp [hd]), GrR.refl _⟩
      · exact opOk_move (.inl rfl) ⟨by simp only [Is]; (first | exact hρ.2 1 rfl | exact hd | exact hd.1 | exact hd.2 | simp [hd]), GrR.refl _⟩
      · exact opOk_call hρ.1 rfl rfl Tryd.func10 (by kernel_rfl) rfl (by simp [hd, hρ.1.const]) ((macOf_any _ _ key text _ (HV.out.mono (gr_trans GZ.out hR)) (HU.out.mono (gr_trans GZ.out hR)) (HL.out.mono (gr_trans GZ.out hR)) hk1 ht1).mono fun e w' ⟨h1, h2⟩ => ⟨_, h1, by rw [HD1.out]; rfl, h2⟩)
      · exact opOk_val (v := .bool true) (w' := wv) (by simp [execOp, go_sem, hρ.1.const, hρ.1.func, hd, E1.out]) ⟨rfl, GrR.refl _⟩
      · exact opOk_move (.inl rfl) ⟨by simp only [Is]; (first | exact hρ.2 37 rfl | exact hd | exact hd.1 | exact hd.2 | simp [hd]), GrR.refl _⟩
      · refine ⟨fun _ => ?_, fun hg => absurd (by simp [hd]) hg⟩; exact opOk_loadRow rfl (w3.heap.size) (by first | exact hρ.2 _ rfl | simp [hd]) _ (bytesV d2) _ (HR2.out.mono hR) Tryd.underlying25 rfl (HI2.out) ⟨rfl, GrR.refl _⟩
      · refine ⟨fun _ => ?_, fun hg => absurd (by simp [hd]) hg⟩; exact opOk_move (.inl rfl) ⟨by simp only [Is]; (first | exact hρ.2 2 rfl | exact hd | exact hd.1 | exact hd.2 | simp [hd]), GrR.refl _⟩
      · refine ⟨fun _ => ?_, fun hg => absurd (by simp [hd]) hg⟩; exact opOk_move (.inl rfl) ⟨by simp only [Is]; (first | exact hρ.2 1 rfl | exact hd | exact hd.1 | exact hd.2 | simp [hd]), GrR.refl _⟩
      · refine ⟨fun _ => ?_, fun hg => absurd (by simp [hd]) hg⟩; exact opOk_call hρ.1 rfl rfl Tryd.func10 (by kernel_rfl) rfl (by simp [hd, hρ.1.const]) ((macOf_any _ _ other text _ (HX.out.mono (gr_trans GZ.out hR)) (HU.out.mono (gr_trans GZ.out hR)) (HL.out.mono (gr_trans GZ.out hR)) ho1 ht1).mono fun e w' ⟨h1, h2⟩ => ⟨_, h1, by rw [HD2.out]; rfl, h2⟩)
      · refine ⟨fun _ => ?_, fun hg => absurd (by simp [hd]) hg⟩; exact opOk_val (v := .bool true) (w' := wv) (by simp [execOp, go_sem, hρ.1.const, hρ.1.func, hd, E2.out]) ⟨rfl, GrR.refl _⟩
      · exact opOk_val (v := .bool true) (w' := wv) (by simp [execOp, go_sem, hρ.1.const, hρ.1.func, hd]) ⟨rfl, GrR.refl _⟩
      · exact opOk_move (.inl rfl) ⟨by simp only [Is]; (first | exact hρ.2 44 rfl | exact hd | exact hd.1 | exact hd.2 | simp [hd]), GrR.refl _⟩
      · refine ⟨fun _ => ?_, fun hg => absurd (by simp [hd]) hg⟩; exact opOk_loadRow rfl (w5.heap.size) (by first | exact hρ.2 _ rfl | simp [hd]) _ (bytesV d3) _ (HR3.out.mono hR) Tryd.underlying25 rfl (HI3.out) ⟨rfl, GrR.refl _⟩
      · refine ⟨fun _ => ?_, fun hg => absurd (by simp [hd]) hg⟩; exact opOk_move (.inl rfl) ⟨by simp only [Is]; (first | exact hρ.2 0 rfl | exact hd | exact hd.1 | exact hd.2 | simp [hd]), GrR.refl _⟩
      · refine ⟨fun _ => ?_, fun hg => absurd (by simp [hd]) hg⟩; exact opOk_move (.inl rfl) ⟨by simp only [Is]; (first | exact hρ.2 2 rfl | exact hd | exact hd.1 | exact hd.2 | simp [hd]), GrR.refl _⟩
      · refine ⟨fun _ => ?_, fun hg => absurd (by simp [hd]) hg⟩; exact opOk_call hρ.1 rfl rfl Tryd.func10 (by kernel_rfl) rfl (by simp [hd, hρ.1.const]) ((macOf_any _ _ key other _ (HV.out.mono (gr_trans GZ.out hR)) (HX.out.mono (gr_trans GZ.out hR)) (HL.out.mono (gr_trans GZ.out hR)) hk1 ho1).mono fun e w' ⟨h1, h2⟩ => ⟨_, h1, by rw [HD3.out]; rfl, h2⟩)
      · refine ⟨fun _ => ?_, fun hg => absurd (by simp [hd]) hg⟩; exact opOk_val (v := .bool true) (w' := wv) (by simp [execOp, go_sem, hρ.1.const, hρ.1.func, hd, E3.out]) ⟨rfl, GrR.refl _⟩
      · exact opOk_val (v := .bool true) (w' := wv) (by simp [execOp, go_sem, hρ.1.const, hρ.1.func, hd]) ⟨rfl, GrR.refl _⟩
      · exact opOk_move (.inl rfl) ⟨by simp only [Is]; (first | exact hρ.2 51 rfl | exact hd | exact hd.1 | exact hd.2 | simp [hd]), GrR.refl _⟩
      · refine ⟨fun _ => ?_, fun hg => absurd (by simp [hd]) hg⟩; exact opOk_call hρ.1 rfl rfl Tryd.func8 (by kernel_rfl) rfl (by simp [hd, hρ.1.const]) ((works_any _ (HL.out.mono (gr_trans GZ.out hR))).mono fun e w' ⟨h1, h2⟩ => ⟨_, h1, rfl, h2⟩)
      · exact opOk_val (v := .bool true) (w' := wv) (by simp [execOp, go_sem, hρ.1.const, hρ.1.func, hd]) ⟨rfl, GrR.refl _⟩
      · exact opOk_move (.inr rfl) ⟨by simp only [Is]; (first | exact hρ.2 54 rfl | exact hd | exact hd.1 | exact hd.2 | simp [hd]), GrR.refl _⟩
    · intro vals wv hR hall
      have hend := hall 22 (by simp)
      simp only [factAt, Is, List.getD_eq_getElem?_getD, List.getElem?_cons_succ, List.getElem?_cons_zero, Option.getD_some] at hend
      clear hall
      simp only [fillFrom, Act.put, hend, List.setIfInBounds_toArray, List.set_cons_zero, List.set_cons_succ]
      rename_i Kk hKk
      refine hKk _ _ ?_
      clear hKk Kk
      go_wp2
      go_ret
      exact ⟨rfl, gr_trans GZ.out hR⟩
end Go.Proofs.YtcjkhhhinjknhaaDoor

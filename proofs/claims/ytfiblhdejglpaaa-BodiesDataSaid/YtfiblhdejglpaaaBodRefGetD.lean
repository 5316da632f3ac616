/- The document's GetData. Conditions: what comes in reads as it should. -/
import Derived.Test.YtfiblhdejglpaaaBodRefData
import Derived.Test.YtfiblhdejglpaaaBaseD
namespace Go.Proofs.Ytfiblhdejglpaaa
open Go.RowKit Go.FL Go.ChangeShapes

theorem rgetData_ret {a : Act} {W : World} {g : Nat} {R : Ending → World → Prop} (v0 v1 v2 v3 v4 v5 v6 : Value) (er : Int) (h2 : a.tmps.getD 2 undef = .pointer (some ⟨g, 0, none⟩)) (h3 : a.tmps.getD 3 undef = .int .i64 er) (hd : a.defers = [])
    (hc : RowV W g 26 [v0, v1, v2, v3, v4, v5, v6]) (hR : R (.returned (.tuple #[.agg #[v0, v1, v2, v3, v4, v5, v6], .int .i64 er])) W) : bodyPost Try.prog Try.f17 R .ret a W := by
  refine bodyPost_ret (v := .tuple #[.agg #[v0, v1, v2, v3, v4, v5, v6], .int .i64 er]) ?_ hd hR
  obtain ⟨c0, c1, c2, c3, c4, c5, c6, -⟩ := rowData hc
  simp only [Array.getD_eq_getD_getElem?] at h2 h3
  simp [results, Try.results17, go_sem, h2, h3, asAddr, c0, c1, c2, c3, c4, c5, c6]

set_option maxRecDepth 100000 in
set_option maxHeartbeats 4000000 in
theorem rgetData_any (v : Value) (ch : Chk) (w : World) (h : ChkV w v ch) (hl : ch.b.length ≤ 1000000) :
    Calls Try.prog 17 #[v] w fun e w' => ∃ s, e = .returned (.tuple #[(dataGet ch).1.vals s, .int .i64 (dataGet ch).2]) ∧ Own w' w.heap.size 5 s (dataGet ch).1.b ∧ Below w.heap.size w w' := by
  obtain ⟨s, rfl, hrd⟩ := h
  have HV := hid hrd
  obtain ⟨p, c, rfl, hlc, hcm, hpn, hcell⟩ := hrd
  unfold maxLen at hcm
  obtain ⟨kc, fc, bc⟩ := ch
  simp only at *
  have hn0 := numAt_lt bc 0 4
  have hn1 := numAt_lt bc 4 2
  have hn2 := numAt_lt bc 6 2
  obtain ⟨x0, hx0⟩ : ∃ x, x = numAt bc 0 4 := ⟨_, rfl⟩
  obtain ⟨x1, hx1⟩ : ∃ x, x = numAt bc 4 2 := ⟨_, rfl⟩
  obtain ⟨x2, hx2⟩ : ∃ x, x = numAt bc 6 2 := ⟨_, rfl⟩
  rw [← hx0] at hn0
  rw [← hx1] at hn1
  rw [← hx2] at hn2
  have HX0 := hid hx0
  have HX1 := hid hx1
  have HX2 := hid hx2
  obtain ⟨un, hun⟩ : ∃ b, b = (fc &&& 4 != 0) := ⟨_, rfl⟩
  obtain ⟨fi, hfi⟩ : ∃ b, b = (fc &&& 2 != 0) := ⟨_, rfl⟩
  obtain ⟨la, hla⟩ : ∃ b, b = (fc &&& 1 != 0) := ⟨_, rfl⟩
  obtain ⟨f4, hf4⟩ : ∃ b, b = fc &&& 4 := ⟨_, rfl⟩
  obtain ⟨f2, hf2⟩ : ∃ b, b = fc &&& 2 := ⟨_, rfl⟩
  obtain ⟨f1, hf1⟩ : ∃ b, b = fc &&& 1 := ⟨_, rfl⟩
  have HA4 := hid (show bits .and .u8 (fc.toNat : Int) 4 = (f4.toNat : Int) by rw [hf4]; exact bits_and8 fc 4)
  have HA2 := hid (show bits .and .u8 (fc.toNat : Int) 2 = (f2.toNat : Int) by rw [hf2]; exact bits_and8 fc 2)
  have HA1 := hid (show bits .and .u8 (fc.toNat : Int) 1 = (f1.toNat : Int) by rw [hf1]; exact bits_and8 fc 1)
  have HB4 := hid (show ((f4.toNat : Int) != 0) = un by rw [flag_ne, hf4, hun])
  have HB2 := hid (show ((f2.toNat : Int) != 0) = fi by rw [flag_ne, hf2, hfi])
  have HB1 := hid (show ((f1.toNat : Int) != 0) = la by rw [flag_ne, hf1, hla])
  obtain ⟨bd, hbd⟩ : ∃ x, x = bc.drop 12 := ⟨_, rfl⟩
  have HBL := hid (show bd.length = bc.length - 12 by rw [hbd, List.length_drop])
  have HDO := hid (show dataOf ⟨kc, fc, bc⟩ = ⟨x0, x1, x2, un, fi, la, bd⟩ by rw [dataOf, hx0, hx1, hx2, hun, hfi, hla, hbd])
  obtain ⟨res, hres⟩ : ∃ r, r = dataGet ⟨kc, fc, bc⟩ := ⟨_, rfl⟩
  rw [← hres]
  have HRES := hid hres
  have HW0 := hid (show IntKind.u32.wrap (x0 : Int) = (x0 : Int) by rw [wrap_u32_lt]; omega)
  have HW1 := hid (show IntKind.u16.wrap (x1 : Int) = (x1 : Int) by rw [IntKind.wrap_u16]; omega)
  have HW2 := hid (show IntKind.u16.wrap (x2 : Int) = (x2 : Int) by rw [IntKind.wrap_u16]; omega)
  obtain ⟨W0, hW0⟩ : ∃ W0, W0 = w.alloc (.cells #[.int .u8 (kc.toNat : Int), .int .u8 (fc.toNat : Int), .slice p bc.length c] 28 (0, 0)) := ⟨_, rfl⟩
  have hs0 : W0.heap.size = w.heap.size + 1 := by rw [hW0]; simp
  obtain ⟨W, hW⟩ : ∃ W, W = W0.alloc (.cells #[.int .u32 0, .int .u16 0, .int .u16 0, .bool false, .bool false, .bool false, .slice none 0 0] 26 (0, 0)) := ⟨_, rfl⟩
  have HC := hid (show RowV W w.heap.size 28 [.int .u8 (kc.toNat : Int), .int .u8 (fc.toNat : Int), .slice p bc.length c] by rw [hW, hW0]; exact (RowV.new w 28 _).alloc _)
  have HT := hid (show RowV W (w.heap.size + 1) 26 [.int .u32 0, .int .u16 0, .int .u16 0, .bool false, .bool false, .bool false, .slice none 0 0] by rw [hW, ← hs0]; exact RowV.new W0 26 _)
  have G0 := hid (show Below w.heap.size w W by rw [hW, hW0]; exact ((Below.refl _ _).alloc (Nat.le_refl _) _).alloc (by simp) _)
  have hs1 : W.heap.size = w.heap.size + 2 := by rw [hW]; simp [hs0]
  rw [hW0] at hW
  have HE := hid hW
  clear hW hW0 hs0 hx0 hx1 hx2 hun hfi hla hf4 hf2 hf1 hres
  have hkb := byte_lt kc
  have hfb := byte_lt fc
  by_cases h13 : bc.length < 13
  · have HRS := hid (show res = (.zero, 7) by rw [HRES.out, dataGet, if_neg (fun e => by have := e.1; simp only at this; omega)])
    have e1 : (bc.length : Int) < 13 := by omega
    clear hcell hbd
    go_enter Try.func17, Try.ntmps17
    go_wp2_with fail
    rw [← HE.out]
    refine rgetData_ret (.int .u32 0) (.int .u16 0) (.int .u16 0) (.bool false) (.bool false) (.bool false) (.slice none 0 0) 7 rfl rfl rfl HT.out ⟨.slice none 0 0, by rw [HRS.out]; rfl, ?_, G0.out⟩
    rw [HRS.out]
    exact Own.nil _ _ _
  · obtain ⟨b0, off, rfl, -⟩ := hcell 0 (by omega)
    obtain ⟨p12, c12, hs12⟩ : ∃ p3 c3, sliced (some ⟨b0, off, none⟩) 12 bc.length c 1 = .slice p3 (bc.length - 12) c3 := ⟨_, _, rfl⟩
    have HCUT := hid (show Rd W (.slice p12 (bc.length - 12) c12) bd by
      have := (HV.out.mono G0.out).cut 12 bc.length (by omega) (Nat.le_refl _)
      rw [hs12, List.take_of_length_le (by simp)] at this
      rw [hbd]
      exact this)
    obtain ⟨n12, hn12⟩ : ∃ n, n = bc.length - 12 := ⟨_, rfl⟩
    have HSL := hid (show ∀ wx, (Instr.slice 24 (.slice (some ⟨b0, off, none⟩) bc.length c) (some (.int .i64 12)) none none).run Try.prog wx = .ok (.slice p12 n12 c12) wx from fun wx => by
      have hh := run_slice_from32 (P := Try.prog) 24 5 Try.underlying24 (by kernel_rfl) (some ⟨b0, off, none⟩) bc.length c 12 (by omega) .i64 wx
      rw [hs12, ← hn12] at hh
      exact hh)
    rw [← hn12] at HCUT HBL
    have e1 : ¬ (bc.length : Int) < 13 := by omega
    have h12 : n12 ≤ 1000000 := by omega
    obtain ⟨q, hq⟩ : ∃ q, q = chkEq (DataD.chk ⟨x0, x1, x2, un, fi, la, bd⟩) ⟨kc, fc, bc⟩ := ⟨_, rfl⟩
    have HQ := hid hq
    have HRS := hid (show res = if q = true then (⟨x0, x1, x2, un, fi, la, bd⟩, 0) else (.zero, 7) by
      rw [HRES.out, dataGet, HDO.out, hq, chkEq_dec]
      by_cases e : DataD.chk ⟨x0, x1, x2, un, fi, la, bd⟩ = ⟨kc, fc, bc⟩
      · rw [if_pos ⟨(by show 12 < bc.length; omega), e⟩]
        simp [e]
      · rw [if_neg (fun h => e h.2)]
        simp [e])
    clear hcell hbd hs12 hn12 hq hpn
    have KC1 := hid (HC.out.at 1 (by simp))
    have KC2 := hid (HC.out.at 2 (by simp))
    simp only [List.getElem_cons_succ, List.getElem_cons_zero] at KC1 KC2
    go_enter Try.func17, Try.ntmps17
    go_wp2_with fail
    rw [← HE.out]
    refine wp_region_tail 30 [Is (.pointer (some ⟨w.heap.size, 2, none⟩)), Is (.slice (some ⟨b0, off, none⟩) bc.length c), Is (.int .u64 (x0 : Int)), Is (.int .u32 (x0 : Int)), Is (.pointer (some ⟨w.heap.size, 2, none⟩)), Is (.slice (some ⟨b0, off, none⟩) bc.length c), Is (.int .u64 (x1 : Int)), Is (.int .u16 (x1 : Int)), Is (.pointer (some ⟨w.heap.size, 2, none⟩)), Is (.slice (some ⟨b0, off, none⟩) bc.length c), Is (.int .u64 (x2 : Int)), Is (.int .u16 (x2 : Int)), Is (.pointer (some ⟨w.heap.size, 1, none⟩)), Is (.int .u8 (fc.toNat : Int)), Is (.int .u8 (f4.toNat : Int)), Is (.bool un), Is (.pointer (some ⟨w.heap.size, 1, none⟩)), Is (.int .u8 (fc.toNat : Int)), Is (.int .u8 (f2.toNat : Int)), Is (.bool fi), Is (.pointer (some ⟨w.heap.size, 1, none⟩)), Is (.int .u8 (fc.toNat : Int)), Is (.int .u8 (f1.toNat : Int)), Is (.bool la), Is (.pointer (some ⟨w.heap.size, 2, none⟩)), Is (.slice (some ⟨b0, off, none⟩) bc.length c), Is (.slice p12 n12 c12), OwnF W.heap.size 5 bd, DtF W.heap.size 5 ⟨x0, x1, x2, un, fi, la, bd⟩, NewF W.heap.size 26 [.int .u32 0, .int .u16 0, .int .u16 0, .bool false, .bool false, .bool false, .slice none 0 0]] (by kernel_rfl) (by kernel_rfl) (by kernel_rfl) (by kernel_rfl) (by kernel_rfl) (by kernel_rfl) ?_ ?_ ?_
    · simp only [StabAll, Is.gr, RdF.gr, OwnF.gr, AnyF.gr, NewF.gr, DtF.gr, and_self]
    · rename_i Kk hKk; clear hKk Kk
      simp only [List.take_succ_cons, List.take_zero, AllOps, List.map_cons, List.map_nil, depsOf, List.filterMap_cons, List.filterMap_nil, Region.binds, depFacts, guardF, reduceIte, List.getD_eq_getElem?_getD, List.getElem?_cons_succ, List.getElem?_cons_zero, Option.getD_some, factAt, and_true]
      refine ⟨?_, ?_, ?_, ?_, ?_, ?_, ?_, ?_, ?_, ?_, ?_, ?_, ?_, ?_, ?_, ?_, ?_, ?_, ?_, ?_, ?_, ?_, ?_, ?_, ?_, ?_, ?_, ?_, ?_, ?_⟩
      all_goals intro ρ wv hρ hR hd
      all_goals try simp only [Is] at hd
      · exact opOk_val (v := .pointer (some ⟨w.heap.size, 2, none⟩)) (w' := wv) (by simp [execOp, go_sem, hρ.1.const, hρ.1.func, hd, (hρ.2 1 rfl)]) ⟨rfl, GrR.refl _⟩
      · (have h0 := cell?_of_below hR KC2.out; exact opOk_val (v := .slice (some ⟨b0, off, none⟩) bc.length c) (w' := wv) (by simp [execOp, go_sem, hd, h0]) ⟨rfl, GrR.refl _⟩)
      · exact opOk_call hρ.1 rfl rfl Try.func54 (by kernel_rfl) rfl (by simp [hd, hρ.1.const, hρ.1.func]) ((bnumber_any _ bc 0 4 _ _ rfl rfl (by omega) _ ((HV.out.mono G0.out).mono hR) (by omega)).mono fun e w' ⟨h1, h2⟩ => ⟨_, h1, (by rw [HX0.out]; rfl), h2⟩)
      · exact opOk_val (v := .int .u32 (x0 : Int)) (w' := wv) (by simp [execOp, go_sem, hρ.1.const, hρ.1.func, hd, HW0.out]) ⟨rfl, GrR.refl _⟩
      · exact opOk_val (v := .pointer (some ⟨w.heap.size, 2, none⟩)) (w' := wv) (by simp [execOp, go_sem, hρ.1.const, hρ.1.func, hd, (hρ.2 1 rfl)]) ⟨rfl, GrR.refl _⟩
      · (have h0 := cell?_of_below hR KC2.out; exact opOk_val (v := .slice (some ⟨b0, off, none⟩) bc.length c) (w' := wv) (by simp [execOp, go_sem, hd, h0]) ⟨rfl, GrR.refl _⟩)
      · exact opOk_call hρ.1 rfl rfl Try.func54 (by kernel_rfl) rfl (by simp [hd, hρ.1.const, hρ.1.func]) ((bnumber_any _ bc 4 2 _ _ rfl rfl (by omega) _ ((HV.out.mono G0.out).mono hR) (by omega)).mono fun e w' ⟨h1, h2⟩ => ⟨_, h1, (by rw [HX1.out]; rfl), h2⟩)
      · exact opOk_val (v := .int .u16 (x1 : Int)) (w' := wv) (by simp [execOp, go_sem, hρ.1.const, hρ.1.func, hd, HW1.out]) ⟨rfl, GrR.refl _⟩
      · exact opOk_val (v := .pointer (some ⟨w.heap.size, 2, none⟩)) (w' := wv) (by simp [execOp, go_sem, hρ.1.const, hρ.1.func, hd, (hρ.2 1 rfl)]) ⟨rfl, GrR.refl _⟩
      · (have h0 := cell?_of_below hR KC2.out; exact opOk_val (v := .slice (some ⟨b0, off, none⟩) bc.length c) (w' := wv) (by simp [execOp, go_sem, hd, h0]) ⟨rfl, GrR.refl _⟩)
      · exact opOk_call hρ.1 rfl rfl Try.func54 (by kernel_rfl) rfl (by simp [hd, hρ.1.const, hρ.1.func]) ((bnumber_any _ bc 6 2 _ _ rfl rfl (by omega) _ ((HV.out.mono G0.out).mono hR) (by omega)).mono fun e w' ⟨h1, h2⟩ => ⟨_, h1, (by rw [HX2.out]; rfl), h2⟩)
      · exact opOk_val (v := .int .u16 (x2 : Int)) (w' := wv) (by simp [execOp, go_sem, hρ.1.const, hρ.1.func, hd, HW2.out]) ⟨rfl, GrR.refl _⟩
      · exact opOk_val (v := .pointer (some ⟨w.heap.size, 1, none⟩)) (w' := wv) (by simp [execOp, go_sem, hρ.1.const, hρ.1.func, hd, (hρ.2 1 rfl)]) ⟨rfl, GrR.refl _⟩
      · (have h0 := cell?_of_below hR KC1.out; exact opOk_val (v := .int .u8 (fc.toNat : Int)) (w' := wv) (by simp [execOp, go_sem, hd, h0]) ⟨rfl, GrR.refl _⟩)
      · exact opOk_val (v := .int .u8 (f4.toNat : Int)) (w' := wv) (by simp [execOp, go_sem, hρ.1.const, hρ.1.func, hd, HA4.out]) ⟨rfl, GrR.refl _⟩
      · exact opOk_val (v := .bool un) (w' := wv) (by simp [execOp, go_sem, hρ.1.const, hρ.1.func, hd, HB4.out]) ⟨rfl, GrR.refl _⟩
      · exact opOk_val (v := .pointer (some ⟨w.heap.size, 1, none⟩)) (w' := wv) (by simp [execOp, go_sem, hρ.1.const, hρ.1.func, hd, (hρ.2 1 rfl)]) ⟨rfl, GrR.refl _⟩
      · (have h0 := cell?_of_below hR KC1.out; exact opOk_val (v := .int .u8 (fc.toNat : Int)) (w' := wv) (by simp [execOp, go_sem, hd, h0]) ⟨rfl, GrR.refl _⟩)
      · exact opOk_val (v := .int .u8 (f2.toNat : Int)) (w' := wv) (by simp [execOp, go_sem, hρ.1.const, hρ.1.func, hd, HA2.out]) ⟨rfl, GrR.refl _⟩
      · exact opOk_val (v := .bool fi) (w' := wv) (by simp [execOp, go_sem, hρ.1.const, hρ.1.func, hd, HB2.out]) ⟨rfl, GrR.refl _⟩
      · exact opOk_val (v := .pointer (some ⟨w.heap.size, 1, none⟩)) (w' := wv) (by simp [execOp, go_sem, hρ.1.const, hρ.1.func, hd, (hρ.2 1 rfl)]) ⟨rfl, GrR.refl _⟩
      · (have h0 := cell?_of_below hR KC1.out; exact opOk_val (v := .int .u8 (fc.toNat : Int)) (w' := wv) (by simp [execOp, go_sem, hd, h0]) ⟨rfl, GrR.refl _⟩)
      · exact opOk_val (v := .int .u8 (f1.toNat : Int)) (w' := wv) (by simp [execOp, go_sem, hρ.1.const, hρ.1.func, hd, HA1.out]) ⟨rfl, GrR.refl _⟩
      · exact opOk_val (v := .bool la) (w' := wv) (by simp [execOp, go_sem, hρ.1.const, hρ.1.func, hd, HB1.out]) ⟨rfl, GrR.refl _⟩
      · exact opOk_val (v := .pointer (some ⟨w.heap.size, 2, none⟩)) (w' := wv) (by simp [execOp, go_sem, hρ.1.const, hρ.1.func, hd, (hρ.2 1 rfl)]) ⟨rfl, GrR.refl _⟩
      · (have h0 := cell?_of_below hR KC2.out; exact opOk_val (v := .slice (some ⟨b0, off, none⟩) bc.length c) (w' := wv) (by simp [execOp, go_sem, hd, h0]) ⟨rfl, GrR.refl _⟩)
      · (exact opOk_val (v := .slice p12 n12 c12) (w' := wv) (by simp [execOp, go_sem, hd, hρ.1.const, HSL.out]) ⟨rfl, GrR.refl _⟩)
      · exact opOk_call hρ.1 rfl rfl Try.func55 (by kernel_rfl) rfl (by simp [hd, hρ.1.const, hρ.1.func]) ((copyBytes_any _ bd _ (HCUT.out.mono hR) (by rw [HBL.out]; omega)).mono fun e w' ⟨v', h1, h2, h3⟩ => ⟨v', h1, h2.base hR.size, h3⟩)
      · (have hr : OwnF W.heap.size 5 bd (ρ (.tmp 37)) wv := (by first | exact hd.2.2.2.2.2.2 | exact hd.2.2.2.2.2.2.1 | exact hd.1); obtain ⟨p9, c9, h9⟩ := RdF.form hr.rd; exact opOk_val (v := DataD.vals ⟨x0, x1, x2, un, fi, la, bd⟩ (.slice p9 bd.length c9)) (w' := wv) (by simp [execOp, go_sem, hd, h9, DataD.vals]) ⟨⟨_, rfl, h9 ▸ hr⟩, GrR.refl _⟩)
      · exact opOk_val (v := .pointer (some ⟨wv.heap.size, 0, none⟩)) (w' := wv.alloc (.cells #[.int .u32 0, .int .u16 0, .int .u16 0, .bool false, .bool false, .bool false, .slice none 0 0] 26 (0, 0))) (by simp [execOp, go_sem]) ⟨⟨_, rfl, hR.size, RowV.new wv 26 [.int .u32 0, .int .u16 0, .int .u16 0, .bool false, .bool false, .bool false, .slice none 0 0]⟩, (Below.refl _ _).alloc (Nat.le_refl _) _⟩
    · intro vals wv hR hall
      have i28 := hall 28 (by omega)
      have i29 := hall 29 (by omega)
      simp only [factAt, DtF, NewF, DataD.vals, List.getD_eq_getElem?_getD, List.getElem?_cons_succ, List.getElem?_cons_zero, Option.getD_some] at i28 i29
      clear hall
      obtain ⟨s9, h28, ho9⟩ := i28
      obtain ⟨p9, c9, rfl, hl9, hm9, -, -⟩ := ho9.rd
      obtain ⟨hh, h29, hge, hrow⟩ := i29
      obtain ⟨nd, hnd⟩ : ∃ n, n = bd.length := ⟨_, rfl⟩
      have HND := hid hnd
      rw [← hnd] at h28 ho9 hl9
      simp only [List.take_succ_cons, List.take_zero, List.drop_succ_cons, List.drop_zero, fillFrom, Act.put, h28, h29, List.setIfInBounds_toArray, List.set_cons_zero, List.set_cons_succ, Nat.zero_add, Nat.reduceAdd]
      obtain ⟨w1, hw1⟩ : ∃ x, x = wv := ⟨_, rfl⟩
      subst hw1
      have HO := hid ho9
      have HRW := hid hrow
      obtain ⟨i0, i1, i2, i3, i4, i5, i6, -⟩ := rowData HRW.out
      have y0 := HRW.out.frozen 0
      have y1 := HRW.out.frozen 1
      have y2 := HRW.out.frozen 2
      have y3 := HRW.out.frozen 3
      have y4 := HRW.out.frozen 4
      have y5 := HRW.out.frozen 5
      have y6 := HRW.out.frozen 6
      obtain ⟨w2, hw2⟩ : ∃ x, x = (((((((w1.setCell ⟨hh, 0, none⟩ (.int .u32 (x0 : Int))).setCell ⟨hh, 1, none⟩ (.int .u16 (x1 : Int))).setCell ⟨hh, 2, none⟩ (.int .u16 (x2 : Int))).setCell ⟨hh, 3, none⟩ (.bool un)).setCell ⟨hh, 4, none⟩ (.bool fi)).setCell ⟨hh, 5, none⟩ (.bool la)).setCell ⟨hh, 6, none⟩ (.slice p9 nd c9)) := ⟨_, rfl⟩
      have HRW2 := hid (show RowV w2 hh 26 [.int .u32 (x0 : Int), .int .u16 (x1 : Int), .int .u16 (x2 : Int), .bool un, .bool fi, .bool la, .slice p9 nd c9] by rw [hw2]; exact (((((((HRW.out.store 0 (.int .u32 (x0 : Int))).store 1 (.int .u16 (x1 : Int))).store 2 (.int .u16 (x2 : Int))).store 3 (.bool un)).store 4 (.bool fi)).store 5 (.bool la)).store 6 (.slice p9 nd c9)))
      have g2 : w1.grownBy w2 (some hh) := by rw [hw2]; exact gb_set (gb_set (gb_set (gb_set (gb_set (gb_set (gb_set (gb_refl _ _) 0 _) 1 _) 2 _) 3 _) 4 _) 5 _) 6 _
      have HO2 := hid (HO.out.keep g2 (HO.out.neV HRW.out (by decide)))
      have gq : Below W.heap.size W w2 := hR.trans (gb_below g2 hge hR.size)
      have HC2 := hid (HC.out.mono gq)
      have HT2 := hid (HT.out.mono gq)
      have G2 := hid (gr_trans G0.out gq)
      have HE2 := hid hw2
      have hh2 : w.heap.size + 2 ≤ hh := by omega
      clear hw2 g2 gq hR h28 h29 ho9 hrow hnd
      go_wp2_with fail
      rw [← HE2.out]
      clear i0 i1 i2 i3 i4 i5 i6 y0 y1 y2 y3 y4 y5 y6
      refine wp_region_gr [Is (.agg ([.int .u32 (x0 : Int), .int .u16 (x1 : Int), .int .u16 (x2 : Int), .bool un, .bool fi, .bool la, .slice p9 nd c9]).toArray), ChkF (DataD.chk ⟨x0, x1, x2, un, fi, la, bd⟩), Is (.agg ([.int .u8 (kc.toNat : Int), .int .u8 (fc.toNat : Int), .slice (some ⟨b0, off, none⟩) bc.length c]).toArray), Is (.bool q), Is (.bool (!q))] (by kernel_rfl) (by kernel_rfl) (by kernel_rfl) ?_ ?_ ?_
      · simp only [StabAll, Is.gr, RdF.gr, OwnF.gr, AnyF.gr, ChkF.gr, and_self]
      · rename_i Kk hKk; clear hKk Kk
        simp only [AllOps, List.map_cons, List.map_nil, depsOf, List.filterMap_cons, List.filterMap_nil, Region.binds, depFacts, guardF, reduceIte, List.getD_eq_getElem?_getD, List.getElem?_cons_succ, List.getElem?_cons_zero, Option.getD_some, factAt, and_true]
        refine ⟨?_, ?_, ?_, ?_, ?_⟩
        all_goals intro ρ wv hρ hR hd
        all_goals try simp only [Is] at hd
        · exact opOk_loadRow rfl (hh) (by first | exact hρ.2 _ rfl | simp [hd]) _ ([.int .u32 (x0 : Int), .int .u16 (x1 : Int), .int .u16 (x2 : Int), .bool un, .bool fi, .bool la, .slice p9 nd c9]) _ (HRW2.out.mono hR) Try.underlying26 rfl (by kernel_rfl) ⟨rfl, GrR.refl _⟩
        · exact opOk_call hρ.1 rfl rfl Try.func19 (by kernel_rfl) rfl (by simp [hd, hρ.1.const, hρ.1.func]) ((rputData_any _ ⟨x0, x1, x2, un, fi, la, bd⟩ ⟨by omega, by omega, by omega⟩ _ ⟨_, rfl, HO2.out.rd.mono hR⟩ (by show bd.length ≤ _; rw [HBL.out]; omega)).mono fun e w' ⟨s, h1, h2, h3⟩ => ⟨_, h1, ⟨s, rfl, h2.rd⟩, h3⟩)
        · exact opOk_loadRow rfl (w.heap.size) (by first | exact hρ.2 _ rfl | simp [hd]) _ ([.int .u8 (kc.toNat : Int), .int .u8 (fc.toNat : Int), .slice (some ⟨b0, off, none⟩) bc.length c]) _ (HC2.out.mono hR) Try.underlying28 rfl (by kernel_rfl) ⟨rfl, GrR.refl _⟩
        · exact opOk_call hρ.1 rfl rfl Try.func18 (by kernel_rfl) rfl (by simp [hd, hρ.1.const, hρ.1.func]) ((chkSame_any _ _ (DataD.chk ⟨x0, x1, x2, un, fi, la, bd⟩) ⟨kc, fc, bc⟩ _ hd.1 ⟨_, rfl, (HV.out.mono G2.out).mono hR⟩).mono fun e w' ⟨h1, h2⟩ => ⟨_, h1, (by rw [HQ.out]; rfl), h2⟩)
        · exact opOk_val (v := .bool (!q)) (w' := wv) (by simp [execOp, go_sem, hρ.1.const, hρ.1.func, hd]) ⟨rfl, GrR.refl _⟩
      · intro vals wv hR hall
        have hend := hall 4 (by simp)
        simp only [factAt, Is, List.getD_eq_getElem?_getD, List.getElem?_cons_succ, List.getElem?_cons_zero, Option.getD_some] at hend
        clear hall
        simp only [fillFrom, Act.put, hend, List.setIfInBounds_toArray, List.set_cons_zero, List.set_cons_succ]
        obtain ⟨w3, hw3⟩ : ∃ x, x = wv := ⟨_, rfl⟩
        subst hw3
        have HT3 := hid (HT2.out.mono hR)
        have HRW3 := hid (HRW2.out.mono hR)
        have HO3 := hid (HO2.out.mono hR)
        have G3 := hid (gr_trans G2.out hR)
        clear hR hend
        obtain ⟨j0, j1, j2, j3, j4, j5, j6, -⟩ := rowData HT3.out
        have y0 := HT3.out.frozen 0
        have y1 := HT3.out.frozen 1
        have y2 := HT3.out.frozen 2
        have y3 := HT3.out.frozen 3
        have y4 := HT3.out.frozen 4
        have y5 := HT3.out.frozen 5
        have y6 := HT3.out.frozen 6
        cases q
        · simp only [Bool.not_false]
          go_wp2_with fail
          refine rgetData_ret (.int .u32 0) (.int .u16 0) (.int .u16 0) (.bool false) (.bool false) (.bool false) (.slice none 0 0) 7 rfl rfl rfl (((((((HT3.out.store 0 (.int .u32 0)).store 1 (.int .u16 0)).store 2 (.int .u16 0)).store 3 (.bool false)).store 4 (.bool false)).store 5 (.bool false)).store 6 (.slice none 0 0)) ⟨.slice none 0 0, by rw [HRS.out]; rfl, ?_, (((((((G3.out.setCell (by simp; try omega) _).setCell (by simp; try omega) _).setCell (by simp; try omega) _).setCell (by simp; try omega) _).setCell (by simp; try omega) _).setCell (by simp; try omega) _).setCell (by simp; try omega) _)⟩
          rw [HRS.out]
          exact Own.nil _ _ _
        · simp only [Bool.not_true]
          obtain ⟨i0, i1, i2, i3, i4, i5, i6, -⟩ := rowData HRW3.out
          have hne : hh ≠ w.heap.size + 1 := by omega
          go_wp2_with fail
          refine rgetData_ret (.int .u32 (x0 : Int)) (.int .u16 (x1 : Int)) (.int .u16 (x2 : Int)) (.bool un) (.bool fi) (.bool la) (.slice p9 nd c9) 0 rfl rfl rfl (((((((HT3.out.store 0 (.int .u32 (x0 : Int))).store 1 (.int .u16 (x1 : Int))).store 2 (.int .u16 (x2 : Int))).store 3 (.bool un)).store 4 (.bool fi)).store 5 (.bool la)).store 6 (.slice p9 nd c9)) ⟨.slice p9 nd c9, by rw [HRS.out]; rfl, ?_, (((((((G3.out.setCell (by simp; try omega) _).setCell (by simp; try omega) _).setCell (by simp; try omega) _).setCell (by simp; try omega) _).setCell (by simp; try omega) _).setCell (by simp; try omega) _).setCell (by simp; try omega) _)⟩
          rw [HRS.out]
          show Own _ _ _ _ bd
          exact (HO3.out.keep (r := some (w.heap.size + 1)) (gb_set (gb_set (gb_set (gb_set (gb_set (gb_set (gb_set (gb_refl _ _) 0 _) 1 _) 2 _) 3 _) 4 _) 5 _) 6 _) (fun k hk e => by have := HO3.out.ge k hk; simp at e; omega)).base (show w.heap.size ≤ W.heap.size by omega)
end Go.Proofs.Ytfiblhdejglpaaa

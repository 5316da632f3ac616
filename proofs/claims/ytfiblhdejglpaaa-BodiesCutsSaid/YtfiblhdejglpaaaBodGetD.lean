/- bodies.GetData: what a chunk of data says. Conditions: what comes in reads as it should. -/
import Derived.Test.YtfiblhdejglpaaaGetsA
import Derived.Test.YtfiblhdejglpaaaBodGetters
namespace Go.FL
open Go.RowKit
def DataD.vals (d : DataD) (s : Value) : Value := .agg #[.int .u32 (d.tsn : Int), .int .u16 (d.st : Int), .int .u16 (d.ssn : Int), .bool d.un, .bool d.fi, .bool d.la, s]
def dataGet (c : Chk) : DataD × Int := if 12 < c.b.length ∧ (dataOf c).chk = c then (dataOf c, 0) else (.zero, 7)
theorem wf_i64 {n : Int} (h1 : -9223372036854775808 ≤ n) (h2 : n ≤ 9223372036854775807) : (Lit.int .i64 n).wf = true := by
  simp [Lit.wf, IntKind.min, IntKind.max, IntKind.signed, IntKind.bits]
  omega
theorem cutAt_rest (l : List UInt8) (a : Nat) : cutAt l a ((l.length : Int) - (a : Int)) = l.drop a := by
  unfold cutAt
  split
  · rw [List.take_of_length_le]
    simp
  · rw [List.drop_eq_nil_of_le]
    omega
theorem flag_ne (x : UInt8) : ((x.toNat : Int) != 0) = (x != 0) := by
  rw [Bool.eq_iff_iff]
  simp only [bne_iff_ne, ne_eq]
  exact not_congr (byte_eq x 0)
end Go.FL
namespace Go.Proofs.Ytfiblhdejglpaaa
open Go.RowKit Go.FL Go.ChangeShapes

theorem getData_ret {a : Act} {W : World} {g : Nat} {R : Ending → World → Prop} (v0 v1 v2 v3 v4 v5 v6 : Value) (er : Int) (h2 : a.tmps.getD 2 undef = .pointer (some ⟨g, 0, none⟩)) (h3 : a.tmps.getD 3 undef = .int .i64 er) (hd : a.defers = [])
    (hc : RowV W g 26 [v0, v1, v2, v3, v4, v5, v6]) (hR : R (.returned (.tuple #[.agg #[v0, v1, v2, v3, v4, v5, v6], .int .i64 er])) W) : bodyPost Try.prog Try.f16 R .ret a W := by
  refine bodyPost_ret (v := .tuple #[.agg #[v0, v1, v2, v3, v4, v5, v6], .int .i64 er]) ?_ hd hR
  obtain ⟨c0, c1, c2, c3, c4, c5, c6, -⟩ := rowData hc
  simp only [Array.getD_eq_getD_getElem?] at h2 h3
  simp [results, Try.results16, go_sem, h2, h3, asAddr, c0, c1, c2, c3, c4, c5, c6]

set_option maxRecDepth 100000 in
set_option maxHeartbeats 4000000 in
theorem getData_any (v : Value) (ch : Chk) (w : World) (h : ChkV w v ch) (hl : ch.b.length ≤ 1000000) :
    Calls Try.prog 16 #[v] w fun e w' => ∃ s, e = .returned (.tuple #[(dataGet ch).1.vals s, .int .i64 (dataGet ch).2]) ∧ Own w' w.heap.size 5 s (dataGet ch).1.b ∧ Below w.heap.size w w' := by
  obtain ⟨s, rfl, hrd⟩ := h
  have HV := hid hrd
  obtain ⟨p, c, rfl, hlc, hcm, hpn, hcell⟩ := hrd
  unfold maxLen at hcm
  clear hcell
  obtain ⟨kc, fc, bc⟩ := ch
  simp only at *
  have hn0 := numAt_lt bc 0 4
  have hn1 := numAt_lt bc 4 2
  have hn2 := numAt_lt bc 6 2
  obtain ⟨x0, hx0⟩ : ∃ x, x = numAt bc 0 4 := ⟨_, rfl⟩
  obtain ⟨x1, hx1⟩ : ∃ x, x = numAt bc 4 2 := ⟨_, rfl⟩
  obtain ⟨x2, hx2⟩ : ∃ x, x = numAt bc 6 2 := ⟨_, rfl⟩
  rw [← hx0] at hn0
  rw [← hx1] at hn1
  rw [← hx2] at hn2
  have HX0 := hid hx0
  have HX1 := hid hx1
  have HX2 := hid hx2
  obtain ⟨un, hun⟩ : ∃ b, b = (fc &&& 4 != 0) := ⟨_, rfl⟩
  obtain ⟨fi, hfi⟩ : ∃ b, b = (fc &&& 2 != 0) := ⟨_, rfl⟩
  obtain ⟨la, hla⟩ : ∃ b, b = (fc &&& 1 != 0) := ⟨_, rfl⟩
  obtain ⟨f4, hf4⟩ : ∃ b, b = fc &&& 4 := ⟨_, rfl⟩
  obtain ⟨f2, hf2⟩ : ∃ b, b = fc &&& 2 := ⟨_, rfl⟩
  obtain ⟨f1, hf1⟩ : ∃ b, b = fc &&& 1 := ⟨_, rfl⟩
  have HA4 := hid (show bits .and .u8 (fc.toNat : Int) 4 = (f4.toNat : Int) by rw [hf4]; exact bits_and8 fc 4)
  have HA2 := hid (show bits .and .u8 (fc.toNat : Int) 2 = (f2.toNat : Int) by rw [hf2]; exact bits_and8 fc 2)
  have HA1 := hid (show bits .and .u8 (fc.toNat : Int) 1 = (f1.toNat : Int) by rw [hf1]; exact bits_and8 fc 1)
  have HB4 := hid (show ((f4.toNat : Int) != 0) = un by rw [flag_ne, hf4, hun])
  have HB2 := hid (show ((f2.toNat : Int) != 0) = fi by rw [flag_ne, hf2, hfi])
  have HB1 := hid (show ((f1.toNat : Int) != 0) = la by rw [flag_ne, hf1, hla])
  have HDO := hid (show dataOf ⟨kc, fc, bc⟩ = ⟨x0, x1, x2, un, fi, la, bc.drop 12⟩ by rw [dataOf, hx0, hx1, hx2, hun, hfi, hla])
  obtain ⟨res, hres⟩ : ∃ r, r = dataGet ⟨kc, fc, bc⟩ := ⟨_, rfl⟩
  rw [← hres]
  have HRES := hid hres
  clear hx0 hx1 hx2 hun hfi hla hf4 hf2 hf1 hres
  have HW0 := hid (show IntKind.u32.wrap (x0 : Int) = (x0 : Int) by rw [wrap_u32_lt]; omega)
  have HW1 := hid (show IntKind.u16.wrap (x1 : Int) = (x1 : Int) by rw [IntKind.wrap_u16]; omega)
  have HW2 := hid (show IntKind.u16.wrap (x2 : Int) = (x2 : Int) by rw [IntKind.wrap_u16]; omega)
  obtain ⟨Wa, hWa⟩ : ∃ W0, W0 = w.alloc (.cells #[.int .u8 (kc.toNat : Int), .int .u8 (fc.toNat : Int), .slice p bc.length c] 28 (0, 0)) := ⟨_, rfl⟩
  have hsa : Wa.heap.size = w.heap.size + 1 := by rw [hWa]; simp
  obtain ⟨Wb, hWb⟩ : ∃ W0, W0 = Wa.alloc (.cells #[.int .u32 0, .int .u16 0, .int .u16 0, .bool false, .bool false, .bool false, .slice none 0 0] 26 (0, 0)) := ⟨_, rfl⟩
  have hsb : Wb.heap.size = w.heap.size + 2 := by rw [hWb]; simp [hsa]
  obtain ⟨W, hW⟩ : ∃ W, W = Wb.alloc (.cells #[.slice p bc.length c, .int .i64 0] 90 (0, 0)) := ⟨_, rfl⟩
  have HC := hid (show RowV W w.heap.size 28 [.int .u8 (kc.toNat : Int), .int .u8 (fc.toNat : Int), .slice p bc.length c] by rw [hW, hWb, hWa]; exact ((RowV.new w 28 _).alloc _).alloc _)
  have HT := hid (show RowV W (w.heap.size + 1) 26 [.int .u32 0, .int .u16 0, .int .u16 0, .bool false, .bool false, .bool false, .slice none 0 0] by rw [hW, hWb, ← hsa]; exact (RowV.new Wa 26 _).alloc _)
  have HR := hid (show RdrAt (w.heap.size + 2) (.slice p bc.length c) 0 W by rw [hW, ← hsb]; exact RowV.new Wb 90 _)
  have G0 := hid (show Below w.heap.size w W by rw [hW, hWb, hWa]; exact (((Below.refl _ _).alloc (Nat.le_refl _) _).alloc (by simp) _).alloc (by simp; omega) _)
  have hs1 : W.heap.size = w.heap.size + 3 := by rw [hW]; simp [hsb]
  rw [hWb, hWa] at hW
  have HE := hid hW
  have K1 := hid (HC.out.at 1 (by simp))
  simp only [List.getElem_cons_succ, List.getElem_cons_zero] at K1
  have HG := hid (fun (wx : World) (h : GbR (w.heap.size + 2) W wx) => (show Below w.heap.size w wx from G0.out.trans (gb_below h (by omega) (by omega))))
  clear hW hWa hWb hsa hsb
  have hkb := byte_lt kc
  have hfb := byte_lt fc
  go_enter Try.func16, Try.ntmps16
  go_wp2_with fail
  rw [← HE.out]
  refine wp_region_take 23 (w.heap.size + 2) [1, 4, 7] (fun k wx => RdrAt (w.heap.size + 2) (.slice p bc.length c) ([0, 4, 6, 8].getD k 0) wx) [Is (.pointer (some ⟨w.heap.size + 2, 0, none⟩)), Is (.int .u64 (x0 : Int)), Is (.int .u32 (x0 : Int)), Is (.pointer (some ⟨w.heap.size + 2, 0, none⟩)), Is (.int .u64 (x1 : Int)), Is (.int .u16 (x1 : Int)), Is (.pointer (some ⟨w.heap.size + 2, 0, none⟩)), Is (.int .u64 (x2 : Int)), Is (.int .u16 (x2 : Int)), Is (.pointer (some ⟨w.heap.size, 1, none⟩)), Is (.int .u8 (fc.toNat : Int)), Is (.int .u8 (f4.toNat : Int)), Is (.bool un), Is (.pointer (some ⟨w.heap.size, 1, none⟩)), Is (.int .u8 (fc.toNat : Int)), Is (.int .u8 (f2.toNat : Int)), Is (.bool fi), Is (.pointer (some ⟨w.heap.size, 1, none⟩)), Is (.int .u8 (fc.toNat : Int)), Is (.int .u8 (f1.toNat : Int)), Is (.bool la), Is (.agg #[.int .u32 (x0 : Int), .int .u16 (x1 : Int), .int .u16 (x2 : Int), .bool un, .bool fi, .bool la, .slice none 0 0]), NewF W.heap.size 26 [.int .u32 0, .int .u16 0, .int .u16 0, .bool false, .bool false, .bool false, .slice none 0 0]] (by kernel_rfl) (by kernel_rfl) (by kernel_rfl) (by kernel_rfl) (by kernel_rfl) (by kernel_rfl) (by kernel_rfl) (HR.out) (fun _ _ _ h k => RowV.mono h k) ?_ ?_ ?_
  · exact ⟨Is.stab _ _, Is.stab _ _, Is.stab _ _, Is.stab _ _, Is.stab _ _, Is.stab _ _, Is.stab _ _, Is.stab _ _, Is.stab _ _, Is.stab _ _, Is.stab _ _, Is.stab _ _, Is.stab _ _, Is.stab _ _, Is.stab _ _, Is.stab _ _, Is.stab _ _, Is.stab _ _, Is.stab _ _, Is.stab _ _, Is.stab _ _, Is.stab _ _, NewF.gb _ (show w.heap.size + 2 < W.heap.size by omega), trivial⟩
  · rename_i Kk hKk; clear hKk Kk
    simp only [List.take_succ_cons, List.take_zero, AllOpsC, wrAt, Nat.reduceAdd, Nat.reduceEqDiff, Option.map_some, Option.map_none, List.map_cons, List.map_nil, depsOf, List.filterMap_cons, List.filterMap_nil, Region.binds, depFacts, guardF, reduceIte, List.getD_eq_getElem?_getD, List.getElem?_cons_succ, List.getElem?_cons_zero, Option.getD_some, factAt, and_true]
    refine ⟨?_, ?_, ?_, ?_, ?_, ?_, ?_, ?_, ?_, ?_, ?_, ?_, ?_, ?_, ?_, ?_, ?_, ?_, ?_, ?_, ?_, ?_, ?_⟩
    all_goals intro ρ wv hρ hR hd
    all_goals try simp only [Is] at hd
    · exact opOk_move (.inl rfl) ⟨by simp only [Is]; (first | exact hρ.2 4 rfl | exact hd | exact hd.1 | exact hd.2 | simp [hd]), GrR.refl _⟩
    · (first | refine ⟨rfl, fun hJ => ?_⟩ | refine ⟨trivial, fun hJ => ?_⟩ | intro hJ); exact opOk_call hρ.1 rfl rfl Try.func50 (by kernel_rfl) rfl (by simp [hd, hρ.1.const, hρ.1.func]) ((btake_any _ _ bc 0 4 _ rfl (by omega) _ hJ (HV.out.mono (HG.out _ hR)) (by omega)).mono fun e w' ⟨h1, h2, h3⟩ => ⟨_, h1, by rw [HX0.out]; rfl, h3, h2⟩)
    · exact opOk_val (v := .int .u32 (x0 : Int)) (w' := wv) (by simp [execOp, go_sem, hρ.1.const, hρ.1.func, hd, HW0.out]) ⟨rfl, GrR.refl _⟩
    · exact opOk_move (.inl rfl) ⟨by simp only [Is]; (first | exact hρ.2 4 rfl | exact hd | exact hd.1 | exact hd.2 | simp [hd]), GrR.refl _⟩
    · (first | refine ⟨rfl, fun hJ => ?_⟩ | refine ⟨trivial, fun hJ => ?_⟩ | intro hJ); exact opOk_call hρ.1 rfl rfl Try.func50 (by kernel_rfl) rfl (by simp [hd, hρ.1.const, hρ.1.func]) ((btake_any _ _ bc 4 2 _ rfl (by omega) _ hJ (HV.out.mono (HG.out _ hR)) (by omega)).mono fun e w' ⟨h1, h2, h3⟩ => ⟨_, h1, by rw [HX1.out]; rfl, h3, h2⟩)
    · exact opOk_val (v := .int .u16 (x1 : Int)) (w' := wv) (by simp [execOp, go_sem, hρ.1.const, hρ.1.func, hd, HW1.out]) ⟨rfl, GrR.refl _⟩
    · exact opOk_move (.inl rfl) ⟨by simp only [Is]; (first | exact hρ.2 4 rfl | exact hd | exact hd.1 | exact hd.2 | simp [hd]), GrR.refl _⟩
    · (first | refine ⟨rfl, fun hJ => ?_⟩ | refine ⟨trivial, fun hJ => ?_⟩ | intro hJ); exact opOk_call hρ.1 rfl rfl Try.func50 (by kernel_rfl) rfl (by simp [hd, hρ.1.const, hρ.1.func]) ((btake_any _ _ bc 6 2 _ rfl (by omega) _ hJ (HV.out.mono (HG.out _ hR)) (by omega)).mono fun e w' ⟨h1, h2, h3⟩ => ⟨_, h1, by rw [HX2.out]; rfl, h3, h2⟩)
    · exact opOk_val (v := .int .u16 (x2 : Int)) (w' := wv) (by simp [execOp, go_sem, hρ.1.const, hρ.1.func, hd, HW2.out]) ⟨rfl, GrR.refl _⟩
    · exact opOk_val (v := .pointer (some ⟨w.heap.size, 1, none⟩)) (w' := wv) (by simp [execOp, go_sem, hρ.1.const, hρ.1.func, hd, (hρ.2 1 rfl)]) ⟨rfl, GrR.refl _⟩
    · (have h0 := cell_gb hR K1.out (by simp); exact opOk_val (v := .int .u8 (fc.toNat : Int)) (w' := wv) (by simp [execOp, go_sem, hd, h0]) ⟨rfl, GrR.refl _⟩)
    · exact opOk_val (v := .int .u8 (f4.toNat : Int)) (w' := wv) (by simp [execOp, go_sem, hρ.1.const, hρ.1.func, hd, HA4.out]) ⟨rfl, GrR.refl _⟩
    · exact opOk_val (v := .bool un) (w' := wv) (by simp [execOp, go_sem, hρ.1.const, hρ.1.func, hd, HB4.out]) ⟨rfl, GrR.refl _⟩
    · exact opOk_val (v := .pointer (some ⟨w.heap.size, 1, none⟩)) (w' := wv) (by simp [execOp, go_sem, hρ.1.const, hρ.1.func, hd, (hρ.2 1 rfl)]) ⟨rfl, GrR.refl _⟩
    · (have h0 := cell_gb hR K1.out (by simp); exact opOk_val (v := .int .u8 (fc.toNat : Int)) (w' := wv) (by simp [execOp, go_sem, hd, h0]) ⟨rfl, GrR.refl _⟩)
    · exact opOk_val (v := .int .u8 (f2.toNat : Int)) (w' := wv) (by simp [execOp, go_sem, hρ.1.const, hρ.1.func, hd, HA2.out]) ⟨rfl, GrR.refl _⟩
    · exact opOk_val (v := .bool fi) (w' := wv) (by simp [execOp, go_sem, hρ.1.const, hρ.1.func, hd, HB2.out]) ⟨rfl, GrR.refl _⟩
    · exact opOk_val (v := .pointer (some ⟨w.heap.size, 1, none⟩)) (w' := wv) (by simp [execOp, go_sem, hρ.1.const, hρ.1.func, hd, (hρ.2 1 rfl)]) ⟨rfl, GrR.refl _⟩
    · (have h0 := cell_gb hR K1.out (by simp); exact opOk_val (v := .int .u8 (fc.toNat : Int)) (w' := wv) (by simp [execOp, go_sem, hd, h0]) ⟨rfl, GrR.refl _⟩)
    · exact opOk_val (v := .int .u8 (f1.toNat : Int)) (w' := wv) (by simp [execOp, go_sem, hρ.1.const, hρ.1.func, hd, HA1.out]) ⟨rfl, GrR.refl _⟩
    · exact opOk_val (v := .bool la) (w' := wv) (by simp [execOp, go_sem, hρ.1.const, hρ.1.func, hd, HB1.out]) ⟨rfl, GrR.refl _⟩
    · exact opOk_val (v := .agg #[.int .u32 (x0 : Int), .int .u16 (x1 : Int), .int .u16 (x2 : Int), .bool un, .bool fi, .bool la, .slice none 0 0]) (w' := wv) (by simp [execOp, go_sem, hρ.1.const, hρ.1.func, hd]) ⟨rfl, GrR.refl _⟩
    · exact opOk_val (v := .pointer (some ⟨wv.heap.size, 0, none⟩)) (w' := wv.alloc (.cells #[.int .u32 0, .int .u16 0, .int .u16 0, .bool false, .bool false, .bool false, .slice none 0 0] 26 (0, 0))) (by simp [execOp, go_sem]) ⟨⟨_, rfl, hR.size, RowV.new wv 26 [.int .u32 0, .int .u16 0, .int .u16 0, .bool false, .bool false, .bool false, .slice none 0 0]⟩, (Below.refl _ _).alloc (Nat.le_refl _) _⟩
  · intro vals wv hR hJ hall
    have i21 := hall 21 (by omega)
    have i22 := hall 22 (by omega)
    simp only [factAt, Is, NewF, List.getD_eq_getElem?_getD, List.getElem?_cons_succ, List.getElem?_cons_zero, Option.getD_some] at i21 i22
    clear hall
    obtain ⟨h, hh, hge, hrow⟩ := i22
    simp only [List.take_succ_cons, List.take_zero, List.drop_succ_cons, List.drop_zero, fillFrom, Act.put, i21, hh, List.setIfInBounds_toArray, List.set_cons_zero, List.set_cons_succ, Nat.zero_add, Nat.reduceAdd]
    have HRW := hid hrow
    have G1 := hid (HG.out _ hR)
    have HC1 := hid (HC.out.grown hR (fun e => by simp at e))
    have HT1 := hid (HT.out.grown hR (fun e => by simp at e))
    have HJ1 := hid (show RdrAt (w.heap.size + 2) (.slice p bc.length c) 8 wv from hJ)
    obtain ⟨w1, hw1⟩ : ∃ x, x = wv := ⟨_, rfl⟩
    subst hw1
    obtain ⟨i0, i1, i2, i3, i4, i5, i6, -⟩ := rowData HRW.out
    have y0 := HRW.out.frozen 0
    have y1 := HRW.out.frozen 1
    have y2 := HRW.out.frozen 2
    have y3 := HRW.out.frozen 3
    have y4 := HRW.out.frozen 4
    have y5 := HRW.out.frozen 5
    have y6 := HRW.out.frozen 6
    clear hR hJ i21 hh hrow
    obtain ⟨w2, hw2⟩ : ∃ x, x = (((((((w1.setCell ⟨h, 0, none⟩ (.int .u32 (x0 : Int))).setCell ⟨h, 1, none⟩ (.int .u16 (x1 : Int))).setCell ⟨h, 2, none⟩ (.int .u16 (x2 : Int))).setCell ⟨h, 3, none⟩ (.bool un)).setCell ⟨h, 4, none⟩ (.bool fi)).setCell ⟨h, 5, none⟩ (.bool la)).setCell ⟨h, 6, none⟩ (.slice none 0 0)) := ⟨_, rfl⟩
    have HRW2 := hid (show RowV w2 h 26 [.int .u32 (x0 : Int), .int .u16 (x1 : Int), .int .u16 (x2 : Int), .bool un, .bool fi, .bool la, .slice none 0 0] by rw [hw2]; exact (((((((HRW.out.store 0 (.int .u32 (x0 : Int))).store 1 (.int .u16 (x1 : Int))).store 2 (.int .u16 (x2 : Int))).store 3 (.bool un)).store 4 (.bool fi)).store 5 (.bool la)).store 6 (.slice none 0 0)))
    have g2 : w1.grownBy w2 (some h) := by rw [hw2]; exact gb_set (gb_set (gb_set (gb_set (gb_set (gb_set (gb_set (gb_refl _ _) 0 _) 1 _) 2 _) 3 _) 4 _) 5 _) 6 _
    have HC2 := hid (HC1.out.grown g2 (fun e => by simp at e; omega))
    have HT2 := hid (HT1.out.grown g2 (fun e => by simp at e; omega))
    have HJ2 := hid (show RdrAt (w.heap.size + 2) (.slice p bc.length c) 8 w2 from RowV.grown HJ1.out g2 (fun e => by simp at e; omega))
    have G2 := hid (show Below w.heap.size w w2 from G1.out.trans (gb_below g2 (by omega) G1.out.size))
    have HE2 := hid hw2
    have hlt1 := HRW.out.lt
    have hsz2 := g2.size
    clear hw2 g2
    go_wp2_with fail
    rw [← HE2.out]
    clear i0 i1 i2 i3 i4 i5 i6 y0 y1 y2 y3 y4 y5 y6
    refine (btake_any _ _ bc 8 4 _ rfl (by omega) _ HJ2.out (HV.out.mono G2.out) (by omega)).mono ?_
    rintro e w3 ⟨rfl, hj3, hg3⟩
    have HJ3 := hid hj3
    have HC3 := hid (HC2.out.grown hg3 (fun e => by simp at e))
    have HT3 := hid (HT2.out.grown hg3 (fun e => by simp at e))
    have HRW3 := hid (HRW2.out.grown hg3 (fun e => by simp at e; omega))
    have G3 := hid (show Below w.heap.size w w3 from G2.out.trans (gb_below hg3 (by omega) G2.out.size))
    have hsz3 := hg3.size
    clear hj3 hg3
    generalize numAt bc 8 4 = xx at *
    go_wp2_with fail
    refine (bleft_any _ _ bc 12 _ HJ3.out (HV.out.mono G3.out) (by omega)).mono ?_
    rintro e w4 ⟨rfl, hb4⟩
    have HJ4 := hid (show RdrAt (w.heap.size + 2) (.slice p bc.length c) 12 w4 from RowV.mono HJ3.out hb4)
    have HC4 := hid (HC3.out.mono hb4)
    have HT4 := hid (HT3.out.mono hb4)
    have HRW4 := hid (HRW3.out.mono hb4)
    have G4 := hid (gr_trans G3.out hb4)
    have hsz4 := hb4.size
    clear hb4
    go_wp2_with fail
    refine (brest_any _ _ bc 12 ((bc.length : Int) - 12) (wf_i64 (by omega) (by omega)) _ HJ4.out (HV.out.mono G4.out) (by omega) (by omega)).mono ?_
    rintro e w5 ⟨v5, rfl, ho5, hj5, hg5⟩
    rw [show cutAt bc 12 ((bc.length : Int) - 12) = bc.drop 12 from cutAt_rest bc 12] at ho5
    have HC5 := hid (HC4.out.grown hg5 (fun e => by simp at e))
    have HT5 := hid (HT4.out.grown hg5 (fun e => by simp at e))
    have HRW5 := hid (HRW4.out.grown hg5 (fun e => by simp at e; omega))
    have G5 := hid (show Below w.heap.size w w5 from G4.out.trans (gb_below hg5 (by omega) G4.out.size))
    have hlt4 := HRW4.out.lt
    have hsz5 := hg5.size
    obtain ⟨bd, hbd⟩ : ∃ x, x = bc.drop 12 := ⟨_, rfl⟩
    have HBD := hid hbd
    have HBL := hid (show bd.length = bc.length - 12 by rw [hbd, List.length_drop])
    rw [← hbd] at ho5 HDO
    obtain ⟨p5, c5, rfl, hl5, hm5, -, -⟩ := ho5.rd
    unfold maxLen at hm5
    have HO5 := hid ho5
    obtain ⟨nd, hnd⟩ : ∃ n, n = bd.length := ⟨_, rfl⟩
    have HND := hid hnd
    rw [← hnd] at HO5 hl5 ⊢
    clear ho5 hj5 hg5 hbd hnd
    have t6 := HRW5.out.at 6 (by simp)
    have u6 := HRW5.out.frozen 6
    simp only [List.getElem_cons_succ, List.getElem_cons_zero] at t6
    obtain ⟨w6, hw6⟩ : ∃ x, x = w5.setCell ⟨h, 6, none⟩ (.slice p5 nd c5) := ⟨_, rfl⟩
    have HRW6 := hid (show RowV w6 h 26 [.int .u32 (x0 : Int), .int .u16 (x1 : Int), .int .u16 (x2 : Int), .bool un, .bool fi, .bool la, .slice p5 nd c5] by rw [hw6]; exact HRW5.out.store 6 _)
    have g6 : w5.grownBy w6 (some h) := by rw [hw6]; exact gb_set (gb_refl _ _) 6 _
    have HC6 := hid (HC5.out.grown g6 (fun e => by simp at e; omega))
    have HT6 := hid (HT5.out.grown g6 (fun e => by simp at e; omega))
    have HO6 := hid (HO5.out.keep g6 (fun k hk e => by have := HO5.out.ge k hk; simp at e; omega))
    have G6 := hid (show Below w.heap.size w w6 from G5.out.trans (gb_below g6 (by omega) G5.out.size))
    have HE6 := hid hw6
    obtain ⟨i0, i1, i2, i3, i4, i5, i6, -⟩ := rowData HRW6.out
    obtain ⟨k0, k1, k2⟩ := HC6.out.three
    rw [hw6] at i0 i1 i2 i3 i4 i5 i6 k0 k1 k2
    clear hw6 g6
    go_wp2_with fail
    rw [← HE6.out]
    clear i0 i1 i2 i3 i4 i5 i6 k0 k1 k2
    refine (bgetData_any x0 x1 x2 un fi la p5 nd c5 kc fc _ bc (decide (0 < nd)) _ (HV.out.mono G6.out) (DataD.chk ⟨x0, x1, x2, un, fi, la, bd⟩) (fun wx hbx => putData_any _ ⟨x0, x1, x2, un, fi, la, bd⟩ ⟨hn0, hn1, hn2⟩ wx ⟨_, rfl, HO6.out.rd.mono hbx⟩ (by show bd.length ≤ _; rw [HBL.out]; omega))).mono ?_
    rintro e w7 ⟨rfl, hb7⟩
    have HT7 := hid (HT6.out.mono hb7)
    have HO7 := hid (HO6.out.mono hb7)
    have G7 := hid (gr_trans G6.out hb7)
    have hge7 : w.heap.size + 1 < w4.heap.size := by have := HT4.out.lt; omega
    clear hb7
    obtain ⟨j0, j1, j2, j3, j4, j5, j6, -⟩ := rowData HT7.out
    have y0 := HT7.out.frozen 0
    have y1 := HT7.out.frozen 1
    have y2 := HT7.out.frozen 2
    have y3 := HT7.out.frozen 3
    have y4 := HT7.out.frozen 4
    have y5 := HT7.out.frozen 5
    have y6 := HT7.out.frozen 6
    by_cases hq : decide (0 < nd) = true ∧ DataD.chk ⟨x0, x1, x2, un, fi, la, bd⟩ = ⟨kc, fc, bc⟩
    · have HRS := hid (show res = (⟨x0, x1, x2, un, fi, la, bd⟩, 0) by
        rw [HRES.out, dataGet, HDO.out, if_pos]
        refine ⟨?_, hq.2⟩
        have h1 := of_decide_eq_true hq.1
        have := HBL.out
        have := HND.out
        show 12 < bc.length
        omega)
      rw [if_pos hq]
      clear hq
      go_wp2_with fail
      refine getData_ret (.int .u32 (x0 : Int)) (.int .u16 (x1 : Int)) (.int .u16 (x2 : Int)) (.bool un) (.bool fi) (.bool la) (.slice p5 nd c5) 0 rfl rfl rfl (((((((HT7.out.store 0 (.int .u32 (x0 : Int))).store 1 (.int .u16 (x1 : Int))).store 2 (.int .u16 (x2 : Int))).store 3 (.bool un)).store 4 (.bool fi)).store 5 (.bool la)).store 6 (.slice p5 nd c5)) ⟨.slice p5 nd c5, by rw [HRS.out]; rfl, ?_, (((((((G7.out.setCell (by simp; try omega) _).setCell (by simp; try omega) _).setCell (by simp; try omega) _).setCell (by simp; try omega) _).setCell (by simp; try omega) _).setCell (by simp; try omega) _).setCell (by simp; try omega) _)⟩
      rw [HRS.out]
      exact (HO7.out.keep (r := some (w.heap.size + 1)) (gb_set (gb_set (gb_set (gb_set (gb_set (gb_set (gb_set (gb_refl _ _) 0 _) 1 _) 2 _) 3 _) 4 _) 5 _) 6 _) (fun k hk e => by have := HO7.out.ge k hk; simp at e; omega)).base (show w.heap.size ≤ w4.heap.size by omega)
    · have HRS := hid (show res = (.zero, 7) by
        rw [HRES.out, dataGet, HDO.out, if_neg]
        intro hc
        refine hq ⟨decide_eq_true ?_, hc.2⟩
        have h1 : 12 < bc.length := hc.1
        have := HBL.out
        have := HND.out
        omega)
      rw [if_neg hq]
      clear hq
      go_wp2_with fail
      refine getData_ret (.int .u32 0) (.int .u16 0) (.int .u16 0) (.bool false) (.bool false) (.bool false) (.slice none 0 0) 7 rfl rfl rfl (((((((HT7.out.store 0 (.int .u32 0)).store 1 (.int .u16 0)).store 2 (.int .u16 0)).store 3 (.bool false)).store 4 (.bool false)).store 5 (.bool false)).store 6 (.slice none 0 0)) ⟨.slice none 0 0, by rw [HRS.out]; rfl, ?_, (((((((G7.out.setCell (by simp; try omega) _).setCell (by simp; try omega) _).setCell (by simp; try omega) _).setCell (by simp; try omega) _).setCell (by simp; try omega) _).setCell (by simp; try omega) _).setCell (by simp; try omega) _)⟩
      rw [HRS.out]
      exact Own.nil _ _ _
end Go.Proofs.Ytfiblhdejglpaaa

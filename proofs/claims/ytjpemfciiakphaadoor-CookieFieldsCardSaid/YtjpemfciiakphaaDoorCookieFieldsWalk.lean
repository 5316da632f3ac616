/- CookieFields: the walk of the law. Conditions: the tables of sha hold what its text says. -/
import Derived.Test.YtjpemfciiakphaaDoorCookWorks
import Derived.Test.YtjpemfciiakphaaDoorCookOpen
import Derived.Test.YtjpemfciiakphaaDoorCookMath2
import Derived.Test.YtjpemfciiakphaaDoorRegGr
namespace Go.FL
open Go.RowKit
theorem run_slice_lohi {P : Program} (t e : TypeId) (ht : P.underlying t = some (.slice e)) (hz : (P.info? e).map (·.size) = some 1) (p : Option Addr) (n c i j : Nat) (hi : i ≤ j) (hj : j ≤ c) (k k' : IntKind) (w : World) :
    (Instr.slice t (.slice p n c) (some (.int k (i : Int))) (some (.int k' (j : Int))) none).run P w = .ok (sliced p i j c 1) w := by
  cases hq : P.info? e with
  | none => simp [hq] at hz
  | some inf =>
    have hs : inf.size = 1 := by simpa [hq] using hz
    simp [Instr.slice, run_underlying ht, Instr.sliceBounds, run_sliceBound, sizeOf, typeInfo, hq, hs, hi, hj, sliced]
theorem natb (a b : Nat) : ((a : Int) == (b : Int)) = decide (a = b) := by rw [Bool.eq_iff_iff]; simp; omega
theorem intb (a b : Int) : (a == b) = decide (a = b) := by rw [Bool.eq_iff_iff]; simp
theorem cfroms_at (i : Nat) (hi : i < 8) : (cfroms.tail.map fun x : Nat => Value.int .i64 (x : Int))[i]'(by simpa [cfroms] using hi) = .int .i64 (cfrom (i + 1) : Int) := by
  match i, hi with
  | 0, _ => rfl
  | 1, _ => rfl
  | 2, _ => rfl
  | 3, _ => rfl
  | 4, _ => rfl
  | 5, _ => rfl
  | 6, _ => rfl
  | 7, _ => rfl
end Go.FL
namespace Go.Proofs.YtjpemfciiakphaaDoor
open Go.RowKit Go.FL Go.ChangeShapes

set_option maxRecDepth 100000 in
set_option maxHeartbeats 4000000 in
theorem cookieFields_walk {w : World} (hlaid : ShaLaid w) {v : Value} (key : List UInt8) (hv : Rd w v key) {u : Value} (c : CookD) (hu : CookAt u c) {x : Value} (d : CookD) (hx : CookAt x d) :
    Calls Tryd.prog 6 #[v, u, x] w fun e w' => e = .returned (.bool true) ∧ Below w.heap.size w w' := by
  have HL := hid hlaid
  have HV := hid hv
  obtain ⟨rfl, hwf⟩ := hu
  obtain ⟨rfl, hwf2⟩ := hx
  have HWF := hid hwf
  have HWF2 := hid hwf2
  obtain ⟨p, cp, rfl, _, hcm, _, hcell⟩ := hv
  unfold maxLen at hcm
  clear hcell hlaid hwf hwf2
  obtain ⟨W0, hW0⟩ : ∃ W0, W0 = w.alloc (.cells c.cells.toArray 26 (0, 0)) := ⟨_, rfl⟩
  have hs0 : W0.heap.size = w.heap.size + 1 := by rw [hW0]; simp
  obtain ⟨W, hW⟩ : ∃ W, W = W0.alloc (.cells d.cells.toArray 26 (0, 0)) := ⟨_, rfl⟩
  have HR := hid (show RowV W w.heap.size 26 c.cells by rw [hW, hW0]; exact (RowV.new w 26 _).alloc _)
  have HQ := hid (show RowV W (w.heap.size + 1) 26 d.cells by rw [hW, ← hs0]; exact RowV.new W0 26 _)
  have HW := hid (show Below w.heap.size w W by rw [hW, hW0]; exact ((Below.refl _ _).alloc (Nat.le_refl _) _).alloc (by simp) _)
  rw [hW0] at hW
  clear hW0 hs0
  obtain ⟨b1, hb1⟩ : ∃ b1, b1 = cookBytes key c := ⟨_, rfl⟩
  obtain ⟨b2, hb2⟩ : ∃ b2, b2 = cookBytes key d := ⟨_, rfl⟩
  obtain ⟨bv, hbv⟩ : ∃ bv, bv = cones c d := ⟨_, rfl⟩
  have HB1 := hid hb1
  have HB2 := hid hb2
  have HBL1 := hid (show b1.length = 64 by rw [hb1, cookBytes_length])
  have HBL2 := hid (show b2.length = 64 by rw [hb2, cookBytes_length])
  have HBV := hid hbv
  have hbvl : bv.length = 8 := by rw [hbv]; rfl
  have HLV := hid hbvl
  have HAT := hid (show ∀ i, i < 8 → bv[i]? = some (decide ((b1.drop (cfrom i)).take (cfrom (i + 1) - cfrom i) = (b2.drop (cfrom i)).take (cfrom (i + 1) - cfrom i))) from fun i hi => by
    rw [hb1, hb2, hbv, cookBytes, cookBytes, cones_at c d HWF.out HWF2.out _ _ i hi]
    exact List.getElem?_eq_getElem hi)
  have HCW := hid (fun (v : Value) (wx : World) (h : Rd wx v key) (hl : ShaLaid wx) => HB1.out ▸ cookWrite_any v key c HWF.out wx h hl)
  have HCX := hid (fun (v : Value) (wx : World) (h : Rd wx v key) (hl : ShaLaid wx) => HB2.out ▸ cookWrite_any v key d HWF2.out wx h hl)
  clear hbvl hb1 hb2 hbv
  obtain ⟨born, ot, pt, otsn, ptsn, rwn, out, in_⟩ := c
  obtain ⟨born2, ot2, pt2, otsn2, ptsn2, rwn2, out2, in2⟩ := d
  simp only [CookD.val, CookD.cells] at *
  have HE := hid hW
  clear hW
  by_cases hbig : 4096 < key.length
  · go_enter Tryd.func6, Tryd.ntmps6
    go_wp2_with fail
    rw [← HE.out]
    refine (works_any _ (HL.out.mono HW.out)).mono ?_
    rintro e w' ⟨rfl, hb⟩
    go_wp2_with fail
    go_ret
    exact ⟨rfl, gr_trans HW.out hb⟩
  · have hk4 : key.length ≤ 4096 := by omega
    clear hbig
    obtain ⟨k0, k1, k2, k3, k4, k5, k6, k7⟩ := HR.out.eight
    rw [HE.out] at k0 k1 k2 k3 k4 k5 k6 k7
    go_enter Tryd.func6, Tryd.ntmps6
    go_wp2_with fail
    rw [← HE.out]
    refine (HCW.out _ _ (HV.out.mono HW.out) (HL.out.mono HW.out) (by omega)).mono ?_
    rintro e w1 ⟨v1, rfl, ho1, hb1⟩
    have HO1 := hid ho1
    have HR1 := hid (HR.out.mono hb1)
    have HQ1 := hid (HQ.out.mono hb1)
    have G1 := hid (gr_trans HW.out hb1)
    obtain ⟨p1, c1, rfl, hc1, hm1, -, -⟩ := ho1.rd
    rw [HBL1.out] at HO1 hc1 ⊢
    unfold maxLen at hm1
    clear ho1 hb1 k0 k1 k2 k3 k4 k5 k6 k7
    obtain ⟨k0, k1, k2, k3, k4, k5, k6, k7⟩ := HQ1.out.eight
    go_wp2_with fail
    refine (HCX.out _ _ (HV.out.mono G1.out) (HL.out.mono G1.out) (by omega)).mono ?_
    rintro e w2 ⟨v2, rfl, ho2, hb2⟩
    have HO2 := hid ho2
    have HO1b := hid (HO1.out.mono hb2)
    have HR2 := hid (HR1.out.mono hb2)
    have HQ2 := hid (HQ1.out.mono hb2)
    have G2 := hid (gr_trans G1.out hb2)
    obtain ⟨p2, c2, rfl, hc2, hm2, -, -⟩ := ho2.rd
    rw [HBL2.out] at HO2 hc2 ⊢
    unfold maxLen at hm2
    clear ho2 hb2 k0 k1 k2 k3 k4 k5 k6 k7
    obtain ⟨W3, hW3⟩ : ∃ W3, W3 = w2.alloc (.cells #[.int .i64 8, .int .i64 12, .int .i64 16, .int .i64 20, .int .i64 24, .int .i64 28, .int .i64 30, .int .i64 32] 3 (0, 0)) := ⟨_, rfl⟩
    have HN3 := hid (show RowV W3 w2.heap.size 3 [.int .i64 8, .int .i64 12, .int .i64 16, .int .i64 20, .int .i64 24, .int .i64 28, .int .i64 30, .int .i64 32] by rw [hW3]; exact RowV.new w2 3 _)
    have g3 : Below w2.heap.size w2 W3 := by rw [hW3]; exact (Below.refl _ _).alloc (Nat.le_refl _) _
    have hs3 : W3.heap.size = w2.heap.size + 1 := by rw [hW3]; simp
    obtain ⟨k0, k1, k2, k3, k4, k5, k6, k7⟩ := (HR2.out.mono g3).eight
    obtain ⟨l0, l1, l2, l3, l4, l5, l6, l7⟩ := (HQ2.out.mono g3).eight
    rw [hW3] at k0 k1 k2 k3 k4 k5 k6 k7 l0 l1 l2 l3 l4 l5 l6 l7
    have hbv : bv.map Value.bool = [.bool (born == born2), .bool ((ot : Int) == (ot2 : Int)), .bool ((pt : Int) == (pt2 : Int)), .bool ((otsn : Int) == (otsn2 : Int)), .bool ((ptsn : Int) == (ptsn2 : Int)), .bool ((rwn : Int) == (rwn2 : Int)), .bool ((out : Int) == (out2 : Int)), .bool ((in_ : Int) == (in2 : Int))] := by
      rw [HBV.out]
      simp only [cones, List.map_cons, List.map_nil, natb]
      simp only [intb]
    obtain ⟨W4, hW4⟩ : ∃ W4, W4 = W3.alloc (.cells #[.bool (born == born2), .bool ((ot : Int) == (ot2 : Int)), .bool ((pt : Int) == (pt2 : Int)), .bool ((otsn : Int) == (otsn2 : Int)), .bool ((ptsn : Int) == (ptsn2 : Int)), .bool ((rwn : Int) == (rwn2 : Int)), .bool ((out : Int) == (out2 : Int)), .bool ((in_ : Int) == (in2 : Int))] 4 (0, 0)) := ⟨_, rfl⟩
    have HE4 := hid (show W4 = (w2.alloc (.cells #[.int .i64 8, .int .i64 12, .int .i64 16, .int .i64 20, .int .i64 24, .int .i64 28, .int .i64 30, .int .i64 32] 3 (0, 0))).alloc (.cells #[.bool (born == born2), .bool ((ot : Int) == (ot2 : Int)), .bool ((pt : Int) == (pt2 : Int)), .bool ((otsn : Int) == (otsn2 : Int)), .bool ((ptsn : Int) == (ptsn2 : Int)), .bool ((rwn : Int) == (rwn2 : Int)), .bool ((out : Int) == (out2 : Int)), .bool ((in_ : Int) == (in2 : Int))] 4 (0, 0)) by rw [hW4, hW3])
    have g4 : Below W3.heap.size W3 W4 := by rw [hW4]; exact (Below.refl _ _).alloc (Nat.le_refl _) _
    have HN4 := hid (show RowV W4 w2.heap.size 3 (cfroms.tail.map fun x : Nat => Value.int .i64 (x : Int)) from HN3.out.mono g4)
    have HT4 := hid (show RowV W4 (w2.heap.size + 1) 4 (bv.map Value.bool) by rw [hbv, hW4, ← hs3]; exact RowV.new W3 4 _)
    have g34 := gr_trans g3 g4
    have HO1c := hid (HO1b.out.mono g34)
    have HO2c := hid (HO2.out.mono g34)
    have G4 := hid (gr_trans G2.out g34)
    clear hW3 hW4 hbv g3 g4 g34 hs3
    go_wp2_with fail
    rw [← HE4.out]
    clear k0 k1 k2 k3 k4 k5 k6 k7 l0 l1 l2 l3 l4 l5 l6 l7
    go_loopw [11, 12] (fun o y wr => ∃ (i : Nat), i ≤ 8 ∧ o = .int .i64 (cfrom i : Int) ∧ y = .int .i64 (i : Int) ∧ Hid (Below W4.heap.size W4 wr)) (fun _ y _ => 8 - (intOf y).toNat)
    case atStart => exact ⟨0, by omega, rfl, rfl, hid (Below.refl _ _)⟩
    case round =>
      obtain ⟨i, hi, rfl, rfl, HB⟩ := hrel
      by_cases hlt : i < 8
      · have HNr := hid (HN4.out.mono HB.out)
        have HTr := hid (HT4.out.mono HB.out)
        have HO1r := hid (HO1c.out.mono HB.out)
        have HO2r := hid (HO2c.out.mono HB.out)
        have I0 := hid (show (0 : Int) ≤ (i : Int) by omega)
        have I1 := hid (show (i : Int) < 8 by omega)
        have I2 := hid (show ((i : Int)).toNat = i by omega)
        obtain ⟨hle, h32⟩ := cfrom_le i hlt
        have cn := HNr.out.at i (by simpa [cfroms] using hlt)
        rw [show (cfroms.tail.map fun x : Nat => Value.int .i64 (x : Int))[i]'(by simpa [cfroms] using hlt) = .int .i64 (cfrom (i + 1) : Int) from cfroms_at i hlt] at cn
        have hat := HAT.out i hlt
        obtain ⟨b, hb⟩ : ∃ b, decide ((b1.drop (cfrom i)).take (cfrom (i + 1) - cfrom i) = (b2.drop (cfrom i)).take (cfrom (i + 1) - cfrom i)) = b := ⟨_, rfl⟩
        rw [hb] at hat
        have cb : wr.cell? ⟨w2.heap.size + 1, i, none⟩ = some (.bool b) := by rw [HTr.out.cell, List.getElem?_map, hat]; rfl
        have HBB := hid hb
        have HCN := hid cn
        have HCB := hid cb
        clear hat hb
        obtain ⟨sa, hsa⟩ : ∃ sa, sa = sliced p1 (cfrom i) (cfrom (i + 1)) c1 1 := ⟨_, rfl⟩
        obtain ⟨sb, hsb⟩ : ∃ sb, sb = sliced p2 (cfrom i) (cfrom (i + 1)) c2 1 := ⟨_, rfl⟩
        have HSA := hid (show ∀ wx, (Instr.slice 22 (.slice p1 64 c1) (some (.int .i64 (cfrom i : Int))) (some (.int .i64 (cfrom (i + 1) : Int))) none).run Tryd.prog wx = .ok sa wx from fun wx => by rw [hsa]; exact run_slice_lohi (P := Tryd.prog) 22 5 Tryd.underlying22 (by kernel_rfl) p1 64 c1 _ _ hle (by omega) _ _ wx)
        have HSB := hid (show ∀ wx, (Instr.slice 22 (.slice p2 64 c2) (some (.int .i64 (cfrom i : Int))) (some (.int .i64 (cfrom (i + 1) : Int))) none).run Tryd.prog wx = .ok sb wx from fun wx => by rw [hsb]; exact run_slice_lohi (P := Tryd.prog) 22 5 Tryd.underlying22 (by kernel_rfl) p2 64 c2 _ _ hle (by omega) _ _ wx)
        have HRA := hid (show Rd wr sa ((b1.drop (cfrom i)).take (cfrom (i + 1) - cfrom i)) by
          have := HO1r.out.rd.cut (cfrom i) (cfrom (i + 1)) hle (by rw [HBL1.out]; omega)
          rw [hsa]
          exact this)
        have HRB := hid (show Rd wr sb ((b2.drop (cfrom i)).take (cfrom (i + 1) - cfrom i)) by
          have := HO2r.out.rd.cut (cfrom i) (cfrom (i + 1)) hle (by rw [HBL2.out]; omega)
          rw [hsb]
          exact this)
        clear hsa hsb hle h32
        go_wp2_with fail
        refine wp_region_gr [Is (.slice p1 64 c1), Is (.int .i64 (cfrom i : Int)), Is (.slice (some ⟨w2.heap.size, 0, none⟩) 8 8), Is (.int .i64 (i : Int)), Is (.pointer (some ⟨w2.heap.size, i, none⟩)), Is (.int .i64 (cfrom (i + 1) : Int)), Is (sa), Is (.slice p2 64 c2), Is (.int .i64 (cfrom i : Int)), Is (.slice (some ⟨w2.heap.size, 0, none⟩) 8 8), Is (.int .i64 (i : Int)), Is (.pointer (some ⟨w2.heap.size, i, none⟩)), Is (.int .i64 (cfrom (i + 1) : Int)), Is (sb), Is (.bool b), Is (.slice (some ⟨w2.heap.size + 1, 0, none⟩) 8 8), Is (.int .i64 (i : Int)), Is (.pointer (some ⟨w2.heap.size + 1, i, none⟩)), Is (.bool b), Is (.bool false)] (by kernel_rfl) (by kernel_rfl) (by kernel_rfl) ?_ ?_ ?_
        · simp only [StabAll, Is.gr, RdF.gr, OwnF.gr, AnyF.gr, and_self]
        · rename_i Kk hKk; clear hKk Kk
          simp only [AllOps, List.map_cons, List.map_nil, depsOf, List.filterMap_cons, List.filterMap_nil, Region.binds, depFacts, guardF, reduceIte, List.getD_eq_getElem?_getD, List.getElem?_cons_succ, List.getElem?_cons_zero, Option.getD_some, factAt, and_true]
          refine ⟨?_, ?_, ?_, ?_, ?_, ?_, ?_, ?_, ?_, ?_, ?_, ?_, ?_, ?_, ?_, ?_, ?_, ?_, ?_, ?_⟩
          all_goals intro ρ wv hρ hR hd
          all_goals try simp only [Is] at hd
          · exact opOk_move (.inl rfl) ⟨by simp only [Is]; (first | exact hρ.2 7 rfl | exact hd | exact hd.1 | exact hd.2 | simp [hd]), GrR.refl _⟩
          · exact opOk_move (.inl rfl) ⟨by simp only [Is]; (first | exact hρ.2 11 rfl | exact hd | exact hd.1 | exact hd.2 | simp [hd]), GrR.refl _⟩
          · exact opOk_move (.inl rfl) ⟨by simp only [Is]; (first | exact hρ.2 9 rfl | exact hd | exact hd.1 | exact hd.2 | simp [hd]), GrR.refl _⟩
          · exact opOk_move (.inl rfl) ⟨by simp only [Is]; (first | exact hρ.2 12 rfl | exact hd | exact hd.1 | exact hd.2 | simp [hd]), GrR.refl _⟩
          · exact opOk_val (v := .pointer (some ⟨w2.heap.size, i, none⟩)) (w' := wv) (by simp [execOp, go_sem, hρ.1.const, hρ.1.func, hd, I0.out, I1.out, I2.out, Tryd.underlying36]) ⟨rfl, GrR.refl _⟩
          · (have h0 := cell?_of_below hR HCN.out; exact opOk_val (v := .int .i64 (cfrom (i + 1) : Int)) (w' := wv) (by simp [execOp, go_sem, hd, h0]) ⟨rfl, GrR.refl _⟩)
          · exact opOk_val (v := sa) (w' := wv) (by simp [execOp, go_sem, hρ.1.const, hρ.1.func, hd, Tryd.underlying22, HSA.out]) ⟨rfl, GrR.refl _⟩
          · exact opOk_move (.inl rfl) ⟨by simp only [Is]; (first | exact hρ.2 8 rfl | exact hd | exact hd.1 | exact hd.2 | simp [hd]), GrR.refl _⟩
          · exact opOk_move (.inl rfl) ⟨by simp only [Is]; (first | exact hρ.2 11 rfl | exact hd | exact hd.1 | exact hd.2 | simp [hd]), GrR.refl _⟩
          · exact opOk_move (.inl rfl) ⟨by simp only [Is]; (first | exact hρ.2 9 rfl | exact hd | exact hd.1 | exact hd.2 | simp [hd]), GrR.refl _⟩
          · exact opOk_move (.inl rfl) ⟨by simp only [Is]; (first | exact hρ.2 12 rfl | exact hd | exact hd.1 | exact hd.2 | simp [hd]), GrR.refl _⟩
          · exact opOk_val (v := .pointer (some ⟨w2.heap.size, i, none⟩)) (w' := wv) (by simp [execOp, go_sem, hρ.1.const, hρ.1.func, hd, I0.out, I1.out, I2.out, Tryd.underlying36]) ⟨rfl, GrR.refl _⟩
          · (have h0 := cell?_of_below hR HCN.out; exact opOk_val (v := .int .i64 (cfrom (i + 1) : Int)) (w' := wv) (by simp [execOp, go_sem, hd, h0]) ⟨rfl, GrR.refl _⟩)
          · exact opOk_val (v := sb) (w' := wv) (by simp [execOp, go_sem, hρ.1.const, hρ.1.func, hd, Tryd.underlying22, HSB.out]) ⟨rfl, GrR.refl _⟩
          · exact opOk_call hρ.1 rfl rfl Tryd.func11 (by kernel_rfl) rfl (by simp [hd, hρ.1.const]) ((sameStr_any _ _ _ _ _ (HRA.out.mono hR) (HRB.out.mono hR)).mono fun e w' ⟨h1, h2⟩ => ⟨_, h1, by rw [HBB.out]; rfl, h2 ▸ GrR.refl _⟩)
          · exact opOk_move (.inl rfl) ⟨by simp only [Is]; (first | exact hρ.2 10 rfl | exact hd | exact hd.1 | exact hd.2 | simp [hd]), GrR.refl _⟩
          · exact opOk_move (.inl rfl) ⟨by simp only [Is]; (first | exact hρ.2 12 rfl | exact hd | exact hd.1 | exact hd.2 | simp [hd]), GrR.refl _⟩
          · exact opOk_val (v := .pointer (some ⟨w2.heap.size + 1, i, none⟩)) (w' := wv) (by simp [execOp, go_sem, hρ.1.const, hρ.1.func, hd, I0.out, I1.out, I2.out, Tryd.underlying37]) ⟨rfl, GrR.refl _⟩
          · (have h0 := cell?_of_below hR HCB.out; exact opOk_val (v := .bool b) (w' := wv) (by simp [execOp, go_sem, hd, h0]) ⟨rfl, GrR.refl _⟩)
          · exact opOk_val (v := .bool false) (w' := wv) (by simp [execOp, go_sem, hρ.1.const, hρ.1.func, hd]) ⟨rfl, GrR.refl _⟩
        · intro vals wv hR hall
          have h19 := hall 19 (by simp)
          simp only [factAt, Is, List.getD_eq_getElem?_getD, List.getElem?_cons_succ, List.getElem?_cons_zero, Option.getD_some] at h19
          clear hall
          simp only [fillFrom, Act.put, h19, List.setIfInBounds_toArray, List.set_cons_zero, List.set_cons_succ]
          rename_i Kk hKk
          refine hKk _ _ ?_
          clear hKk Kk
          have cn2 := cell?_of_below hR cn
          have HB2 := hid (gr_trans HB.out hR)
          clear hR cn cb
          go_wp2_with fail
          go_roundw
          case rel => exact ⟨i + 1, by omega, rfl, by go_num, HB2⟩
          case measure => simp [intOf]; omega
      · obtain rfl : i = 8 := by omega
        have G5 := hid (gr_trans G4.out HB.out)
        go_wp2_with fail
        refine (works_any _ (HL.out.mono G5.out)).mono ?_
        rintro e w' ⟨rfl, hb⟩
        go_wp2_with fail
        go_ret
        exact ⟨rfl, gr_trans G5.out hb⟩
end Go.Proofs.YtjpemfciiakphaaDoor

/- onInit of one that listens. Conditions: the association lies as it should; its row is not too long. -/
import Derived.Test.YtiimlanbbfhkjaaDoorAsAck
import Derived.Test.YtiimlanbbfhkjaaDoorCookA
import Derived.Test.YtiimlanbbfhkjaaDoorAsHas
set_option linter.unusedSimpArgs false
set_option linter.unusedVariables false





namespace Go.FL

theorem deriveOf_lt (key text : List UInt8) : (deriveOf key text).1 < 4294967296 ∧ (deriveOf key text).2 < 4294967296 := by
  have h1 := numAt_lt (macSum key text) 0 4
  have h2 := numAt_lt (macSum key text) 4 4
  unfold deriveOf
  refine ⟨?_, by simpa using h2⟩
  split <;> simp at * <;> omega
/-- Behind an INIT that is one, of one that listens. -/
def onInitD (a : AsD) (now : Int) (path : Nat) (c : Chk) : AsD :=
  let x := (initGet c).1
  let d := deriveOf a.key (c.b ++ beBytes 8 now.toNat)
  { a with row := a.row ++ [⟨path, x.tag, (⟨d.1, 65536, 2, 2, d.2, cookBytes a.key ⟨now, d.1, x.tag, d.2, x.tsn, x.rwnd, min x.in_ 2, min x.out 2⟩⟩ : InitD).chk 2⟩] }
end Go.FL

namespace Go.Proofs.YtiimlanbbfhkjaaDoor

open Go.RowKit Go.FL Go.ChangeShapes

theorem onInit_ret {a : Act} {W : World} {g : Nat} {R : Ending → World → Prop} (v0 v1 v2 v3 v4 v5 v6 v7 v8 v9 : Value) (h2 : a.tmps.getD 8 undef = .pointer (some ⟨g, 0, none⟩)) (hd : a.defers = [])
    (hc : RowV W g 33 [v0, v1, v2, v3, v4, v5, v6, v7, v8, v9]) (hR : R (.returned (.agg #[v0, v1, v2, v3, v4, v5, v6, v7, v8, v9])) W) : bodyPost Tryd.prog Tryd.f50 R .ret a W := by
  refine bodyPost_ret (v := .agg #[v0, v1, v2, v3, v4, v5, v6, v7, v8, v9]) ?_ hd hR
  have c0 := hc.at 0 (by simp)
  have c1 := hc.at 1 (by simp)
  have c2 := hc.at 2 (by simp)
  have c3 := hc.at 3 (by simp)
  have c4 := hc.at 4 (by simp)
  have c5 := hc.at 5 (by simp)
  have c6 := hc.at 6 (by simp)
  have c7 := hc.at 7 (by simp)
  have c8 := hc.at 8 (by simp)
  have c9 := hc.at 9 (by simp)
  simp only [List.getElem_cons_succ, List.getElem_cons_zero] at c0 c1 c2 c3 c4 c5 c6 c7 c8 c9
  simp only [Array.getD_eq_getD_getElem?] at h2
  simp [results, Tryd.results50, go_sem, h2, asAddr, c0, c1, c2, c3, c4, c5, c6, c7, c8, c9]
set_option maxRecDepth 100000 in
set_option maxHeartbeats 8000000 in
theorem onInit_listen (B : Nat) (w : World) (g : Nat) (vr : Value) (a : AsD) (h : As B w g vr a) (now : Int) (hnow : 0 ≤ now ∧ now ≤ 2305843009213693952) (path : Nat) (c : Chk) (s : Value) (hs : Own w B 5 s c.b) (hlaid : ShaLaid w) (hkl : a.key.length ≤ 64) (hcb : c.b.length ≤ 1000000) (hl : a.row.length ≤ 1000000) (hst : a.st = 1) (hgi : (initGet c).2 = 0) :
    Calls Tryd.prog 50 #[.pointer (some ⟨g, 0, none⟩), .int .i64 now, .int .i64 (path : Int), .agg #[.int .u8 (c.k.toNat : Int), .int .u8 (c.f.toNat : Int), s]] w fun e w' => e = .returned (EvD.val .none) ∧ DidA B w g vr (onInitD a now path c) w' := by
  have HL := hid hl
  have HNOW := hid hnow
  have HCBL := hid hcb
  have HKL := hid (show a.key.length ≤ 1047000 by omega)
  have HST := hid hst
  have HGI := hid hgi
  have HLAID0 := hid hlaid
  obtain ⟨ps, nb, cps, rfl⟩ : ∃ p n c, s = Value.slice p n c := by
    obtain ⟨p9, c9, hsf, -⟩ := hs.rd
    exact ⟨_, _, _, hsf⟩
  obtain ⟨W0, hW0⟩ : ∃ W, W = w.alloc (.cells #[.int .u8 (c.k.toNat : Int), .int .u8 (c.f.toNat : Int), .slice ps nb cps] 47 (0, 0)) := ⟨_, rfl⟩
  have hs0 : W0.heap.size = w.heap.size + 1 := by rw [hW0]; simp
  obtain ⟨W, hW⟩ : ∃ W, W = W0.alloc (.cells #[.bool false, .bool false, .bool false, .int .u32 0, .int .u32 0, .int .u16 0, .int .u16 0, .int .u32 0, .slice none 0 0, .int .u32 0] 33 (0, 0)) := ⟨_, rfl⟩
  have HCH := hid (show RowV W w.heap.size 47 [.int .u8 (c.k.toNat : Int), .int .u8 (c.f.toNat : Int), .slice ps nb cps] by rw [hW, hW0]; exact (RowV.new w _ _).alloc _)
  have HEV := hid (show RowV W (w.heap.size + 1) 33 [.bool false, .bool false, .bool false, .int .u32 0, .int .u32 0, .int .u16 0, .int .u16 0, .int .u32 0, .slice none 0 0, .int .u32 0] by rw [hW, ← hs0]; exact RowV.new W0 _ _)
  have G0 := hid (show Below w.heap.size w W by rw [hW, hW0]; exact ((Below.refl _ _).alloc (Nat.le_refl _) _).alloc (by simp) _)
  have HAS := hid (AsAt.mono h G0.out)
  have HBS := hid (hs.mono G0.out)
  have HNM := hid (show ¬ Mine g vr (w.heap.size + 1) from mine_not HAS.out HEV.out (by decide) (by decide))
  obtain ⟨vk, vp, vs, hr, -⟩ := id HAS.out
  have HA := hid hr
  rw [hW0] at hW
  have HE := hid hW
  clear h hs hr hs0 hW0 W0
  have HLAIDW := hid (HLAID0.out.mono G0.out)
  clear hl hnow hcb hkl hst hgi hlaid
  have k0 := HCH.out.at 0 (by simp)
  have k1 := HCH.out.at 1 (by simp)
  have k2 := HCH.out.at 2 (by simp)
  simp only [List.getElem_cons_succ, List.getElem_cons_zero] at k0 k1 k2
  rw [hW] at k0 k1 k2
  clear hW
  go_enter Tryd.func50, Tryd.ntmps50
  go_wp2_with fail
  rw [← HE.out]
  clear k0 k1 k2
  refine (getInit_any _ c _ ⟨_, rfl, HBS.out.rd⟩ HCBL.out).mono ?_
  rintro e w1 ⟨sx, rfl, hox, hb1⟩
  obtain ⟨xi, xe, hx⟩ : ∃ x y, initGet c = (x, y) := ⟨_, _, rfl⟩
  have HX := hid hx
  rw [hx] at hox ⊢
  simp only at hox ⊢
  obtain ⟨px, nx, cx, rfl⟩ : ∃ p n c, sx = Value.slice p n c := by
    obtain ⟨p9, c9, hsf, -⟩ := hox.rd
    exact ⟨_, _, _, hsf⟩
  rw [show xi.vals (.slice px nx cx) = .agg #[.int .u32 (xi.tag : Int), .int .u32 (xi.rwnd : Int), .int .u16 (xi.out : Int), .int .u16 (xi.in_ : Int), .int .u32 (xi.tsn : Int), .slice px nx cx] from rfl]
  have HB0 := hid (show B ≤ W.heap.size from by obtain ⟨_, _, _, r1, r2, -⟩ := HAS.out; exact Nat.le_trans r2 (Nat.le_of_lt r1.lt))
  obtain ⟨W2, hW2⟩ : ∃ x, x = w1.alloc (.cells #[.int .u32 (xi.tag : Int), .int .u32 (xi.rwnd : Int), .int .u16 (xi.out : Int), .int .u16 (xi.in_ : Int), .int .u32 (xi.tsn : Int), .slice px nx cx] 31 (0, 0)) := ⟨_, rfl⟩
  have g2 : Below w1.heap.size w1 W2 := by rw [hW2]; exact (Below.refl _ _).alloc (Nat.le_refl _) _
  have HI2 := hid (show RowV W2 w1.heap.size 31 [.int .u32 (xi.tag : Int), .int .u32 (xi.rwnd : Int), .int .u16 (xi.out : Int), .int .u16 (xi.in_ : Int), .int .u32 (xi.tsn : Int), .slice px nx cx] by rw [hW2]; exact RowV.new w1 _ _)
  have HOX := hid ((hox.base HB0.out).mono g2)
  have G2 := hid (gr_trans G0.out (gr_trans hb1 g2))
  have HASX := hid (HAS.out.mono (gr_trans hb1 g2))
  have HEVX := hid (HEV.out.mono (gr_trans hb1 g2))
  have HCHX := hid (HCH.out.mono (gr_trans hb1 g2))
  have HAX := hid (HA.out.mono (gr_trans hb1 g2))
  have GSZ := hid (gr_trans hb1 g2).size
  have HE2 := hid hW2
  have j0 := HI2.out.at 0 (by simp)
  have j1 := HI2.out.at 1 (by simp)
  have j2 := HI2.out.at 2 (by simp)
  have j3 := HI2.out.at 3 (by simp)
  have j4 := HI2.out.at 4 (by simp)
  have j5 := HI2.out.at 5 (by simp)
  simp only [List.getElem_cons_succ, List.getElem_cons_zero] at j0 j1 j2 j3 j4 j5
  have HLAIDX := hid (HLAIDW.out.mono (gr_trans hb1 g2))
  have HBSX := hid (HBS.out.mono (gr_trans hb1 g2))
  have HW1 := hid hb1.size
  obtain rfl : xe = 0 := by
    have := HGI.out
    rw [hx] at this
    exact this
  have HXW := hid (show xi.wf by
    have := (initGet_okA c HGI.out).1
    rw [hx] at this
    exact this)
  clear hb1 g2 hox hx
  go_upto_region 2 with fail
  rw [← HE2.out]
  clear hW2 j0 j1 j2 j3 j4 j5
  obtain ⟨W3, hW3⟩ : ∃ x, x = W2.alloc (.cells #[.int .u8 1, .int .u8 2, .int .u8 3] 5 (0, 0)) := ⟨_, rfl⟩
  have g3 : Below W2.heap.size W2 W3 := by rw [hW3]; exact (Below.refl _ _).alloc (Nat.le_refl _) _
  have HRD3 := hid (show Rd W3 (.slice (some ⟨W2.heap.size, 0, none⟩) 3 3) [1, 2, 3] by rw [hW3]; exact rd_new W2 5 [1, 2, 3] 3 _ rfl rfl (by unfold maxLen; omega))
  have HAS3 := hid (HASX.out.mono g3)
  have HE3 := hid hW3
  have HB3 := hid (show ([1, 2, 3] : List UInt8).any (fun x => decide (a.st = x.toNat)) = true by rw [HST.out]; rfl)
  have HEV5 := hid (HEVX.out.mono g3)
  have HA5 := hid (HAX.out.mono g3)
  have HI5 := hid (HI2.out.mono g3)
  have HCH5 := hid (HCHX.out.mono g3)
  have HBS5 := hid (HBSX.out.mono g3)
  have HLAID5 := hid (HLAIDX.out.mono g3)
  have G5 := hid (gr_trans G2.out g3)
  have HSZ5 := hid (show B ≤ W3.heap.size from Nat.le_trans HB0.out (Nat.le_trans GSZ.out g3.size))
  clear hW3 g3
  go_wp2_with fail
  rw [← HE3.out]
  refine (is_any B _ g vr a HAS3.out (by rw [HST.out]; decide) [1, 2, 3] _ HRD3.out).mono ?_
  rintro e w4 ⟨rfl, rfl⟩
  rw [HB3.out]
  obtain ⟨vk', vp', vs', r1, r2, r3, r4, r5, r6⟩ := id HAS3.out
  obtain ⟨pk, nk, ck, rfl⟩ : ∃ p n c, vk' = Value.slice p n c := by
    obtain ⟨p9, c9, hsf, -⟩ := r3.rd
    exact ⟨_, _, _, hsf⟩
  have HKEY5 := hid r3
  have HAR := hid r1
  have HC14 := hid (HAR.out.at 14 (by simp [AsD.cells]))
  simp only [AsD.cells, List.getElem_cons_succ, List.getElem_cons_zero] at HC14
  have HC16 := hid (HAR.out.at 16 (by simp [AsD.cells]))
  simp only [AsD.cells, List.getElem_cons_succ, List.getElem_cons_zero] at HC16
  have HC17 := hid (HAR.out.at 17 (by simp [AsD.cells]))
  simp only [AsD.cells, List.getElem_cons_succ, List.getElem_cons_zero] at HC17
  have HK2 := hid (HCH5.out.at 2 (by simp))
  simp only [List.getElem_cons_succ, List.getElem_cons_zero] at HK2
  clear r1 r2 r3 r4 r5 r6
  go_wp2_with fail
  refine wp_region_gr [Is (.pointer (some ⟨g, 0, none⟩)), Is (.pointer (some ⟨g, 0, none⟩)), Is (.pointer (some ⟨g, 16, none⟩)), Is (.int .u32 (a.tag : Int)), Is (.pointer (some ⟨g, 0, none⟩)), Is (.pointer (some ⟨g, 0, none⟩)), Is (.pointer (some ⟨g, 17, none⟩)), Is (.int .u32 (a.tsn : Int)), Is (.int .u32 (a.tag : Int)), Is (.int .u32 (a.tsn : Int))] (by kernel_rfl) (by kernel_rfl) (by kernel_rfl) ?_ ?_ ?_
  · simp only [StabAll, Is.gr, RdF.gr, OwnF.gr, AnyF.gr, and_self]
  · try (rename_i Kk hKk; clear hKk Kk)
    simp only [AllOps, List.map_cons, List.map_nil, depsOf, List.filterMap_cons, List.filterMap_nil, Region.binds, depFacts, guardF, reduceIte, List.getD_eq_getElem?_getD, List.getElem?_cons_succ, List.getElem?_cons_zero, Option.getD_some, factAt, and_true]
    refine ⟨?_, ?_, ?_, ?_, ?_, ?_, ?_, ?_, ?_, ?_⟩
    all_goals intro ρ wv hρ hR hd
    all_goals try simp only [Is] at hd
    · exact opOk_move (.inl rfl) ⟨by simp only [Is]; (first | exact hρ.2 0 rfl | exact hd | exact hd.1 | exact hd.2 | simp [hd]), GrR.refl _⟩
    · exact opOk_val (v := .pointer (some ⟨g, 0, none⟩)) (w' := wv) (by simp [execOp, go_sem, hρ.1.const, hρ.1.func, hd]) ⟨rfl, GrR.refl _⟩
    · exact opOk_val (v := .pointer (some ⟨g, 16, none⟩)) (w' := wv) (by simp [execOp, go_sem, hρ.1.const, hρ.1.func, hd]) ⟨rfl, GrR.refl _⟩
    · (have h0 := cell?_of_below hR HC16.out; exact opOk_val (v := .int .u32 (a.tag : Int)) (w' := wv) (by simp [execOp, go_sem, hd, h0]) ⟨rfl, GrR.refl _⟩)
    · exact opOk_move (.inl rfl) ⟨by simp only [Is]; (first | exact hρ.2 0 rfl | exact hd | exact hd.1 | exact hd.2 | simp [hd]), GrR.refl _⟩
    · exact opOk_val (v := .pointer (some ⟨g, 0, none⟩)) (w' := wv) (by simp [execOp, go_sem, hρ.1.const, hρ.1.func, hd]) ⟨rfl, GrR.refl _⟩
    · exact opOk_val (v := .pointer (some ⟨g, 17, none⟩)) (w' := wv) (by simp [execOp, go_sem, hρ.1.const, hρ.1.func, hd]) ⟨rfl, GrR.refl _⟩
    · (have h0 := cell?_of_below hR HC17.out; exact opOk_val (v := .int .u32 (a.tsn : Int)) (w' := wv) (by simp [execOp, go_sem, hd, h0]) ⟨rfl, GrR.refl _⟩)
    · exact opOk_move (.inr rfl) ⟨by simp only [Is]; (first | exact hρ.2 31 rfl | exact hd | exact hd.1 | exact hd.2 | simp [hd]), GrR.refl _⟩
    · exact opOk_move (.inr rfl) ⟨by simp only [Is]; (first | exact hρ.2 35 rfl | exact hd | exact hd.1 | exact hd.2 | simp [hd]), GrR.refl _⟩
  · intro vals wv hR hall
    have i8 := hall 8 (by simp)
    have i9 := hall 9 (by simp)
    simp only [factAt, Is, List.getD_eq_getElem?_getD, List.getElem?_cons_succ, List.getElem?_cons_zero, Option.getD_some] at i8 i9
    clear hall
    simp only [fillFrom, Act.put, i8, i9, List.setIfInBounds_toArray, List.set_cons_zero, List.set_cons_succ]
    rename_i Kk hKk
    refine hKk _ _ ?_
    clear hKk Kk
    obtain ⟨w5, hw5⟩ : ∃ x, x = wv := ⟨_, rfl⟩
    subst hw5
    have HEV6 := hid (HEV5.out.mono hR)
    have HAS6 := hid (HAS3.out.mono hR)
    have HAR6 := hid (HAR.out.mono hR)
    have HI6 := hid (HI5.out.mono hR)
    have HCH6 := hid (HCH5.out.mono hR)
    have HBS6 := hid (HBS5.out.mono hR)
    have HKEY6 := hid (HKEY5.out.mono hR)
    have HLAID6 := hid (HLAID5.out.mono hR)
    have G6 := hid (gr_trans G5.out hR)
    have HSZ6 := hid (Nat.le_trans HSZ5.out hR.size)
    clear hR i8 i9 HC14 HC16 HC17 HK2
    have c15 := HAR6.out.at 15 (by simp [AsD.cells])
    simp only [AsD.cells, List.getElem_cons_succ, List.getElem_cons_zero] at c15
    have HC14 := hid (HAR6.out.at 14 (by simp [AsD.cells]))
    simp only [AsD.cells, List.getElem_cons_succ, List.getElem_cons_zero] at HC14
    have HK2 := hid (HCH6.out.at 2 (by simp))
    simp only [List.getElem_cons_succ, List.getElem_cons_zero] at HK2
    have z1 : ((a.st : Int) == 1) = true := by have := HST.out; simp; omega
    have HWU := hid (show IntKind.u64.wrap now = now by have := HNOW.out; rw [IntKind.wrap_u64]; omega)
    have HTL := hid (show (c.b ++ beBytes 8 now.toNat).length ≤ 1047000 by rw [List.length_append, beBytes_length]; have := HCBL.out; omega)
    have HNN := hid (show now = ((now.toNat : Nat) : Int) by have := HNOW.out; omega)
    have HN64 := hid (show now.toNat < 18446744073709551616 by have := HNOW.out; omega)
    obtain ⟨d1, d2, hdv⟩ : ∃ x y, deriveOf a.key (c.b ++ beBytes 8 now.toNat) = (x, y) := ⟨_, _, rfl⟩
    have HDV := hid hdv
    clear hdv
    go_wp2_with fail
    clear c15
    refine wp_region_gr [Is (.pointer (some ⟨g, 0, none⟩)), Is (.pointer (some ⟨g, 0, none⟩)), Is (.pointer (some ⟨g, 14, none⟩)), Is (.slice pk nk ck), Is (.pointer (some ⟨w.heap.size, 2, none⟩)), Is (.slice ps nb cps), OwnF B 5 c.b, Is (.int .i64 now), Is (.int .i64 now), Is (.int .u64 now), OwnF B 5 (c.b ++ beBytes 8 now.toNat), Is (.tuple #[.int .u32 (d1 : Int), .int .u32 (d2 : Int)]), Is (.tuple #[.int .u32 (d1 : Int), .int .u32 (d2 : Int)]), Is (.int .u32 (d1 : Int)), Is (.int .u32 (d2 : Int)), Is (.int .u32 (d1 : Int)), Is (.int .u32 (d2 : Int))] (by kernel_rfl) (by kernel_rfl) (by kernel_rfl) ?_ ?_ ?_
    · simp only [StabAll, Is.gr, RdF.gr, OwnF.gr, AnyF.gr, and_self]
    · try (rename_i Kk hKk; clear hKk Kk)
      simp only [AllOps, List.map_cons, List.map_nil, depsOf, List.filterMap_cons, List.filterMap_nil, Region.binds, depFacts, guardF, reduceIte, List.getD_eq_getElem?_getD, List.getElem?_cons_succ, List.getElem?_cons_zero, Option.getD_some, factAt, and_true]
      refine ⟨?_, ?_, ?_, ?_, ?_, ?_, ?_, ?_, ?_, ?_, ?_, ?_, ?_, ?_, ?_, ?_, ?_⟩
      all_goals intro ρ wv hρ hR hd
      all_goals try simp only [Is] at hd
      · exact opOk_move (.inl rfl) ⟨by simp only [Is]; (first | exact hρ.2 0 rfl | exact hd | exact hd.1 | exact hd.2 | simp [hd]), GrR.refl _⟩
      · exact opOk_val (v := .pointer (some ⟨g, 0, none⟩)) (w' := wv) (by simp [execOp, go_sem, hρ.1.const, hρ.1.func, hd]) ⟨rfl, GrR.refl _⟩
      · exact opOk_val (v := .pointer (some ⟨g, 14, none⟩)) (w' := wv) (by simp [execOp, go_sem, hρ.1.const, hρ.1.func, hd]) ⟨rfl, GrR.refl _⟩
      · (have h0 := cell?_of_below hR HC14.out; exact opOk_val (v := .slice pk nk ck) (w' := wv) (by simp [execOp, go_sem, hd, h0]) ⟨rfl, GrR.refl _⟩)
      · exact opOk_val (v := .pointer (some ⟨w.heap.size, 2, none⟩)) (w' := wv) (by simp [execOp, go_sem, hρ.1.const, hρ.1.func, hd, (hρ.2 7 rfl)]) ⟨rfl, GrR.refl _⟩
      · (have h0 := cell?_of_below hR HK2.out; exact opOk_val (v := .slice ps nb cps) (w' := wv) (by simp [execOp, go_sem, hd, h0]) ⟨rfl, GrR.refl _⟩)
      · exact opOk_call hρ.1 rfl rfl Tryd.func34 (by kernel_rfl) rfl (by simp [hd, hρ.1.const, hρ.1.func]) ((clone_any _ c.b wv (HBS6.out.mono hR).rd (by have := HCBL.out; omega)).mono fun e w' ⟨v', h1, h2, h3⟩ => ⟨v', h1, h2.base (Nat.le_trans HSZ6.out hR.size), h3⟩)
      · exact opOk_move (.inl rfl) ⟨by simp only [Is]; (first | exact hρ.2 1 rfl | exact hd | exact hd.1 | exact hd.2 | simp [hd]), GrR.refl _⟩
      · exact opOk_call hρ.1 rfl rfl Tryd.func35 (by kernel_rfl) rfl (by simp [hd, hρ.1.const, hρ.1.func]) ((clock_any now HNOW.out wv).mono fun e w' ⟨h1, h2⟩ => ⟨_, h1, rfl, h2 ▸ GrR.refl _⟩)
      · exact opOk_val (v := .int .u64 now) (w' := wv) (by simp [execOp, go_sem, hρ.1.const, hρ.1.func, hd, HWU.out]) ⟨rfl, GrR.refl _⟩
      · exact opOk_call hρ.1 rfl rfl Tryd.func63 (by kernel_rfl) rfl (by simp [hd, hρ.1.const, hρ.1.func]) ((put_at _ c.b now.toNat 8 _ _ HNN.out rfl (by omega) wv (OwnF.rd (show OwnF B 5 c.b (ρ (.tmp 48)) wv by first | exact hd.1 | exact hd)) (by have := HCBL.out; omega) HN64.out).mono fun e w' ⟨v', h1, h2, h3⟩ => ⟨v', h1, h2.base (Nat.le_trans HSZ6.out hR.size), h3⟩)
      · exact opOk_call hρ.1 rfl rfl Tryd.func65 (by kernel_rfl) rfl (by simp [hd, hρ.1.const, hρ.1.func]) ((cookDerive_any _ _ a.key (c.b ++ beBytes 8 now.toNat) wv (HKEY6.out.mono hR).rd (show RdF (c.b ++ beBytes 8 now.toNat) (ρ (.tmp 52)) wv from OwnF.rd (by first | exact hd.2 | exact hd | exact hd.2.1)) (HLAID6.out.mono hR) HKL.out HTL.out).mono fun e w' ⟨h1, h2⟩ => ⟨_, h1, by rw [HDV.out]; rfl, h2⟩)
      · exact opOk_move (.inl rfl) ⟨by simp only [Is]; (first | exact hρ.2 53 rfl | exact hd | exact hd.1 | exact hd.2 | simp [hd]), GrR.refl _⟩
      · exact opOk_val (v := .int .u32 (d1 : Int)) (w' := wv) (by simp [execOp, go_sem, hρ.1.const, hρ.1.func, hd]) ⟨rfl, GrR.refl _⟩
      · exact opOk_val (v := .int .u32 (d2 : Int)) (w' := wv) (by simp [execOp, go_sem, hρ.1.const, hρ.1.func, hd]) ⟨rfl, GrR.refl _⟩
      · exact opOk_move (.inr rfl) ⟨by simp only [Is]; (first | exact hρ.2 54 rfl | exact hd | exact hd.1 | exact hd.2 | simp [hd]), GrR.refl _⟩
      · exact opOk_move (.inr rfl) ⟨by simp only [Is]; (first | exact hρ.2 55 rfl | exact hd | exact hd.1 | exact hd.2 | simp [hd]), GrR.refl _⟩
    · intro vals wv hR hall
      have i15 := hall 15 (by simp)
      have i16 := hall 16 (by simp)
      simp only [factAt, Is, List.getD_eq_getElem?_getD, List.getElem?_cons_succ, List.getElem?_cons_zero, Option.getD_some] at i15 i16
      clear hall
      simp only [fillFrom, Act.put, i15, i16, List.setIfInBounds_toArray, List.set_cons_zero, List.set_cons_succ]
      rename_i Kk hKk
      refine hKk _ _ ?_
      clear hKk Kk
      obtain ⟨w6, hw6⟩ : ∃ x, x = wv := ⟨_, rfl⟩
      subst hw6
      have HEV7 := hid (HEV6.out.mono hR)
      have HAS7 := hid (HAS6.out.mono hR)
      have HAR7 := hid (HAR6.out.mono hR)
      have HI7 := hid (HI6.out.mono hR)
      have HKEY7 := hid (HKEY6.out.mono hR)
      have HLAID7 := hid (HLAID6.out.mono hR)
      have G7 := hid (gr_trans G6.out hR)
      have HSZ7a := hid (Nat.le_trans HSZ6.out hR.size)
      have HW67 := hid hR.size
      clear hR i15 i16 HC14 HK2
      go_wp2_with fail
      refine (aswords_any B _ g vr a HAS7.out d1 d2).mono ?_
      rintro e w7 ⟨rfl, hb7⟩
      obtain ⟨W8, hW8⟩ : ∃ x, x = w7.alloc (.cells #[.int .u32 (d1 : Int), .int .u32 65536, .int .u16 2, .int .u16 2, .int .u32 (d2 : Int), .slice none 0 0] 31 (0, 0)) := ⟨_, rfl⟩
      have g8 : Below w6.heap.size w6 W8 := gr_trans hb7 (by rw [hW8]; exact (Below.refl _ _).alloc (Nat.le_refl _) _)
      obtain ⟨j7, hj7⟩ : ∃ n, n = w7.heap.size := ⟨_, rfl⟩
      have HJ8 := hid (show RowV W8 j7 31 [.int .u32 (d1 : Int), .int .u32 65536, .int .u16 2, .int .u16 2, .int .u32 (d2 : Int), .slice none 0 0] by rw [hj7, hW8]; exact RowV.new w7 _ _)
      have HEV8 := hid (HEV7.out.mono g8)
      have HAS8 := hid (HAS7.out.mono g8)
      have HAR8 := hid (HAR7.out.mono g8)
      have HI8 := hid (HI7.out.mono g8)
      have HKEY8 := hid (HKEY7.out.mono g8)
      have HLAID8 := hid (HLAID7.out.mono g8)
      have G8 := hid (gr_trans G7.out g8)
      have HSZ8 := hid (Nat.le_trans HSZ7a.out g8.size)
      have HE8 := hid hW8
      have HJN := hid hj7
      have HNIJ := hid (show w1.heap.size ≠ j7 by have h1 := HI6.out.lt; have h2 := hb7.size; have h3 := HW67.out; omega)
      have HJW := hid (show W.heap.size ≤ j7 by have h1 := HI6.out.lt; have h2 := hb7.size; have h3 := HW67.out; have h4 := HW1.out; omega)
      clear hb7 g8 hW8 hj7
      have HC14 := hid (HAR8.out.at 14 (by simp [AsD.cells]))
      simp only [AsD.cells, List.getElem_cons_succ, List.getElem_cons_zero] at HC14
      have X0 := hid (HI8.out.at 0 (by simp))
      have X1 := hid (HI8.out.at 1 (by simp))
      have X2 := hid (HI8.out.at 2 (by simp))
      have X3 := hid (HI8.out.at 3 (by simp))
      have X4 := hid (HI8.out.at 4 (by simp))
      have Y2 := hid (HJ8.out.at 2 (by simp))
      have Y3 := hid (HJ8.out.at 3 (by simp))
      simp only [List.getElem_cons_succ, List.getElem_cons_zero] at X0 X1 X2 X3 X4 Y2 Y3
      have HMI := hid (show (if (2 : Int) < (xi.in_ : Int) then (2 : Int) else (xi.in_ : Int)) = ((min xi.in_ 2 : Nat) : Int) by split <;> omega)
      have HMO := hid (show (if (2 : Int) < (xi.out : Int) then (2 : Int) else (xi.out : Int)) = ((min xi.out 2 : Nat) : Int) by split <;> omega)
      have HCW := hid (show CookD.wf ⟨now, d1, xi.tag, d2, xi.tsn, xi.rwnd, min xi.in_ 2, min xi.out 2⟩ from ⟨by have := HNOW.out; show -9223372036854775808 ≤ now ∧ now < 9223372036854775808; omega, by have := deriveOf_lt a.key (c.b ++ beBytes 8 now.toNat); rw [HDV.out] at this; exact this.1, HXW.out.1, by have := deriveOf_lt a.key (c.b ++ beBytes 8 now.toNat); rw [HDV.out] at this; exact this.2, HXW.out.2.2.2.2, HXW.out.2.1, by show min xi.in_ 2 < 65536; omega, by show min xi.out 2 < 65536; omega⟩)
      go_wp2_with fail
      rw [← HE8.out, ← HJN.out]
      refine wp_region_tail 27 [Is (.pointer (some ⟨g, 0, none⟩)), Is (.pointer (some ⟨g, 0, none⟩)), Is (.pointer (some ⟨g, 14, none⟩)), Is (.slice pk nk ck), Is (.int .i64 now), Is (.int .i64 now), Is (.int .u32 (d1 : Int)), Is (.pointer (some ⟨w1.heap.size, 0, none⟩)), Is (.int .u32 (xi.tag : Int)), Is (.int .u32 (d2 : Int)), Is (.pointer (some ⟨w1.heap.size, 4, none⟩)), Is (.int .u32 (xi.tsn : Int)), Is (.pointer (some ⟨w1.heap.size, 1, none⟩)), Is (.int .u32 (xi.rwnd : Int)), Is (.pointer (some ⟨w1.heap.size, 3, none⟩)), Is (.int .u16 (xi.in_ : Int)), Is (.pointer (some ⟨j7, 2, none⟩)), Is (.int .u16 2), Is (.int .u16 ((min xi.in_ 2 : Nat) : Int)), Is (.pointer (some ⟨w1.heap.size, 2, none⟩)), Is (.int .u16 (xi.out : Int)), Is (.pointer (some ⟨j7, 3, none⟩)), Is (.int .u16 2), Is (.int .u16 ((min xi.out 2 : Nat) : Int)), Is (.agg #[.int .i64 now, .int .u32 (d1 : Int), .int .u32 (xi.tag : Int), .int .u32 (d2 : Int), .int .u32 (xi.tsn : Int), .int .u32 (xi.rwnd : Int), .int .u16 ((min xi.in_ 2 : Nat) : Int), .int .u16 ((min xi.out 2 : Nat) : Int)]), OwnF B 5 (cookBytes a.key ⟨now, d1, xi.tag, d2, xi.tsn, xi.rwnd, min xi.in_ 2, min xi.out 2⟩), Is (.pointer (some ⟨j7, 5, none⟩))] (by kernel_rfl) (by kernel_rfl) (by kernel_rfl) (by kernel_rfl) (by kernel_rfl) (by kernel_rfl) ?_ ?_ ?_
      · simp only [StabAll, Is.gr, RdF.gr, OwnF.gr, AnyF.gr, and_self]
      · try (rename_i Kk hKk; clear hKk Kk)
        simp only [List.take_succ_cons, List.take_zero, AllOps, List.map_cons, List.map_nil, depsOf, List.filterMap_cons, List.filterMap_nil, Region.binds, depFacts, guardF, reduceIte, List.getD_eq_getElem?_getD, List.getElem?_cons_succ, List.getElem?_cons_zero, Option.getD_some, factAt, and_true]
        refine ⟨?_, ?_, ?_, ?_, ?_, ?_, ?_, ?_, ?_, ?_, ?_, ?_, ?_, ?_, ?_, ?_, ?_, ?_, ?_, ?_, ?_, ?_, ?_, ?_, ?_, ?_, ?_⟩
        all_goals intro ρ wv hρ hR hd
        all_goals try simp only [Is] at hd
        · exact opOk_move (.inl rfl) ⟨by simp only [Is]; (first | exact hρ.2 0 rfl | exact hd | exact hd.1 | exact hd.2 | simp [hd]), GrR.refl _⟩
        · exact opOk_val (v := .pointer (some ⟨g, 0, none⟩)) (w' := wv) (by simp [execOp, go_sem, hρ.1.const, hρ.1.func, hd]) ⟨rfl, GrR.refl _⟩
        · exact opOk_val (v := .pointer (some ⟨g, 14, none⟩)) (w' := wv) (by simp [execOp, go_sem, hρ.1.const, hρ.1.func, hd]) ⟨rfl, GrR.refl _⟩
        · (have h0 := cell?_of_below hR HC14.out; exact opOk_val (v := .slice pk nk ck) (w' := wv) (by simp [execOp, go_sem, hd, h0]) ⟨rfl, GrR.refl _⟩)
        · exact opOk_move (.inl rfl) ⟨by simp only [Is]; (first | exact hρ.2 1 rfl | exact hd | exact hd.1 | exact hd.2 | simp [hd]), GrR.refl _⟩
        · exact opOk_call hρ.1 rfl rfl Tryd.func35 (by kernel_rfl) rfl (by simp [hd, hρ.1.const, hρ.1.func]) ((clock_any now HNOW.out wv).mono fun e w' ⟨h1, h2⟩ => ⟨_, h1, rfl, h2 ▸ GrR.refl _⟩)
        · exact opOk_move (.inl rfl) ⟨by simp only [Is]; (first | exact hρ.2 11 rfl | exact hd | exact hd.1 | exact hd.2 | simp [hd]), GrR.refl _⟩
        · exact opOk_val (v := .pointer (some ⟨w1.heap.size, 0, none⟩)) (w' := wv) (by simp [execOp, go_sem, hρ.1.const, hρ.1.func, hd, (hρ.2 9 rfl)]) ⟨rfl, GrR.refl _⟩
        · (have h0 := cell?_of_below hR X0.out; exact opOk_val (v := .int .u32 (xi.tag : Int)) (w' := wv) (by simp [execOp, go_sem, hd, h0]) ⟨rfl, GrR.refl _⟩)
        · exact opOk_move (.inl rfl) ⟨by simp only [Is]; (first | exact hρ.2 12 rfl | exact hd | exact hd.1 | exact hd.2 | simp [hd]), GrR.refl _⟩
        · exact opOk_val (v := .pointer (some ⟨w1.heap.size, 4, none⟩)) (w' := wv) (by simp [execOp, go_sem, hρ.1.const, hρ.1.func, hd, (hρ.2 9 rfl)]) ⟨rfl, GrR.refl _⟩
        · (have h0 := cell?_of_below hR X4.out; exact opOk_val (v := .int .u32 (xi.tsn : Int)) (w' := wv) (by simp [execOp, go_sem, hd, h0]) ⟨rfl, GrR.refl _⟩)
        · exact opOk_val (v := .pointer (some ⟨w1.heap.size, 1, none⟩)) (w' := wv) (by simp [execOp, go_sem, hρ.1.const, hρ.1.func, hd, (hρ.2 9 rfl)]) ⟨rfl, GrR.refl _⟩
        · (have h0 := cell?_of_below hR X1.out; exact opOk_val (v := .int .u32 (xi.rwnd : Int)) (w' := wv) (by simp [execOp, go_sem, hd, h0]) ⟨rfl, GrR.refl _⟩)
        · exact opOk_val (v := .pointer (some ⟨w1.heap.size, 3, none⟩)) (w' := wv) (by simp [execOp, go_sem, hρ.1.const, hρ.1.func, hd, (hρ.2 9 rfl)]) ⟨rfl, GrR.refl _⟩
        · (have h0 := cell?_of_below hR X3.out; exact opOk_val (v := .int .u16 (xi.in_ : Int)) (w' := wv) (by simp [execOp, go_sem, hd, h0]) ⟨rfl, GrR.refl _⟩)
        · exact opOk_val (v := .pointer (some ⟨j7, 2, none⟩)) (w' := wv) (by simp [execOp, go_sem, hρ.1.const, hρ.1.func, hd, (hρ.2 13 rfl)]) ⟨rfl, GrR.refl _⟩
        · (have h0 := cell?_of_below hR Y2.out; exact opOk_val (v := .int .u16 2) (w' := wv) (by simp [execOp, go_sem, hd, h0]) ⟨rfl, GrR.refl _⟩)
        · exact opOk_val (v := .int .u16 ((min xi.in_ 2 : Nat) : Int)) (w' := wv) (by simp [execOp, go_sem, hρ.1.const, hρ.1.func, hd, HMI.out]) ⟨rfl, GrR.refl _⟩
        · exact opOk_val (v := .pointer (some ⟨w1.heap.size, 2, none⟩)) (w' := wv) (by simp [execOp, go_sem, hρ.1.const, hρ.1.func, hd, (hρ.2 9 rfl)]) ⟨rfl, GrR.refl _⟩
        · (have h0 := cell?_of_below hR X2.out; exact opOk_val (v := .int .u16 (xi.out : Int)) (w' := wv) (by simp [execOp, go_sem, hd, h0]) ⟨rfl, GrR.refl _⟩)
        · exact opOk_val (v := .pointer (some ⟨j7, 3, none⟩)) (w' := wv) (by simp [execOp, go_sem, hρ.1.const, hρ.1.func, hd, (hρ.2 13 rfl)]) ⟨rfl, GrR.refl _⟩
        · (have h0 := cell?_of_below hR Y3.out; exact opOk_val (v := .int .u16 2) (w' := wv) (by simp [execOp, go_sem, hd, h0]) ⟨rfl, GrR.refl _⟩)
        · exact opOk_val (v := .int .u16 ((min xi.out 2 : Nat) : Int)) (w' := wv) (by simp [execOp, go_sem, hρ.1.const, hρ.1.func, hd, HMO.out]) ⟨rfl, GrR.refl _⟩
        · exact opOk_val (v := .agg #[.int .i64 now, .int .u32 (d1 : Int), .int .u32 (xi.tag : Int), .int .u32 (d2 : Int), .int .u32 (xi.tsn : Int), .int .u32 (xi.rwnd : Int), .int .u16 ((min xi.in_ 2 : Nat) : Int), .int .u16 ((min xi.out 2 : Nat) : Int)]) (w' := wv) (by simp [execOp, go_sem, hρ.1.const, hρ.1.func, hd]) ⟨rfl, GrR.refl _⟩
        · exact opOk_call hρ.1 rfl rfl Tryd.func66 (by kernel_rfl) rfl (by simp [hd, hρ.1.const, hρ.1.func]) ((show Calls Tryd.prog 66 #[.slice pk nk ck, .agg #[.int .i64 now, .int .u32 (d1 : Int), .int .u32 (xi.tag : Int), .int .u32 (d2 : Int), .int .u32 (xi.tsn : Int), .int .u32 (xi.rwnd : Int), .int .u16 ((min xi.in_ 2 : Nat) : Int), .int .u16 ((min xi.out 2 : Nat) : Int)]] wv (RetOwn wv 5 (cookBytes a.key ⟨now, d1, xi.tag, d2, xi.tsn, xi.rwnd, min xi.in_ 2, min xi.out 2⟩)) from cookWrite_any _ a.key ⟨now, d1, xi.tag, d2, xi.tsn, xi.rwnd, min xi.in_ 2, min xi.out 2⟩ HCW.out wv (HKEY8.out.mono hR).rd (HLAID8.out.mono hR) HKL.out).mono fun e w' ⟨v', h1, h2, h3⟩ => ⟨v', h1, h2.base (Nat.le_trans HSZ8.out hR.size), h3⟩)
        · exact opOk_val (v := .pointer (some ⟨j7, 5, none⟩)) (w' := wv) (by simp [execOp, go_sem, hρ.1.const, hρ.1.func, hd, (hρ.2 13 rfl)]) ⟨rfl, GrR.refl _⟩
      · intro vals wv hR hall
        have i26 := hall 26 (by omega)
        have i25 := hall 25 (by omega)
        simp only [factAt, Is, OwnF, List.getD_eq_getElem?_getD, List.getElem?_cons_succ, List.getElem?_cons_zero, Option.getD_some] at i26 i25
        clear hall
        obtain ⟨vc9, hvc⟩ : ∃ v, vals 25 = v := ⟨_, rfl⟩
        rw [hvc] at i25
        obtain ⟨pc, nc, cc, rfl⟩ : ∃ p n c, vc9 = Value.slice p n c := by
          obtain ⟨p9, c9, hsf, -⟩ := (Own.rd i25)
          exact ⟨_, _, _, hsf⟩
        simp only [List.take_succ_cons, List.take_zero, List.drop_succ_cons, List.drop_zero, fillFrom, Act.put, i26, hvc, List.setIfInBounds_toArray, List.set_cons_zero, List.set_cons_succ, Nat.zero_add, Nat.reduceAdd]
        obtain ⟨w9, hw9⟩ : ∃ x, x = wv := ⟨_, rfl⟩
        subst hw9
        have HEV9 := hid (HEV8.out.mono hR)
        have HAS9 := hid (HAS8.out.mono hR)
        have HAR9 := hid (HAR8.out.mono hR)
        have HI9 := hid (HI8.out.mono hR)
        have HKEY9 := hid (HKEY8.out.mono hR)
        have HLAID9 := hid (HLAID8.out.mono hR)
        have HJ9 := hid (HJ8.out.mono hR)
        have G9 := hid (gr_trans G8.out hR)
        have HSZ9a := hid (Nat.le_trans HSZ8.out hR.size)
        have HOC9 := hid i25
        have HNJ := hid (show j7 ≠ g from rowV_ne HJ9.out HAR9.out (by decide))
        obtain ⟨wA, hwA⟩ : ∃ x, x = w9.setCell ⟨j7, 5, none⟩ (.slice pc nc cc) := ⟨_, rfl⟩
        have HCA := hid (show Chg (fun k => k = j7) w9 wA by rw [hwA]; exact (Chg.refl (fun k => k = j7) w9).set ⟨j7, 5, none⟩ _ (.inl rfl))
        have HJA := hid (show RowV wA j7 31 [.int .u32 (d1 : Int), .int .u32 65536, .int .u16 2, .int .u16 2, .int .u32 (d2 : Int), .slice pc nc cc] by rw [hwA]; exact HJ9.out.store 5 (.slice pc nc cc))
        have HEVA := hid (HEV9.out.chg HCA.out (rowV_ne HEV9.out HJ9.out (by decide)))
        have HIA := hid (show RowV wA w1.heap.size 31 [.int .u32 (xi.tag : Int), .int .u32 (xi.rwnd : Int), .int .u16 (xi.out : Int), .int .u16 (xi.in_ : Int), .int .u32 (xi.tsn : Int), .slice px nx cx] from HI9.out.chg HCA.out HNIJ.out)
        have HNM9 := mine_not HAS9.out HJ9.out (by decide) (by decide)
        have HNB9 : NoBytes 5 (fun k => k = j7) w9 := fun k l hk hl => by subst hk; exact absurd (rowV_fun HJ9.out hl).1 (by decide)
        have HASA := hid (show As B wA g vr a from HAS9.out.chg HCA.out HNB9 (fun e => HNJ.out e.symm) (fun k hk e => by subst e; exact HNM9 (.inr hk)))
        have HOCA := hid (HOC9.out.chg HCA.out (HOC9.out.free HNB9))
        have HJG := hid (show W.heap.size ≤ j7 from HJW.out)
        have GA := hid (show Chg (Mine g vr) w wA from (Chg.of_gr G9.out).then HCA.out (fun i hi e => by have := HJG.out; have := G0.out.size; omega))
        have HSZ9 := hid (Nat.le_trans HSZ9a.out HCA.out.size)
        have y5 := HJ9.out.at 5 (by simp)
        simp only [List.getElem_cons_succ, List.getElem_cons_zero] at y5
        have f5 := HJ9.out.frozen 5
        have HEA := hid hwA
        clear hwA hR i25 i26 hvc HNM9 HNB9 HC14 X0 X1 X2 X3 X4 Y2 Y3
        have X0 := hid (HIA.out.at 0 (by simp))
        simp only [List.getElem_cons_succ, List.getElem_cons_zero] at X0
        have HIW := hid (show InitD.wf ⟨d1, 65536, 2, 2, d2, cookBytes a.key ⟨now, d1, xi.tag, d2, xi.tsn, xi.rwnd, min xi.in_ 2, min xi.out 2⟩⟩ from ⟨HCW.out.2.1, show (65536 : Nat) < 4294967296 by decide, show (2 : Nat) < 65536 by decide, show (2 : Nat) < 65536 by decide, HCW.out.2.2.2.1⟩)
        go_wp2_with fail
        rw [← HEA.out]
        clear y5 f5
        refine wp_region_tail 6 [Is (.pointer (some ⟨g, 0, none⟩)), Is (.int .i64 (path : Int)), Is (.pointer (some ⟨w1.heap.size, 0, none⟩)), Is (.int .u32 (xi.tag : Int)), Is (.agg ([.int .u32 (d1 : Int), .int .u32 65536, .int .u16 2, .int .u16 2, .int .u32 (d2 : Int), .slice pc nc cc]).toArray), CkO B 5 ((⟨d1, 65536, 2, 2, d2, cookBytes a.key ⟨now, d1, xi.tag, d2, xi.tsn, xi.rwnd, min xi.in_ 2, min xi.out 2⟩⟩ : InitD).chk 2)] (by kernel_rfl) (by kernel_rfl) (by kernel_rfl) (by kernel_rfl) (by kernel_rfl) (by kernel_rfl) ?_ ?_ ?_
        · simp only [StabAll, Is.gr, RdF.gr, OwnF.gr, AnyF.gr, CkO.gr, and_self]
        · try (rename_i Kk hKk; clear hKk Kk)
          simp only [List.take_succ_cons, List.take_zero, AllOps, List.map_cons, List.map_nil, depsOf, List.filterMap_cons, List.filterMap_nil, Region.binds, depFacts, guardF, reduceIte, List.getD_eq_getElem?_getD, List.getElem?_cons_succ, List.getElem?_cons_zero, Option.getD_some, factAt, and_true]
          refine ⟨?_, ?_, ?_, ?_, ?_, ?_⟩
          all_goals intro ρ wv hρ hR hd
          all_goals try simp only [Is] at hd
          · exact opOk_move (.inl rfl) ⟨by simp only [Is]; (first | exact hρ.2 0 rfl | exact hd | exact hd.1 | exact hd.2 | simp [hd]), GrR.refl _⟩
          · exact opOk_move (.inl rfl) ⟨by simp only [Is]; (first | exact hρ.2 2 rfl | exact hd | exact hd.1 | exact hd.2 | simp [hd]), GrR.refl _⟩
          · exact opOk_val (v := .pointer (some ⟨w1.heap.size, 0, none⟩)) (w' := wv) (by simp [execOp, go_sem, hρ.1.const, hρ.1.func, hd, (hρ.2 9 rfl)]) ⟨rfl, GrR.refl _⟩
          · (have h0 := cell?_of_below hR X0.out; exact opOk_val (v := .int .u32 (xi.tag : Int)) (w' := wv) (by simp [execOp, go_sem, hd, h0]) ⟨rfl, GrR.refl _⟩)
          · exact opOk_loadRow rfl (j7) (by first | exact hρ.2 _ rfl | simp [hd]) _ ([.int .u32 (d1 : Int), .int .u32 65536, .int .u16 2, .int .u16 2, .int .u32 (d2 : Int), .slice pc nc cc]) _ (HJA.out.mono hR) Tryd.underlying31 rfl (by kernel_rfl) ⟨rfl, GrR.refl _⟩
          · exact opOk_call hρ.1 rfl rfl Tryd.func41 (by kernel_rfl) rfl (by simp [hd, hρ.1.const, hρ.1.func]) ((putInit_any 2 (.agg #[.int .u32 (d1 : Int), .int .u32 65536, .int .u16 2, .int .u16 2, .int .u32 (d2 : Int), .slice pc nc cc]) ⟨d1, 65536, 2, 2, d2, cookBytes a.key ⟨now, d1, xi.tag, d2, xi.tsn, xi.rwnd, min xi.in_ 2, min xi.out 2⟩⟩ HIW.out wv ⟨_, rfl, (HOCA.out.mono hR).rd⟩ (by show (cookBytes a.key ⟨now, d1, xi.tag, d2, xi.tsn, xi.rwnd, min xi.in_ 2, min xi.out 2⟩).length ≤ _; rw [cookBytes_length]; omega)).mono fun e w' ⟨s, h1, h2, h3⟩ => ⟨_, h1, ckO_mk (h2.base (Nat.le_trans HSZ9.out hR.size)), h3⟩)
        · intro vals wv hR hall
          have i0 := hall 0 (by omega)
          have i1 := hall 1 (by omega)
          have i3 := hall 3 (by omega)
          have i5 := hall 5 (by omega)
          simp only [factAt, Is, CkO, List.getD_eq_getElem?_getD, List.getElem?_cons_succ, List.getElem?_cons_zero, Option.getD_some] at i0 i1 i3 i5
          clear hall
          obtain ⟨pq, nq, kq, hq, hoq⟩ := i5
          simp only [List.take_succ_cons, List.take_zero, List.drop_succ_cons, List.drop_zero, fillFrom, Act.put, i0, i1, i3, hq, List.setIfInBounds_toArray, List.set_cons_zero, List.set_cons_succ, Nat.zero_add, Nat.reduceAdd]
          obtain ⟨wB, hwB⟩ : ∃ x, x = wv := ⟨_, rfl⟩
          subst hwB
          have HOQ := hid hoq
          have HASB := hid (HASA.out.mono hR)
          have HEVB := hid (HEVA.out.mono hR)
          have HNMB := hid (show ¬ Mine g vr (w.heap.size + 1) from mine_not HASB.out HEVB.out (by decide) (by decide))
          have GB := hid (show Chg (Mine g vr) w wB from GA.out.trans (Chg.of_gr hR))
          clear hR i0 i1 i3 hq hoq
          go_wp2_with fail
          refine (say_any B _ g vr a HASB.out path xi.tag _ _ HOQ.out HL.out).mono ?_
          rintro e w5 ⟨rfl, hd5⟩
          have HEV4 := hid (show RowV w5 (w.heap.size + 1) 33 [.bool false, .bool false, .bool false, .int .u32 0, .int .u32 0, .int .u16 0, .int .u16 0, .int .u32 0, .slice none 0 0, .int .u32 0] from by
            obtain ⟨vr1, -, -, hc1⟩ := hd5
            exact HEVB.out.chg hc1 HNMB.out)
          have HD5 := hid (show DidA B w g vr _ w5 from Did.trans (fun _ h => .inl h) GB.out hd5)
          have HQ := hid (show onInitD a now path c = { a with row := a.row ++ [⟨path, xi.tag, (⟨d1, 65536, 2, 2, d2, cookBytes a.key ⟨now, d1, xi.tag, d2, xi.tsn, xi.rwnd, min xi.in_ 2, min xi.out 2⟩⟩ : InitD).chk 2⟩] } by unfold onInitD; rw [HX.out, HDV.out])
          clear hd5
          have y0 := HEV4.out.at 0 (by simp)
          have y1 := HEV4.out.at 1 (by simp)
          have y2 := HEV4.out.at 2 (by simp)
          have y3 := HEV4.out.at 3 (by simp)
          have y4 := HEV4.out.at 4 (by simp)
          have y5 := HEV4.out.at 5 (by simp)
          have y6 := HEV4.out.at 6 (by simp)
          have y7 := HEV4.out.at 7 (by simp)
          have y8 := HEV4.out.at 8 (by simp)
          have y9 := HEV4.out.at 9 (by simp)
          simp only [List.getElem_cons_succ, List.getElem_cons_zero] at y0 y1 y2 y3 y4 y5 y6 y7 y8 y9
          have f0 := HEV4.out.frozen 0
          have f1 := HEV4.out.frozen 1
          have f2 := HEV4.out.frozen 2
          have f3 := HEV4.out.frozen 3
          have f4 := HEV4.out.frozen 4
          have f5 := HEV4.out.frozen 5
          have f6 := HEV4.out.frozen 6
          have f7 := HEV4.out.frozen 7
          have f8 := HEV4.out.frozen 8
          have f9 := HEV4.out.frozen 9
          go_wp2_with fail
          have HEC := hid (show Chg (fun k => k = w.heap.size + 1) w5 _ from (((((((((((Chg.refl (fun k => k = w.heap.size + 1) w5).set ⟨(w.heap.size + 1), 0, none⟩ (.bool false) (.inl rfl)).set ⟨(w.heap.size + 1), 1, none⟩ (.bool false) (.inl rfl)).set ⟨(w.heap.size + 1), 2, none⟩ (.bool false) (.inl rfl)).set ⟨(w.heap.size + 1), 3, none⟩ (.int .u32 0) (.inl rfl)).set ⟨(w.heap.size + 1), 4, none⟩ (.int .u32 0) (.inl rfl)).set ⟨(w.heap.size + 1), 5, none⟩ (.int .u16 0) (.inl rfl)).set ⟨(w.heap.size + 1), 6, none⟩ (.int .u16 0) (.inl rfl)).set ⟨(w.heap.size + 1), 7, none⟩ (.int .u32 0) (.inl rfl)).set ⟨(w.heap.size + 1), 8, none⟩ (.slice none 0 0) (.inl rfl)).set ⟨(w.heap.size + 1), 9, none⟩ (.int .u32 0) (.inl rfl)))
          exact onInit_ret (.bool false) (.bool false) (.bool false) (.int .u32 0) (.int .u32 0) (.int .u16 0) (.int .u16 0) (.int .u32 0) (.slice none 0 0) (.int .u32 0) rfl rfl ((((((((((HEV4.out.store 0 (.bool false)).store 1 (.bool false)).store 2 (.bool false)).store 3 (.int .u32 0)).store 4 (.int .u32 0)).store 5 (.int .u16 0)).store 6 (.int .u16 0)).store 7 (.int .u32 0)).store 8 (.slice none 0 0)).store 9 (.int .u32 0)) ⟨rfl, by rw [HQ.out]; exact (HD5.out).ev (Nat.le_succ _) HEV4.out (by decide) (by decide) (by decide) HEC.out⟩
end Go.Proofs.YtiimlanbbfhkjaaDoor

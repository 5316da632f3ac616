/- onEcho of one that listens. Conditions: the association lies as it should; the cookie is its own, and fresh. -/
import Derived.Test.YtiimlanbbfhkjaaDoorAsTakes
import Derived.Test.YtiimlanbbfhkjaaDoorAsInit
import Derived.Test.YtiimlanbbfhkjaaDoorCookA
set_option linter.unusedSimpArgs false
set_option linter.unusedVariables false




namespace Go.FL

/-- Behind a cookie of its own, of one that listens. -/
def onEchoD (a : AsD) (path : Nat) (x : CookD) : AsD := { a with tag := x.ot, tsn := x.otsn, peer := ⟨x.pt, x.rw, x.in_, x.out, x.ptsn, []⟩, row := a.row ++ [⟨path, x.pt, ⟨11, 0, []⟩⟩], st := 4, timer := -1 }
end Go.FL

namespace Go.Proofs.YtiimlanbbfhkjaaDoor

open Go.RowKit Go.FL Go.ChangeShapes

theorem onEcho_ret {a : Act} {W : World} {g : Nat} {R : Ending → World → Prop} (v0 v1 v2 v3 v4 v5 v6 v7 v8 v9 : Value) (h2 : a.tmps.getD 8 undef = .pointer (some ⟨g, 0, none⟩)) (hd : a.defers = [])
    (hc : RowV W g 33 [v0, v1, v2, v3, v4, v5, v6, v7, v8, v9]) (hR : R (.returned (.agg #[v0, v1, v2, v3, v4, v5, v6, v7, v8, v9])) W) : bodyPost Tryd.prog Tryd.f52 R .ret a W := by
  refine bodyPost_ret (v := .agg #[v0, v1, v2, v3, v4, v5, v6, v7, v8, v9]) ?_ hd hR
  have c0 := hc.at 0 (by simp)
  have c1 := hc.at 1 (by simp)
  have c2 := hc.at 2 (by simp)
  have c3 := hc.at 3 (by simp)
  have c4 := hc.at 4 (by simp)
  have c5 := hc.at 5 (by simp)
  have c6 := hc.at 6 (by simp)
  have c7 := hc.at 7 (by simp)
  have c8 := hc.at 8 (by simp)
  have c9 := hc.at 9 (by simp)
  simp only [List.getElem_cons_succ, List.getElem_cons_zero] at c0 c1 c2 c3 c4 c5 c6 c7 c8 c9
  simp only [Array.getD_eq_getD_getElem?] at h2
  simp [results, Tryd.results52, go_sem, h2, asAddr, c0, c1, c2, c3, c4, c5, c6, c7, c8, c9]
set_option maxRecDepth 100000 in
set_option maxHeartbeats 8000000 in
theorem onEcho_listen (B : Nat) (w : World) (g : Nat) (vr : Value) (a : AsD) (h : As B w g vr a) (now : Int) (hnow : 0 ≤ now ∧ now ≤ 2305843009213693952) (path : Nat) (c : Chk) (s : Value) (hs : Own w B 5 s c.b) (hlaid : ShaLaid w) (hkl : a.key.length ≤ 64) (hcb : c.b.length ≤ 1000000) (hl : a.row.length ≤ 1000000) (hst : a.st = 1) (x : CookD) (hck : cookTells a.key c.b = (0, x)) (hxw : x.wf) (hfr : freshB x.born now 100 = true) :
    Calls Tryd.prog 52 #[.pointer (some ⟨g, 0, none⟩), .int .i64 now, .int .i64 (path : Int), .agg #[.int .u8 (c.k.toNat : Int), .int .u8 (c.f.toNat : Int), s]] w fun e w' => e = .returned (EvD.val ⟨true, false, false, ⟨x.pt, x.rw, x.in_, x.out, x.ptsn, []⟩, x.otsn⟩) ∧ DidA B w g vr (onEchoD a path x) w' := by
  have HL := hid hl
  have HNOW := hid hnow
  have HCBL := hid hcb
  have HKL := hid (show a.key.length ≤ 1047000 by omega)
  have HST := hid hst
  have HXW := hid hxw
  have HFR := hid hfr
  have HCKV := hid (show Value.tuple #[(cookTells a.key c.b).2.val, .int .i64 (cookTells a.key c.b).1] = .tuple #[.agg #[.int .i64 x.born, .int .u32 (x.ot : Int), .int .u32 (x.pt : Int), .int .u32 (x.otsn : Int), .int .u32 (x.ptsn : Int), .int .u32 (x.rw : Int), .int .u16 (x.out : Int), .int .u16 (x.in_ : Int)], .int .i64 0] by rw [hck]; rfl)
  have HLAID0 := hid hlaid
  obtain ⟨ps, nb, cps, rfl⟩ : ∃ p n c, s = Value.slice p n c := by
    obtain ⟨p9, c9, hsf, -⟩ := hs.rd
    exact ⟨_, _, _, hsf⟩
  obtain ⟨W0, hW0⟩ : ∃ W, W = w.alloc (.cells #[.int .u8 (c.k.toNat : Int), .int .u8 (c.f.toNat : Int), .slice ps nb cps] 47 (0, 0)) := ⟨_, rfl⟩
  have hs0 : W0.heap.size = w.heap.size + 1 := by rw [hW0]; simp
  obtain ⟨W, hW⟩ : ∃ W, W = W0.alloc (.cells #[.bool false, .bool false, .bool false, .int .u32 0, .int .u32 0, .int .u16 0, .int .u16 0, .int .u32 0, .slice none 0 0, .int .u32 0] 33 (0, 0)) := ⟨_, rfl⟩
  have HCH := hid (show RowV W w.heap.size 47 [.int .u8 (c.k.toNat : Int), .int .u8 (c.f.toNat : Int), .slice ps nb cps] by rw [hW, hW0]; exact (RowV.new w _ _).alloc _)
  have HEV := hid (show RowV W (w.heap.size + 1) 33 [.bool false, .bool false, .bool false, .int .u32 0, .int .u32 0, .int .u16 0, .int .u16 0, .int .u32 0, .slice none 0 0, .int .u32 0] by rw [hW, ← hs0]; exact RowV.new W0 _ _)
  have G0 := hid (show Below w.heap.size w W by rw [hW, hW0]; exact ((Below.refl _ _).alloc (Nat.le_refl _) _).alloc (by simp) _)
  have HAS := hid (AsAt.mono h G0.out)
  have HBS := hid (hs.mono G0.out)
  have HNM := hid (show ¬ Mine g vr (w.heap.size + 1) from mine_not HAS.out HEV.out (by decide) (by decide))
  obtain ⟨vk, vp, vs, hr, -⟩ := id HAS.out
  have HA := hid hr
  rw [hW0] at hW
  have HE := hid hW
  clear h hs hr hs0 hW0 W0
  have HLAIDW := hid (HLAID0.out.mono G0.out)
  clear hl hnow hcb hkl hst hlaid hxw hfr hck
  have k0 := HCH.out.at 0 (by simp)
  have k1 := HCH.out.at 1 (by simp)
  have k2 := HCH.out.at 2 (by simp)
  simp only [List.getElem_cons_succ, List.getElem_cons_zero] at k0 k1 k2
  rw [hW] at k0 k1 k2
  clear hW
  obtain ⟨vk, vp, vs, r1, r2, r3, -⟩ := id HAS.out
  obtain ⟨pk, nk, ck, rfl⟩ : ∃ p n c, vk = Value.slice p n c := by
    obtain ⟨p9, c9, hsf, -⟩ := r3.rd
    exact ⟨_, _, _, hsf⟩
  have HKEY := hid r3
  have HAW := hid r1
  have HBW := hid (show B ≤ W.heap.size from Nat.le_trans r2 (Nat.le_of_lt r1.lt))
  clear r1 r2 r3
  go_enter Tryd.func52, Tryd.ntmps52
  go_wp2_with fail
  rw [← HE.out]
  clear k0 k1 k2
  have c14 := HAW.out.at 14 (by simp [AsD.cells])
  simp only [AsD.cells, List.getElem_cons_succ, List.getElem_cons_zero] at c14
  have k2 := HCH.out.at 2 (by simp)
  simp only [List.getElem_cons_succ, List.getElem_cons_zero] at k2
  have nn0 := World.new_ne W _ c14
  have nn2 := World.new_ne W _ k2
  have gal : Below W.heap.size W (W.alloc (.cells #[.int .i64 0, .int .u32 0, .int .u32 0, .int .u32 0, .int .u32 0, .int .u32 0, .int .u16 0, .int .u16 0] 109 (0, 0))).drew := ((Below.refl W.heap.size W).alloc (Nat.le_refl _) (.cells #[.int .i64 0, .int .u32 0, .int .u32 0, .int .u32 0, .int .u32 0, .int .u32 0, .int .u16 0, .int .u16 0] 109 (0, 0))).drew
  have KA0 := hid (cell?_of_below gal c14)
  have KA2 := hid (cell?_of_below gal k2)
  have HKd := hid (show Rd W.drew (.slice pk nk ck) a.key from HKEY.out.rd.mono ((Below.refl _ _).drew))
  have HCd := hid (show Rd W.drew (.slice ps nb cps) c.b from HBS.out.rd.mono ((Below.refl _ _).drew))
  have HLd := hid (show ShaLaid W.drew from HLAIDW.out.mono ((Below.refl _ _).drew))
  have HKa := hid (show Rd (W.alloc (.cells #[.int .i64 0, .int .u32 0, .int .u32 0, .int .u32 0, .int .u32 0, .int .u32 0, .int .u16 0, .int .u16 0] 109 (0, 0))).drew (.slice pk nk ck) a.key from HKEY.out.rd.mono gal)
  have HCa := hid (show Rd (W.alloc (.cells #[.int .i64 0, .int .u32 0, .int .u32 0, .int .u32 0, .int .u32 0, .int .u32 0, .int .u16 0, .int .u16 0] 109 (0, 0))).drew (.slice ps nb cps) c.b from HBS.out.rd.mono gal)
  have HLa := hid (show ShaLaid (W.alloc (.cells #[.int .i64 0, .int .u32 0, .int .u32 0, .int .u32 0, .int .u32 0, .int .u32 0, .int .u16 0, .int .u16 0] 109 (0, 0))).drew from HLAIDW.out.mono gal)
  have HZa := hid (show RowV (W.alloc (.cells #[.int .i64 0, .int .u32 0, .int .u32 0, .int .u32 0, .int .u32 0, .int .u32 0, .int .u16 0, .int .u16 0] 109 (0, 0))).drew W.heap.size 109 [.int .i64 0, .int .u32 0, .int .u32 0, .int .u32 0, .int .u32 0, .int .u32 0, .int .u16 0, .int .u16 0] from (RowV.new W 109 _).drew)
  have GAL := hid gal
  clear gal
  go_region_held3 (fun w' => w'.cell? ⟨g, 14, none⟩ = some (.slice pk nk ck) ∧ w'.cell? ⟨w.heap.size, 2, none⟩ = some (.slice ps nb cps)) (go_keep) (first | ((with_reducible refine (cookRead_any _ _ a.key c.b _ HKd.out HCd.out HLd.out HKL.out HCBL.out).mono ?_); rintro e w2 ⟨rfl, hb2⟩; rw [HCKV.out]; have s0 := cell?_of_below hb2 (show W.drew.cell? ⟨g, 14, none⟩ = _ from c14); have s2 := cell?_of_below hb2 (show W.drew.cell? ⟨w.heap.size, 2, none⟩ = _ from k2); have m0 := World.new_ne w2 _ s0; have m2 := World.new_ne w2 _ s2) | ((with_reducible refine (cookRead_any _ _ a.key c.b _ HKa.out HCa.out HLa.out HKL.out HCBL.out).mono ?_); rintro e w2 ⟨rfl, hb2⟩; rw [HCKV.out]; have hz2 := HZa.out.mono hb2; have q0 := hz2.at 0 (by simp); have q1 := hz2.at 1 (by simp); have q2 := hz2.at 2 (by simp); have q3 := hz2.at 3 (by simp); have q4 := hz2.at 4 (by simp); have q5 := hz2.at 5 (by simp); have q6 := hz2.at 6 (by simp); have q7 := hz2.at 7 (by simp); simp only [List.getElem_cons_succ, List.getElem_cons_zero] at q0 q1 q2 q3 q4 q5 q6 q7; have f0 := hz2.frozen 0; have f1 := hz2.frozen 1; have f2 := hz2.frozen 2; have f3 := hz2.frozen 3; have f4 := hz2.frozen 4; have f5 := hz2.frozen 5; have f6 := hz2.frozen 6; have f7 := hz2.frozen 7; have s0 := cell?_of_below hb2 KA0.out; have s2 := cell?_of_below hb2 KA2.out))
  all_goals rename_i hHld
  all_goals clear hHld
  · have hbb := gr_trans ((Below.refl W.heap.size W).drew) hb2
    obtain ⟨W8, hW8⟩ : ∃ W8, W8 = w2.alloc (.cells #[.int .i64 x.born, .int .u32 (x.ot : Int), .int .u32 (x.pt : Int), .int .u32 (x.otsn : Int), .int .u32 (x.ptsn : Int), .int .u32 (x.rw : Int), .int .u16 (x.out : Int), .int .u16 (x.in_ : Int)] 109 (0, 0)) := ⟨_, rfl⟩
    have g8 : Below W.heap.size W W8 := by rw [hW8]; exact hbb.alloc hbb.size _
    have HK8 := hid (show RowV W8 w2.heap.size 109 [.int .i64 x.born, .int .u32 (x.ot : Int), .int .u32 (x.pt : Int), .int .u32 (x.otsn : Int), .int .u32 (x.ptsn : Int), .int .u32 (x.rw : Int), .int .u16 (x.out : Int), .int .u16 (x.in_ : Int)] by rw [hW8]; exact RowV.new w2 _ _)
    have HAS8 := hid (HAS.out.mono g8)
    have HEV8 := hid (HEV.out.mono g8)
    have G8 := hid (gr_trans G0.out g8)
    rw [← hW8]
    clear hW8 g8 hbb hb2 s0 s2 m0 m2 c14 k2 nn0 nn2
    generalize w2.heap.size = g8 at *
    obtain ⟨W9, hW9⟩ : ∃ y, y = W8.alloc (.cells #[.int .u8 1, .int .u8 2, .int .u8 3] 5 (0, 0)) := ⟨_, rfl⟩
    have g9 : Below W8.heap.size W8 W9 := by rw [hW9]; exact (Below.refl _ _).alloc (Nat.le_refl _) _
    have HRD9 := hid (show Rd W9 (.slice (some ⟨W8.heap.size, 0, none⟩) 3 3) [1, 2, 3] by rw [hW9]; exact rd_new W8 5 [1, 2, 3] 3 _ rfl rfl (by unfold maxLen; omega))
    have HAS9 := hid (HAS8.out.mono g9)
    have HEV9 := hid (HEV8.out.mono g9)
    have HK9 := hid (HK8.out.mono g9)
    have G9 := hid (gr_trans G8.out g9)
    have HE9 := hid hW9
    have HB3 := hid (show ([1, 2, 3] : List UInt8).any (fun x => decide (a.st = x.toNat)) = true by rw [HST.out]; rfl)
    clear hW9 g9
    go_wp2_with fail
    rw [← HE9.out]
    refine (is_any B _ g vr a HAS9.out (by rw [HST.out]; decide) [1, 2, 3] _ HRD9.out).mono ?_
    rintro e w4 ⟨rfl, rfl⟩
    rw [HB3.out]
    obtain ⟨vk', vp', vs', r1, -⟩ := id HAS9.out
    have HAR := hid r1
    clear r1
    have c15 := HAR.out.at 15 (by simp [AsD.cells])
    simp only [AsD.cells, List.getElem_cons_succ, List.getElem_cons_zero] at c15
    have z0 : ((a.st : Int) == 0) = false := by have := HST.out; simp; omega
    have z1 : ((a.st : Int) != 1) = false := by have := HST.out; simp; omega
    have HFW := hid (show ∀ wx, Calls Tryd.prog 68 #[.agg #[.int .i64 x.born, .int .u32 (x.ot : Int), .int .u32 (x.pt : Int), .int .u32 (x.otsn : Int), .int .u32 (x.ptsn : Int), .int .u32 (x.rw : Int), .int .u16 (x.out : Int), .int .u16 (x.in_ : Int)], .int .i64 now, .int .i64 100] wx fun e w' => e = .returned (.bool true) ∧ Below wx.heap.size wx w' from fun wx => by
      rw [← HFR.out]
      exact fresh_walk x HXW.out now 100 (by have := HNOW.out; omega) (by omega) wx)
    go_wp2_with fail
    go_quiet (fail)
    go_wp2_with fail
    clear c15
    have HASq := hid (HAS9.out.mono (gr_drewN W9 nq))
    have HEVq := hid (HEV9.out.mono (gr_drewN W9 nq))
    have HKq := hid (HK9.out.mono (gr_drewN W9 nq))
    have HARq := hid (HAR.out.mono (gr_drewN W9 nq))
    have Gq := hid (gr_trans G9.out (gr_drewN W9 nq))
    generalize W9.drewN nq = Wq at *
    have HC10 := hid (HARq.out.at 10 (by simp [AsD.cells]))
    simp only [AsD.cells, List.getElem_cons_succ, List.getElem_cons_zero] at HC10
    refine wp_region_gr [Is (.agg ([.int .i64 x.born, .int .u32 (x.ot : Int), .int .u32 (x.pt : Int), .int .u32 (x.otsn : Int), .int .u32 (x.ptsn : Int), .int .u32 (x.rw : Int), .int .u16 (x.out : Int), .int .u16 (x.in_ : Int)]).toArray), Is (.int .i64 now), Is (.int .i64 now), Is (.pointer (some ⟨g, 0, none⟩)), Is (.pointer (some ⟨g, 0, none⟩)), Is (.pointer (some ⟨g, 0, none⟩)), Is (.pointer (some ⟨g, 10, none⟩)), Is (.int .i64 100), Is (.bool true), Is (.bool false), Is (.bool false)] (by kernel_rfl) (by kernel_rfl) (by kernel_rfl) ?_ ?_ ?_
    · simp only [StabAll, Is.gr, RdF.gr, OwnF.gr, AnyF.gr, and_self]
    · try (rename_i Kk hKk; clear hKk Kk)
      simp only [AllOps, List.map_cons, List.map_nil, depsOf, List.filterMap_cons, List.filterMap_nil, Region.binds, depFacts, guardF, reduceIte, List.getD_eq_getElem?_getD, List.getElem?_cons_succ, List.getElem?_cons_zero, Option.getD_some, factAt, and_true]
      refine ⟨?_, ?_, ?_, ?_, ?_, ?_, ?_, ?_, ?_, ?_, ?_⟩
      all_goals intro ρ wv hρ hR hd
      all_goals try simp only [Is] at hd
      · exact opOk_loadRow rfl (g8) (by first | exact hρ.2 _ rfl | simp [hd]) _ ([.int .i64 x.born, .int .u32 (x.ot : Int), .int .u32 (x.pt : Int), .int .u32 (x.otsn : Int), .int .u32 (x.ptsn : Int), .int .u32 (x.rw : Int), .int .u16 (x.out : Int), .int .u16 (x.in_ : Int)]) _ (HKq.out.mono hR) Tryd.underlying109 rfl (by kernel_rfl) ⟨rfl, GrR.refl _⟩
      · exact opOk_move (.inl rfl) ⟨by simp only [Is]; (first | exact hρ.2 1 rfl | exact hd | exact hd.1 | exact hd.2 | simp [hd]), GrR.refl _⟩
      · exact opOk_call hρ.1 rfl rfl Tryd.func35 (by kernel_rfl) rfl (by simp [hd, hρ.1.const, hρ.1.func]) ((clock_any now HNOW.out wv).mono fun e w' ⟨h1, h2⟩ => ⟨_, h1, rfl, h2 ▸ GrR.refl _⟩)
      · exact opOk_move (.inl rfl) ⟨by simp only [Is]; (first | exact hρ.2 0 rfl | exact hd | exact hd.1 | exact hd.2 | simp [hd]), GrR.refl _⟩
      · exact opOk_val (v := .pointer (some ⟨g, 0, none⟩)) (w' := wv) (by simp [execOp, go_sem, hρ.1.const, hρ.1.func, hd]) ⟨rfl, GrR.refl _⟩
      · exact opOk_val (v := .pointer (some ⟨g, 0, none⟩)) (w' := wv) (by simp [execOp, go_sem, hρ.1.const, hρ.1.func, hd]) ⟨rfl, GrR.refl _⟩
      · exact opOk_val (v := .pointer (some ⟨g, 10, none⟩)) (w' := wv) (by simp [execOp, go_sem, hρ.1.const, hρ.1.func, hd]) ⟨rfl, GrR.refl _⟩
      · (have h0 := cell?_of_below hR HC10.out; exact opOk_val (v := .int .i64 100) (w' := wv) (by simp [execOp, go_sem, hd, h0]) ⟨rfl, GrR.refl _⟩)
      · exact opOk_call hρ.1 rfl rfl Tryd.func68 (by kernel_rfl) rfl (by simp [hd, hρ.1.const, hρ.1.func]) ((HFW.out wv).mono fun e w' ⟨h1, h2⟩ => ⟨_, h1, rfl, h2⟩)
      · exact opOk_val (v := .bool false) (w' := wv) (by simp [execOp, go_sem, hρ.1.const, hρ.1.func, hd]) ⟨rfl, GrR.refl _⟩
      · exact opOk_move (.inr rfl) ⟨by simp only [Is]; (first | exact hρ.2 92 rfl | exact hd | exact hd.1 | exact hd.2 | simp [hd]), GrR.refl _⟩
    · intro vals wv hR hall
      have i10 := hall 10 (by simp)
      simp only [factAt, Is, List.getD_eq_getElem?_getD, List.getElem?_cons_succ, List.getElem?_cons_zero, Option.getD_some] at i10
      clear hall
      simp only [fillFrom, Act.put, i10, List.setIfInBounds_toArray, List.set_cons_zero, List.set_cons_succ]
      rename_i Kk hKk
      refine hKk _ _ ?_
      clear hKk Kk
      obtain ⟨wa, hwa⟩ : ∃ y, y = wv := ⟨_, rfl⟩
      subst hwa
      have HASa := hid (HASq.out.mono hR)
      have HEVa := hid (HEVq.out.mono hR)
      have HKa := hid (HKq.out.mono hR)
      have Ga := hid (gr_trans Gq.out hR)
      clear hR i10 HC10
      obtain ⟨vk', vp', vs', r1, -⟩ := id HASa.out
      have HAa := hid r1
      clear r1
      have X0 := hid (HKa.out.at 0 (by simp))
      have X1 := hid (HKa.out.at 1 (by simp))
      have X2 := hid (HKa.out.at 2 (by simp))
      have X3 := hid (HKa.out.at 3 (by simp))
      have X4 := hid (HKa.out.at 4 (by simp))
      have X5 := hid (HKa.out.at 5 (by simp))
      have X6 := hid (HKa.out.at 6 (by simp))
      have X7 := hid (HKa.out.at 7 (by simp))
      simp only [List.getElem_cons_succ, List.getElem_cons_zero] at X0 X1 X2 X3 X4 X5 X6 X7
      have c16 := HAa.out.at 16 (by simp [AsD.cells])
      have c17 := HAa.out.at 17 (by simp [AsD.cells])
      simp only [AsD.cells, List.getElem_cons_succ, List.getElem_cons_zero] at c16 c17
      have f16 := HAa.out.frozen 16
      have f17 := HAa.out.frozen 17
      have x1 := X1.out
      have x3 := X3.out
      have HNE8 := hid (show g8 ≠ g from rowV_ne HKa.out HAa.out (by decide))
      obtain ⟨wb, hwb⟩ : ∃ y, y = ((wa.setCell ⟨g, 16, none⟩ (.int .u32 (x.ot : Int))).setCell ⟨g, 17, none⟩ (.int .u32 (x.otsn : Int))) := ⟨_, rfl⟩
      have HCwb := hid (show Chg (fun k => k = g) wa wb by rw [hwb]; exact (((Chg.refl (fun k => k = g) wa).set ⟨g, 16, none⟩ (.int .u32 (x.ot : Int)) (.inl rfl)).set ⟨g, 17, none⟩ (.int .u32 (x.otsn : Int)) (.inl rfl)))
      have HASwb := hid (show As B wb g vr { a with tag := x.ot, tsn := x.otsn } from by
        obtain ⟨vk, vp, vs, r1, r2, r3, r4, r5, r6⟩ := HASa.out
        exact ⟨vk, vp, vs, by rw [hwb]; exact ((r1.store 16 (.int .u32 (x.ot : Int))).store 17 (.int .u32 (x.otsn : Int))), r2, r3.chg HCwb.out (own_ne_row r3 r1 (by decide)), r4.chg HCwb.out (own_ne_row r4 r1 (by decide)), outs_g r5 r1 (by decide) (by decide) HCwb.out, r6.chg HCwb.out (own_ne_row r6 r1 (by decide))⟩)
      have HKb := hid (HKa.out.chg HCwb.out HNE8.out)
      have HEVb := hid (HEVa.out.chg HCwb.out (rowV_ne HEVa.out HAa.out (by decide)))
      have HEb := hid hwb
      obtain ⟨_, _, _, r1, -⟩ := id HASwb.out
      have HAb := hid r1
      clear r1 X0 X1 X2 X3 X4 X5 X6 X7
      go_wp2_with fail
      go_region
      rw [← HEb.out]
      have HGD := hid (show Below wb.heap.size wb wb.drew from (Below.refl _ _).drew)
      have HASz := hid (HASwb.out.mono HGD.out)
      have HKz := hid (HKb.out.mono HGD.out)
      have HEVz := hid (HEVb.out.mono HGD.out)
      have HAz := hid (HAb.out.mono HGD.out)
      clear hwb c16 c17 f16 f17 x1 x3
      generalize wb.drew = wz at *
      have x2 := HKz.out.at 2 (by simp)
      have x4 := HKz.out.at 4 (by simp)
      have x5 := HKz.out.at 5 (by simp)
      have x6 := HKz.out.at 6 (by simp)
      have x7 := HKz.out.at 7 (by simp)
      simp only [List.getElem_cons_succ, List.getElem_cons_zero] at x2 x4 x5 x6 x7
      have c18 := HAz.out.at 18 (by simp [AsD.cells])
      have c19 := HAz.out.at 19 (by simp [AsD.cells])
      have c20 := HAz.out.at 20 (by simp [AsD.cells])
      have c21 := HAz.out.at 21 (by simp [AsD.cells])
      have c22 := HAz.out.at 22 (by simp [AsD.cells])
      have c23 := HAz.out.at 23 (by simp [AsD.cells])
      simp only [AsD.cells, List.getElem_cons_succ, List.getElem_cons_zero] at c18 c19 c20 c21 c22 c23
      have f18 := HAz.out.frozen 18
      have f19 := HAz.out.frozen 19
      have f20 := HAz.out.frozen 20
      have f21 := HAz.out.frozen 21
      have f22 := HAz.out.frozen 22
      have f23 := HAz.out.frozen 23
      obtain ⟨wc, hwc⟩ : ∃ y, y = ((((((wz.setCell ⟨g, 18, none⟩ (.int .u32 (x.pt : Int))).setCell ⟨g, 19, none⟩ (.int .u32 (x.rw : Int))).setCell ⟨g, 20, none⟩ (.int .u16 (x.in_ : Int))).setCell ⟨g, 21, none⟩ (.int .u16 (x.out : Int))).setCell ⟨g, 22, none⟩ (.int .u32 (x.ptsn : Int))).setCell ⟨g, 23, none⟩ (.slice none 0 0)) := ⟨_, rfl⟩
      have HCwc := hid (show Chg (fun k => k = g) wz wc by rw [hwc]; exact (((((((Chg.refl (fun k => k = g) wz).set ⟨g, 18, none⟩ (.int .u32 (x.pt : Int)) (.inl rfl)).set ⟨g, 19, none⟩ (.int .u32 (x.rw : Int)) (.inl rfl)).set ⟨g, 20, none⟩ (.int .u16 (x.in_ : Int)) (.inl rfl)).set ⟨g, 21, none⟩ (.int .u16 (x.out : Int)) (.inl rfl)).set ⟨g, 22, none⟩ (.int .u32 (x.ptsn : Int)) (.inl rfl)).set ⟨g, 23, none⟩ (.slice none 0 0) (.inl rfl)))
      have HASwc := hid (show As B wc g vr { a with tag := x.ot, tsn := x.otsn, peer := ⟨x.pt, x.rw, x.in_, x.out, x.ptsn, []⟩ } from by
        obtain ⟨vk, vp, vs, r1, r2, r3, r4, r5, r6⟩ := HASz.out
        exact ⟨vk, .slice none 0 0, vs, by rw [hwc]; exact ((((((r1.store 18 (.int .u32 (x.pt : Int))).store 19 (.int .u32 (x.rw : Int))).store 20 (.int .u16 (x.in_ : Int))).store 21 (.int .u16 (x.out : Int))).store 22 (.int .u32 (x.ptsn : Int))).store 23 (.slice none 0 0)), r2, r3.chg HCwc.out (own_ne_row r3 r1 (by decide)), Own.nil _ _ _, outs_g r5 r1 (by decide) (by decide) HCwc.out, r6.chg HCwc.out (own_ne_row r6 r1 (by decide))⟩)
      have HKc := hid (HKz.out.chg HCwc.out HNE8.out)
      have HEVc := hid (HEVz.out.chg HCwc.out (rowV_ne HEVz.out HAz.out (by decide)))
      have HEc := hid hwc
      have HNM3 := hid (show ¬ Mine g vr (w.heap.size + 1) from mine_not HASwc.out HEVc.out (by decide) (by decide))
      have GC := hid (show Chg (Mine g vr) w wc from (((Chg.of_gr Ga.out).then HCwb.out (fun i _ e => .inl e)).trans (Chg.of_gr HGD.out)).then HCwc.out (fun i _ e => .inl e))
      have HX2 := hid (show wc.cell? ⟨g8, 2, none⟩ = some (.int .u32 (x.pt : Int)) from by
        have := HKc.out.at 2 (by simp)
        simpa using this)
      go_wp2_with fail
      rw [← HEc.out]
      clear hwc x2 x4 x5 x6 x7 c18 f18 c19 f19 c20 f20 c21 f21 c22 f22 c23 f23
      refine wp_region_tail 5 [Is (.pointer (some ⟨g, 0, none⟩)), Is (.int .i64 (path : Int)), Is (.pointer (some ⟨g8, 2, none⟩)), Is (.int .u32 (x.pt : Int)), CkO B 5 ⟨11, 0, []⟩] (by kernel_rfl) (by kernel_rfl) (by kernel_rfl) (by kernel_rfl) (by kernel_rfl) (by kernel_rfl) ?_ ?_ ?_
      · simp only [StabAll, Is.gr, RdF.gr, OwnF.gr, AnyF.gr, CkO.gr, and_self]
      · try (rename_i Kk hKk; clear hKk Kk)
        simp only [List.take_succ_cons, List.take_zero, AllOps, List.map_cons, List.map_nil, depsOf, List.filterMap_cons, List.filterMap_nil, Region.binds, depFacts, guardF, reduceIte, List.getD_eq_getElem?_getD, List.getElem?_cons_succ, List.getElem?_cons_zero, Option.getD_some, factAt, and_true]
        refine ⟨?_, ?_, ?_, ?_, ?_⟩
        all_goals intro ρ wv hρ hR hd
        all_goals try simp only [Is] at hd
        · exact opOk_move (.inl rfl) ⟨by simp only [Is]; (first | exact hρ.2 0 rfl | exact hd | exact hd.1 | exact hd.2 | simp [hd]), GrR.refl _⟩
        · exact opOk_move (.inl rfl) ⟨by simp only [Is]; (first | exact hρ.2 2 rfl | exact hd | exact hd.1 | exact hd.2 | simp [hd]), GrR.refl _⟩
        · exact opOk_val (v := .pointer (some ⟨g8, 2, none⟩)) (w' := wv) (by simp [execOp, go_sem, hρ.1.const, hρ.1.func, hd, (hρ.2 9 rfl)]) ⟨rfl, GrR.refl _⟩
        · (have h0 := cell?_of_below hR HX2.out; exact opOk_val (v := .int .u32 (x.pt : Int)) (w' := wv) (by simp [execOp, go_sem, hd, h0]) ⟨rfl, GrR.refl _⟩)
        · exact opOk_call hρ.1 rfl rfl Tryd.func39 (by kernel_rfl) rfl (by simp [hd, hρ.1.const, hρ.1.func]) ((plain_any 11 wv).mono fun e w' ⟨h1, h2⟩ => ⟨_, h1, ckO_mk (c := ⟨11, 0, []⟩) (Own.nil _ _ _), h2⟩)
      · intro vals wv hR hall
        have i0 := hall 0 (by omega)
        have i1 := hall 1 (by omega)
        have i3 := hall 3 (by omega)
        have i4 := hall 4 (by omega)
        simp only [factAt, Is, CkO, List.getD_eq_getElem?_getD, List.getElem?_cons_succ, List.getElem?_cons_zero, Option.getD_some] at i0 i1 i3 i4
        clear hall
        obtain ⟨pq, nq, kq, hq, hoq⟩ := i4
        simp only [List.take_succ_cons, List.take_zero, List.drop_succ_cons, List.drop_zero, fillFrom, Act.put, i0, i1, i3, hq, List.setIfInBounds_toArray, List.set_cons_zero, List.set_cons_succ, Nat.zero_add, Nat.reduceAdd]
        obtain ⟨wd, hwd⟩ : ∃ x, x = wv := ⟨_, rfl⟩
        subst hwd
        have HOQ := hid hoq
        have HASd := hid (HASwc.out.mono hR)
        have HEVd := hid (HEVc.out.mono hR)
        have GD := hid (show Chg (Mine g vr) w wd from GC.out.trans (Chg.of_gr hR))
        clear hR i0 i1 i3 hq hoq HX2
        go_wp2_with fail
        refine (say_any B _ g vr _ HASd.out path x.pt ⟨11, 0, []⟩ _ HOQ.out HL.out).mono ?_
        rintro e w5 ⟨rfl, hd5⟩
        obtain ⟨vr5, HAS5, hrt5, hc5⟩ := hd5
        have HEV5 := hid (show RowV w5 (w.heap.size + 1) 33 [.bool false, .bool false, .bool false, .int .u32 0, .int .u32 0, .int .u16 0, .int .u16 0, .int .u32 0, .slice none 0 0, .int .u32 0] from HEVd.out.chg hc5 HNM3.out)
        have HS5 := hid HAS5
        have HNM5 := hid (show ¬ Mine g vr5 (w.heap.size + 1) from mine_not HAS5 HEV5.out (by decide) (by decide))
        have HRT := hid (show RowTo w vr vr5 from fun k hk => by
          rcases hrt5 k hk with h | h
          · exact .inl h
          · exact .inr (Nat.le_trans GD.out.size h))
        have HC5 := hid (GD.out.trans hc5)
        clear hrt5 hc5 HAS5
        go_wp2_with fail
        refine (begins_any B _ g vr5 _ HS5.out).mono ?_
        rintro e w6 ⟨rfl, hd6⟩
        have HEV4 := hid (show RowV w6 (w.heap.size + 1) 33 [.bool false, .bool false, .bool false, .int .u32 0, .int .u32 0, .int .u16 0, .int .u16 0, .int .u32 0, .slice none 0 0, .int .u32 0] from by
          obtain ⟨vr6, -, -, hc6⟩ := hd6
          exact HEV5.out.chg hc6 HNM5.out)
        have HD6 := hid (show DidA B w g vr (onEchoD a path x) w6 from Did.trans HRT.out HC5.out hd6)
        clear hd6
        have y0 := HEV4.out.at 0 (by simp)
        have y1 := HEV4.out.at 1 (by simp)
        have y2 := HEV4.out.at 2 (by simp)
        have y3 := HEV4.out.at 3 (by simp)
        have y4 := HEV4.out.at 4 (by simp)
        have y5 := HEV4.out.at 5 (by simp)
        have y6 := HEV4.out.at 6 (by simp)
        have y7 := HEV4.out.at 7 (by simp)
        have y8 := HEV4.out.at 8 (by simp)
        have y9 := HEV4.out.at 9 (by simp)
        simp only [List.getElem_cons_succ, List.getElem_cons_zero] at y0 y1 y2 y3 y4 y5 y6 y7 y8 y9
        have f0 := HEV4.out.frozen 0
        have f1 := HEV4.out.frozen 1
        have f2 := HEV4.out.frozen 2
        have f3 := HEV4.out.frozen 3
        have f4 := HEV4.out.frozen 4
        have f5 := HEV4.out.frozen 5
        have f6 := HEV4.out.frozen 6
        have f7 := HEV4.out.frozen 7
        have f8 := HEV4.out.frozen 8
        have f9 := HEV4.out.frozen 9
        rw [show EvD.val ⟨true, false, false, { (({ a with tag := x.ot, tsn := x.otsn, peer := ⟨x.pt, x.rw, x.in_, x.out, x.ptsn, []⟩, row := a.row ++ [⟨path, x.pt, ⟨11, 0, []⟩⟩] } : AsD).peer) with ck := [] }, x.otsn⟩ = .agg #[.bool true, .bool false, .bool false, .int .u32 (x.pt : Int), .int .u32 (x.rw : Int), .int .u16 (x.in_ : Int), .int .u16 (x.out : Int), .int .u32 (x.ptsn : Int), .slice none 0 0, .int .u32 (x.otsn : Int)] from rfl]
        go_wp2_with fail
        have HEC := hid (show Chg (fun k => k = w.heap.size + 1) w6 _ from (((((((((((Chg.refl (fun k => k = w.heap.size + 1) w6).set ⟨(w.heap.size + 1), 0, none⟩ (.bool true) (.inl rfl)).set ⟨(w.heap.size + 1), 1, none⟩ (.bool false) (.inl rfl)).set ⟨(w.heap.size + 1), 2, none⟩ (.bool false) (.inl rfl)).set ⟨(w.heap.size + 1), 3, none⟩ (.int .u32 (x.pt : Int)) (.inl rfl)).set ⟨(w.heap.size + 1), 4, none⟩ (.int .u32 (x.rw : Int)) (.inl rfl)).set ⟨(w.heap.size + 1), 5, none⟩ (.int .u16 (x.in_ : Int)) (.inl rfl)).set ⟨(w.heap.size + 1), 6, none⟩ (.int .u16 (x.out : Int)) (.inl rfl)).set ⟨(w.heap.size + 1), 7, none⟩ (.int .u32 (x.ptsn : Int)) (.inl rfl)).set ⟨(w.heap.size + 1), 8, none⟩ (.slice none 0 0) (.inl rfl)).set ⟨(w.heap.size + 1), 9, none⟩ (.int .u32 (x.otsn : Int)) (.inl rfl)))
        exact onEcho_ret (.bool true) (.bool false) (.bool false) (.int .u32 (x.pt : Int)) (.int .u32 (x.rw : Int)) (.int .u16 (x.in_ : Int)) (.int .u16 (x.out : Int)) (.int .u32 (x.ptsn : Int)) (.slice none 0 0) (.int .u32 (x.otsn : Int)) rfl rfl ((((((((((HEV4.out.store 0 (.bool true)).store 1 (.bool false)).store 2 (.bool false)).store 3 (.int .u32 (x.pt : Int))).store 4 (.int .u32 (x.rw : Int))).store 5 (.int .u16 (x.in_ : Int))).store 6 (.int .u16 (x.out : Int))).store 7 (.int .u32 (x.ptsn : Int))).store 8 (.slice none 0 0)).store 9 (.int .u32 (x.otsn : Int))) ⟨rfl, HD6.out.ev (Nat.le_succ _) HEV4.out (by decide) (by decide) (by decide) HEC.out⟩
  · have hbb := gr_trans GAL.out hb2
    obtain ⟨W8, hW8⟩ : ∃ W8, W8 = ((((((((w2.setCell ⟨W.heap.size, 0, none⟩ (.int .i64 x.born)).setCell ⟨W.heap.size, 1, none⟩ (.int .u32 (x.ot : Int))).setCell ⟨W.heap.size, 2, none⟩ (.int .u32 (x.pt : Int))).setCell ⟨W.heap.size, 3, none⟩ (.int .u32 (x.otsn : Int))).setCell ⟨W.heap.size, 4, none⟩ (.int .u32 (x.ptsn : Int))).setCell ⟨W.heap.size, 5, none⟩ (.int .u32 (x.rw : Int))).setCell ⟨W.heap.size, 6, none⟩ (.int .u16 (x.out : Int))).setCell ⟨W.heap.size, 7, none⟩ (.int .u16 (x.in_ : Int))) := ⟨_, rfl⟩
    have g8 : Below W.heap.size W W8 := by rw [hW8]; exact ((((((((hbb.setCell (p := ⟨W.heap.size, 0, none⟩) (Nat.le_refl _) (.int .i64 x.born)).setCell (p := ⟨W.heap.size, 1, none⟩) (Nat.le_refl _) (.int .u32 (x.ot : Int))).setCell (p := ⟨W.heap.size, 2, none⟩) (Nat.le_refl _) (.int .u32 (x.pt : Int))).setCell (p := ⟨W.heap.size, 3, none⟩) (Nat.le_refl _) (.int .u32 (x.otsn : Int))).setCell (p := ⟨W.heap.size, 4, none⟩) (Nat.le_refl _) (.int .u32 (x.ptsn : Int))).setCell (p := ⟨W.heap.size, 5, none⟩) (Nat.le_refl _) (.int .u32 (x.rw : Int))).setCell (p := ⟨W.heap.size, 6, none⟩) (Nat.le_refl _) (.int .u16 (x.out : Int))).setCell (p := ⟨W.heap.size, 7, none⟩) (Nat.le_refl _) (.int .u16 (x.in_ : Int)))
    have HK8 := hid (show RowV W8 W.heap.size 109 [.int .i64 x.born, .int .u32 (x.ot : Int), .int .u32 (x.pt : Int), .int .u32 (x.otsn : Int), .int .u32 (x.ptsn : Int), .int .u32 (x.rw : Int), .int .u16 (x.out : Int), .int .u16 (x.in_ : Int)] by rw [hW8]; exact ((((((((hz2.store 0 (.int .i64 x.born)).store 1 (.int .u32 (x.ot : Int))).store 2 (.int .u32 (x.pt : Int))).store 3 (.int .u32 (x.otsn : Int))).store 4 (.int .u32 (x.ptsn : Int))).store 5 (.int .u32 (x.rw : Int))).store 6 (.int .u16 (x.out : Int))).store 7 (.int .u16 (x.in_ : Int))))
    have HAS8 := hid (HAS.out.mono g8)
    have HEV8 := hid (HEV.out.mono g8)
    have G8 := hid (gr_trans G0.out g8)
    rw [← hW8]
    clear hW8 g8 hbb hb2 s0 s2 c14 k2 nn0 nn2 hz2 q0 f0 q1 f1 q2 f2 q3 f3 q4 f4 q5 f5 q6 f6 q7 f7 KA0 KA2 HKa HCa HLa HZa GAL
    generalize W.heap.size = g8 at *
    obtain ⟨W9, hW9⟩ : ∃ y, y = W8.alloc (.cells #[.int .u8 1, .int .u8 2, .int .u8 3] 5 (0, 0)) := ⟨_, rfl⟩
    have g9 : Below W8.heap.size W8 W9 := by rw [hW9]; exact (Below.refl _ _).alloc (Nat.le_refl _) _
    have HRD9 := hid (show Rd W9 (.slice (some ⟨W8.heap.size, 0, none⟩) 3 3) [1, 2, 3] by rw [hW9]; exact rd_new W8 5 [1, 2, 3] 3 _ rfl rfl (by unfold maxLen; omega))
    have HAS9 := hid (HAS8.out.mono g9)
    have HEV9 := hid (HEV8.out.mono g9)
    have HK9 := hid (HK8.out.mono g9)
    have G9 := hid (gr_trans G8.out g9)
    have HE9 := hid hW9
    have HB3 := hid (show ([1, 2, 3] : List UInt8).any (fun x => decide (a.st = x.toNat)) = true by rw [HST.out]; rfl)
    clear hW9 g9
    go_wp2_with fail
    rw [← HE9.out]
    refine (is_any B _ g vr a HAS9.out (by rw [HST.out]; decide) [1, 2, 3] _ HRD9.out).mono ?_
    rintro e w4 ⟨rfl, rfl⟩
    rw [HB3.out]
    obtain ⟨vk', vp', vs', r1, -⟩ := id HAS9.out
    have HAR := hid r1
    clear r1
    have c15 := HAR.out.at 15 (by simp [AsD.cells])
    simp only [AsD.cells, List.getElem_cons_succ, List.getElem_cons_zero] at c15
    have z0 : ((a.st : Int) == 0) = false := by have := HST.out; simp; omega
    have z1 : ((a.st : Int) != 1) = false := by have := HST.out; simp; omega
    have HFW := hid (show ∀ wx, Calls Tryd.prog 68 #[.agg #[.int .i64 x.born, .int .u32 (x.ot : Int), .int .u32 (x.pt : Int), .int .u32 (x.otsn : Int), .int .u32 (x.ptsn : Int), .int .u32 (x.rw : Int), .int .u16 (x.out : Int), .int .u16 (x.in_ : Int)], .int .i64 now, .int .i64 100] wx fun e w' => e = .returned (.bool true) ∧ Below wx.heap.size wx w' from fun wx => by
      rw [← HFR.out]
      exact fresh_walk x HXW.out now 100 (by have := HNOW.out; omega) (by omega) wx)
    go_wp2_with fail
    go_quiet (fail)
    go_wp2_with fail
    clear c15
    have HASq := hid (HAS9.out.mono (gr_drewN W9 nq))
    have HEVq := hid (HEV9.out.mono (gr_drewN W9 nq))
    have HKq := hid (HK9.out.mono (gr_drewN W9 nq))
    have HARq := hid (HAR.out.mono (gr_drewN W9 nq))
    have Gq := hid (gr_trans G9.out (gr_drewN W9 nq))
    generalize W9.drewN nq = Wq at *
    have HC10 := hid (HARq.out.at 10 (by simp [AsD.cells]))
    simp only [AsD.cells, List.getElem_cons_succ, List.getElem_cons_zero] at HC10
    refine wp_region_gr [Is (.agg ([.int .i64 x.born, .int .u32 (x.ot : Int), .int .u32 (x.pt : Int), .int .u32 (x.otsn : Int), .int .u32 (x.ptsn : Int), .int .u32 (x.rw : Int), .int .u16 (x.out : Int), .int .u16 (x.in_ : Int)]).toArray), Is (.int .i64 now), Is (.int .i64 now), Is (.pointer (some ⟨g, 0, none⟩)), Is (.pointer (some ⟨g, 0, none⟩)), Is (.pointer (some ⟨g, 0, none⟩)), Is (.pointer (some ⟨g, 10, none⟩)), Is (.int .i64 100), Is (.bool true), Is (.bool false), Is (.bool false)] (by kernel_rfl) (by kernel_rfl) (by kernel_rfl) ?_ ?_ ?_
    · simp only [StabAll, Is.gr, RdF.gr, OwnF.gr, AnyF.gr, and_self]
    · try (rename_i Kk hKk; clear hKk Kk)
      simp only [AllOps, List.map_cons, List.map_nil, depsOf, List.filterMap_cons, List.filterMap_nil, Region.binds, depFacts, guardF, reduceIte, List.getD_eq_getElem?_getD, List.getElem?_cons_succ, List.getElem?_cons_zero, Option.getD_some, factAt, and_true]
      refine ⟨?_, ?_, ?_, ?_, ?_, ?_, ?_, ?_, ?_, ?_, ?_⟩
      all_goals intro ρ wv hρ hR hd
      all_goals try simp only [Is] at hd
      · exact opOk_loadRow rfl (g8) (by first | exact hρ.2 _ rfl | simp [hd]) _ ([.int .i64 x.born, .int .u32 (x.ot : Int), .int .u32 (x.pt : Int), .int .u32 (x.otsn : Int), .int .u32 (x.ptsn : Int), .int .u32 (x.rw : Int), .int .u16 (x.out : Int), .int .u16 (x.in_ : Int)]) _ (HKq.out.mono hR) Tryd.underlying109 rfl (by kernel_rfl) ⟨rfl, GrR.refl _⟩
      · exact opOk_move (.inl rfl) ⟨by simp only [Is]; (first | exact hρ.2 1 rfl | exact hd | exact hd.1 | exact hd.2 | simp [hd]), GrR.refl _⟩
      · exact opOk_call hρ.1 rfl rfl Tryd.func35 (by kernel_rfl) rfl (by simp [hd, hρ.1.const, hρ.1.func]) ((clock_any now HNOW.out wv).mono fun e w' ⟨h1, h2⟩ => ⟨_, h1, rfl, h2 ▸ GrR.refl _⟩)
      · exact opOk_move (.inl rfl) ⟨by simp only [Is]; (first | exact hρ.2 0 rfl | exact hd | exact hd.1 | exact hd.2 | simp [hd]), GrR.refl _⟩
      · exact opOk_val (v := .pointer (some ⟨g, 0, none⟩)) (w' := wv) (by simp [execOp, go_sem, hρ.1.const, hρ.1.func, hd]) ⟨rfl, GrR.refl _⟩
      · exact opOk_val (v := .pointer (some ⟨g, 0, none⟩)) (w' := wv) (by simp [execOp, go_sem, hρ.1.const, hρ.1.func, hd]) ⟨rfl, GrR.refl _⟩
      · exact opOk_val (v := .pointer (some ⟨g, 10, none⟩)) (w' := wv) (by simp [execOp, go_sem, hρ.1.const, hρ.1.func, hd]) ⟨rfl, GrR.refl _⟩
      · (have h0 := cell?_of_below hR HC10.out; exact opOk_val (v := .int .i64 100) (w' := wv) (by simp [execOp, go_sem, hd, h0]) ⟨rfl, GrR.refl _⟩)
      · exact opOk_call hρ.1 rfl rfl Tryd.func68 (by kernel_rfl) rfl (by simp [hd, hρ.1.const, hρ.1.func]) ((HFW.out wv).mono fun e w' ⟨h1, h2⟩ => ⟨_, h1, rfl, h2⟩)
      · exact opOk_val (v := .bool false) (w' := wv) (by simp [execOp, go_sem, hρ.1.const, hρ.1.func, hd]) ⟨rfl, GrR.refl _⟩
      · exact opOk_move (.inr rfl) ⟨by simp only [Is]; (first | exact hρ.2 92 rfl | exact hd | exact hd.1 | exact hd.2 | simp [hd]), GrR.refl _⟩
    · intro vals wv hR hall
      have i10 := hall 10 (by simp)
      simp only [factAt, Is, List.getD_eq_getElem?_getD, List.getElem?_cons_succ, List.getElem?_cons_zero, Option.getD_some] at i10
      clear hall
      simp only [fillFrom, Act.put, i10, List.setIfInBounds_toArray, List.set_cons_zero, List.set_cons_succ]
      rename_i Kk hKk
      refine hKk _ _ ?_
      clear hKk Kk
      obtain ⟨wa, hwa⟩ : ∃ y, y = wv := ⟨_, rfl⟩
      subst hwa
      have HASa := hid (HASq.out.mono hR)
      have HEVa := hid (HEVq.out.mono hR)
      have HKa := hid (HKq.out.mono hR)
      have Ga := hid (gr_trans Gq.out hR)
      clear hR i10 HC10
      obtain ⟨vk', vp', vs', r1, -⟩ := id HASa.out
      have HAa := hid r1
      clear r1
      have X0 := hid (HKa.out.at 0 (by simp))
      have X1 := hid (HKa.out.at 1 (by simp))
      have X2 := hid (HKa.out.at 2 (by simp))
      have X3 := hid (HKa.out.at 3 (by simp))
      have X4 := hid (HKa.out.at 4 (by simp))
      have X5 := hid (HKa.out.at 5 (by simp))
      have X6 := hid (HKa.out.at 6 (by simp))
      have X7 := hid (HKa.out.at 7 (by simp))
      simp only [List.getElem_cons_succ, List.getElem_cons_zero] at X0 X1 X2 X3 X4 X5 X6 X7
      have c16 := HAa.out.at 16 (by simp [AsD.cells])
      have c17 := HAa.out.at 17 (by simp [AsD.cells])
      simp only [AsD.cells, List.getElem_cons_succ, List.getElem_cons_zero] at c16 c17
      have f16 := HAa.out.frozen 16
      have f17 := HAa.out.frozen 17
      have x1 := X1.out
      have x3 := X3.out
      have HNE8 := hid (show g8 ≠ g from rowV_ne HKa.out HAa.out (by decide))
      obtain ⟨wb, hwb⟩ : ∃ y, y = ((wa.setCell ⟨g, 16, none⟩ (.int .u32 (x.ot : Int))).setCell ⟨g, 17, none⟩ (.int .u32 (x.otsn : Int))) := ⟨_, rfl⟩
      have HCwb := hid (show Chg (fun k => k = g) wa wb by rw [hwb]; exact (((Chg.refl (fun k => k = g) wa).set ⟨g, 16, none⟩ (.int .u32 (x.ot : Int)) (.inl rfl)).set ⟨g, 17, none⟩ (.int .u32 (x.otsn : Int)) (.inl rfl)))
      have HASwb := hid (show As B wb g vr { a with tag := x.ot, tsn := x.otsn } from by
        obtain ⟨vk, vp, vs, r1, r2, r3, r4, r5, r6⟩ := HASa.out
        exact ⟨vk, vp, vs, by rw [hwb]; exact ((r1.store 16 (.int .u32 (x.ot : Int))).store 17 (.int .u32 (x.otsn : Int))), r2, r3.chg HCwb.out (own_ne_row r3 r1 (by decide)), r4.chg HCwb.out (own_ne_row r4 r1 (by decide)), outs_g r5 r1 (by decide) (by decide) HCwb.out, r6.chg HCwb.out (own_ne_row r6 r1 (by decide))⟩)
      have HKb := hid (HKa.out.chg HCwb.out HNE8.out)
      have HEVb := hid (HEVa.out.chg HCwb.out (rowV_ne HEVa.out HAa.out (by decide)))
      have HEb := hid hwb
      obtain ⟨_, _, _, r1, -⟩ := id HASwb.out
      have HAb := hid r1
      clear r1 X0 X1 X2 X3 X4 X5 X6 X7
      go_wp2_with fail
      go_region
      rw [← HEb.out]
      have HGD := hid (show Below wb.heap.size wb wb.drew from (Below.refl _ _).drew)
      have HASz := hid (HASwb.out.mono HGD.out)
      have HKz := hid (HKb.out.mono HGD.out)
      have HEVz := hid (HEVb.out.mono HGD.out)
      have HAz := hid (HAb.out.mono HGD.out)
      clear hwb c16 c17 f16 f17 x1 x3
      generalize wb.drew = wz at *
      have x2 := HKz.out.at 2 (by simp)
      have x4 := HKz.out.at 4 (by simp)
      have x5 := HKz.out.at 5 (by simp)
      have x6 := HKz.out.at 6 (by simp)
      have x7 := HKz.out.at 7 (by simp)
      simp only [List.getElem_cons_succ, List.getElem_cons_zero] at x2 x4 x5 x6 x7
      have c18 := HAz.out.at 18 (by simp [AsD.cells])
      have c19 := HAz.out.at 19 (by simp [AsD.cells])
      have c20 := HAz.out.at 20 (by simp [AsD.cells])
      have c21 := HAz.out.at 21 (by simp [AsD.cells])
      have c22 := HAz.out.at 22 (by simp [AsD.cells])
      have c23 := HAz.out.at 23 (by simp [AsD.cells])
      simp only [AsD.cells, List.getElem_cons_succ, List.getElem_cons_zero] at c18 c19 c20 c21 c22 c23
      have f18 := HAz.out.frozen 18
      have f19 := HAz.out.frozen 19
      have f20 := HAz.out.frozen 20
      have f21 := HAz.out.frozen 21
      have f22 := HAz.out.frozen 22
      have f23 := HAz.out.frozen 23
      obtain ⟨wc, hwc⟩ : ∃ y, y = ((((((wz.setCell ⟨g, 18, none⟩ (.int .u32 (x.pt : Int))).setCell ⟨g, 19, none⟩ (.int .u32 (x.rw : Int))).setCell ⟨g, 20, none⟩ (.int .u16 (x.in_ : Int))).setCell ⟨g, 21, none⟩ (.int .u16 (x.out : Int))).setCell ⟨g, 22, none⟩ (.int .u32 (x.ptsn : Int))).setCell ⟨g, 23, none⟩ (.slice none 0 0)) := ⟨_, rfl⟩
      have HCwc := hid (show Chg (fun k => k = g) wz wc by rw [hwc]; exact (((((((Chg.refl (fun k => k = g) wz).set ⟨g, 18, none⟩ (.int .u32 (x.pt : Int)) (.inl rfl)).set ⟨g, 19, none⟩ (.int .u32 (x.rw : Int)) (.inl rfl)).set ⟨g, 20, none⟩ (.int .u16 (x.in_ : Int)) (.inl rfl)).set ⟨g, 21, none⟩ (.int .u16 (x.out : Int)) (.inl rfl)).set ⟨g, 22, none⟩ (.int .u32 (x.ptsn : Int)) (.inl rfl)).set ⟨g, 23, none⟩ (.slice none 0 0) (.inl rfl)))
      have HASwc := hid (show As B wc g vr { a with tag := x.ot, tsn := x.otsn, peer := ⟨x.pt, x.rw, x.in_, x.out, x.ptsn, []⟩ } from by
        obtain ⟨vk, vp, vs, r1, r2, r3, r4, r5, r6⟩ := HASz.out
        exact ⟨vk, .slice none 0 0, vs, by rw [hwc]; exact ((((((r1.store 18 (.int .u32 (x.pt : Int))).store 19 (.int .u32 (x.rw : Int))).store 20 (.int .u16 (x.in_ : Int))).store 21 (.int .u16 (x.out : Int))).store 22 (.int .u32 (x.ptsn : Int))).store 23 (.slice none 0 0)), r2, r3.chg HCwc.out (own_ne_row r3 r1 (by decide)), Own.nil _ _ _, outs_g r5 r1 (by decide) (by decide) HCwc.out, r6.chg HCwc.out (own_ne_row r6 r1 (by decide))⟩)
      have HKc := hid (HKz.out.chg HCwc.out HNE8.out)
      have HEVc := hid (HEVz.out.chg HCwc.out (rowV_ne HEVz.out HAz.out (by decide)))
      have HEc := hid hwc
      have HNM3 := hid (show ¬ Mine g vr (w.heap.size + 1) from mine_not HASwc.out HEVc.out (by decide) (by decide))
      have GC := hid (show Chg (Mine g vr) w wc from (((Chg.of_gr Ga.out).then HCwb.out (fun i _ e => .inl e)).trans (Chg.of_gr HGD.out)).then HCwc.out (fun i _ e => .inl e))
      have HX2 := hid (show wc.cell? ⟨g8, 2, none⟩ = some (.int .u32 (x.pt : Int)) from by
        have := HKc.out.at 2 (by simp)
        simpa using this)
      go_wp2_with fail
      rw [← HEc.out]
      clear hwc x2 x4 x5 x6 x7 c18 f18 c19 f19 c20 f20 c21 f21 c22 f22 c23 f23
      refine wp_region_tail 5 [Is (.pointer (some ⟨g, 0, none⟩)), Is (.int .i64 (path : Int)), Is (.pointer (some ⟨g8, 2, none⟩)), Is (.int .u32 (x.pt : Int)), CkO B 5 ⟨11, 0, []⟩] (by kernel_rfl) (by kernel_rfl) (by kernel_rfl) (by kernel_rfl) (by kernel_rfl) (by kernel_rfl) ?_ ?_ ?_
      · simp only [StabAll, Is.gr, RdF.gr, OwnF.gr, AnyF.gr, CkO.gr, and_self]
      · try (rename_i Kk hKk; clear hKk Kk)
        simp only [List.take_succ_cons, List.take_zero, AllOps, List.map_cons, List.map_nil, depsOf, List.filterMap_cons, List.filterMap_nil, Region.binds, depFacts, guardF, reduceIte, List.getD_eq_getElem?_getD, List.getElem?_cons_succ, List.getElem?_cons_zero, Option.getD_some, factAt, and_true]
        refine ⟨?_, ?_, ?_, ?_, ?_⟩
        all_goals intro ρ wv hρ hR hd
        all_goals try simp only [Is] at hd
        · exact opOk_move (.inl rfl) ⟨by simp only [Is]; (first | exact hρ.2 0 rfl | exact hd | exact hd.1 | exact hd.2 | simp [hd]), GrR.refl _⟩
        · exact opOk_move (.inl rfl) ⟨by simp only [Is]; (first | exact hρ.2 2 rfl | exact hd | exact hd.1 | exact hd.2 | simp [hd]), GrR.refl _⟩
        · exact opOk_val (v := .pointer (some ⟨g8, 2, none⟩)) (w' := wv) (by simp [execOp, go_sem, hρ.1.const, hρ.1.func, hd, (hρ.2 9 rfl)]) ⟨rfl, GrR.refl _⟩
        · (have h0 := cell?_of_below hR HX2.out; exact opOk_val (v := .int .u32 (x.pt : Int)) (w' := wv) (by simp [execOp, go_sem, hd, h0]) ⟨rfl, GrR.refl _⟩)
        · exact opOk_call hρ.1 rfl rfl Tryd.func39 (by kernel_rfl) rfl (by simp [hd, hρ.1.const, hρ.1.func]) ((plain_any 11 wv).mono fun e w' ⟨h1, h2⟩ => ⟨_, h1, ckO_mk (c := ⟨11, 0, []⟩) (Own.nil _ _ _), h2⟩)
      · intro vals wv hR hall
        have i0 := hall 0 (by omega)
        have i1 := hall 1 (by omega)
        have i3 := hall 3 (by omega)
        have i4 := hall 4 (by omega)
        simp only [factAt, Is, CkO, List.getD_eq_getElem?_getD, List.getElem?_cons_succ, List.getElem?_cons_zero, Option.getD_some] at i0 i1 i3 i4
        clear hall
        obtain ⟨pq, nq, kq, hq, hoq⟩ := i4
        simp only [List.take_succ_cons, List.take_zero, List.drop_succ_cons, List.drop_zero, fillFrom, Act.put, i0, i1, i3, hq, List.setIfInBounds_toArray, List.set_cons_zero, List.set_cons_succ, Nat.zero_add, Nat.reduceAdd]
        obtain ⟨wd, hwd⟩ : ∃ x, x = wv := ⟨_, rfl⟩
        subst hwd
        have HOQ := hid hoq
        have HASd := hid (HASwc.out.mono hR)
        have HEVd := hid (HEVc.out.mono hR)
        have GD := hid (show Chg (Mine g vr) w wd from GC.out.trans (Chg.of_gr hR))
        clear hR i0 i1 i3 hq hoq HX2
        go_wp2_with fail
        refine (say_any B _ g vr _ HASd.out path x.pt ⟨11, 0, []⟩ _ HOQ.out HL.out).mono ?_
        rintro e w5 ⟨rfl, hd5⟩
        obtain ⟨vr5, HAS5, hrt5, hc5⟩ := hd5
        have HEV5 := hid (show RowV w5 (w.heap.size + 1) 33 [.bool false, .bool false, .bool false, .int .u32 0, .int .u32 0, .int .u16 0, .int .u16 0, .int .u32 0, .slice none 0 0, .int .u32 0] from HEVd.out.chg hc5 HNM3.out)
        have HS5 := hid HAS5
        have HNM5 := hid (show ¬ Mine g vr5 (w.heap.size + 1) from mine_not HAS5 HEV5.out (by decide) (by decide))
        have HRT := hid (show RowTo w vr vr5 from fun k hk => by
          rcases hrt5 k hk with h | h
          · exact .inl h
          · exact .inr (Nat.le_trans GD.out.size h))
        have HC5 := hid (GD.out.trans hc5)
        clear hrt5 hc5 HAS5
        go_wp2_with fail
        refine (begins_any B _ g vr5 _ HS5.out).mono ?_
        rintro e w6 ⟨rfl, hd6⟩
        have HEV4 := hid (show RowV w6 (w.heap.size + 1) 33 [.bool false, .bool false, .bool false, .int .u32 0, .int .u32 0, .int .u16 0, .int .u16 0, .int .u32 0, .slice none 0 0, .int .u32 0] from by
          obtain ⟨vr6, -, -, hc6⟩ := hd6
          exact HEV5.out.chg hc6 HNM5.out)
        have HD6 := hid (show DidA B w g vr (onEchoD a path x) w6 from Did.trans HRT.out HC5.out hd6)
        clear hd6
        have y0 := HEV4.out.at 0 (by simp)
        have y1 := HEV4.out.at 1 (by simp)
        have y2 := HEV4.out.at 2 (by simp)
        have y3 := HEV4.out.at 3 (by simp)
        have y4 := HEV4.out.at 4 (by simp)
        have y5 := HEV4.out.at 5 (by simp)
        have y6 := HEV4.out.at 6 (by simp)
        have y7 := HEV4.out.at 7 (by simp)
        have y8 := HEV4.out.at 8 (by simp)
        have y9 := HEV4.out.at 9 (by simp)
        simp only [List.getElem_cons_succ, List.getElem_cons_zero] at y0 y1 y2 y3 y4 y5 y6 y7 y8 y9
        have f0 := HEV4.out.frozen 0
        have f1 := HEV4.out.frozen 1
        have f2 := HEV4.out.frozen 2
        have f3 := HEV4.out.frozen 3
        have f4 := HEV4.out.frozen 4
        have f5 := HEV4.out.frozen 5
        have f6 := HEV4.out.frozen 6
        have f7 := HEV4.out.frozen 7
        have f8 := HEV4.out.frozen 8
        have f9 := HEV4.out.frozen 9
        rw [show EvD.val ⟨true, false, false, { (({ a with tag := x.ot, tsn := x.otsn, peer := ⟨x.pt, x.rw, x.in_, x.out, x.ptsn, []⟩, row := a.row ++ [⟨path, x.pt, ⟨11, 0, []⟩⟩] } : AsD).peer) with ck := [] }, x.otsn⟩ = .agg #[.bool true, .bool false, .bool false, .int .u32 (x.pt : Int), .int .u32 (x.rw : Int), .int .u16 (x.in_ : Int), .int .u16 (x.out : Int), .int .u32 (x.ptsn : Int), .slice none 0 0, .int .u32 (x.otsn : Int)] from rfl]
        go_wp2_with fail
        have HEC := hid (show Chg (fun k => k = w.heap.size + 1) w6 _ from (((((((((((Chg.refl (fun k => k = w.heap.size + 1) w6).set ⟨(w.heap.size + 1), 0, none⟩ (.bool true) (.inl rfl)).set ⟨(w.heap.size + 1), 1, none⟩ (.bool false) (.inl rfl)).set ⟨(w.heap.size + 1), 2, none⟩ (.bool false) (.inl rfl)).set ⟨(w.heap.size + 1), 3, none⟩ (.int .u32 (x.pt : Int)) (.inl rfl)).set ⟨(w.heap.size + 1), 4, none⟩ (.int .u32 (x.rw : Int)) (.inl rfl)).set ⟨(w.heap.size + 1), 5, none⟩ (.int .u16 (x.in_ : Int)) (.inl rfl)).set ⟨(w.heap.size + 1), 6, none⟩ (.int .u16 (x.out : Int)) (.inl rfl)).set ⟨(w.heap.size + 1), 7, none⟩ (.int .u32 (x.ptsn : Int)) (.inl rfl)).set ⟨(w.heap.size + 1), 8, none⟩ (.slice none 0 0) (.inl rfl)).set ⟨(w.heap.size + 1), 9, none⟩ (.int .u32 (x.otsn : Int)) (.inl rfl)))
        exact onEcho_ret (.bool true) (.bool false) (.bool false) (.int .u32 (x.pt : Int)) (.int .u32 (x.rw : Int)) (.int .u16 (x.in_ : Int)) (.int .u16 (x.out : Int)) (.int .u32 (x.ptsn : Int)) (.slice none 0 0) (.int .u32 (x.otsn : Int)) rfl rfl ((((((((((HEV4.out.store 0 (.bool true)).store 1 (.bool false)).store 2 (.bool false)).store 3 (.int .u32 (x.pt : Int))).store 4 (.int .u32 (x.rw : Int))).store 5 (.int .u16 (x.in_ : Int))).store 6 (.int .u16 (x.out : Int))).store 7 (.int .u32 (x.ptsn : Int))).store 8 (.slice none 0 0)).store 9 (.int .u32 (x.otsn : Int))) ⟨rfl, HD6.out.ev (Nat.le_succ _) HEV4.out (by decide) (by decide) (by decide) HEC.out⟩
end Go.Proofs.YtiimlanbbfhkjaaDoor

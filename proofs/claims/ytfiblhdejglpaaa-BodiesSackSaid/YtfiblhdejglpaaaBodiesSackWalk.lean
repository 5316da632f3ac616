/- BodiesSack: the walk of the law. Conditions: none but what the row reads. -/
import Derived.Test.YtfiblhdejglpaaaBodRefGetS
import Derived.Test.YtfiblhdejglpaaaBodRoom
import Derived.Test.YtfiblhdejglpaaaBodWorks
import Derived.Test.YtfiblhdejglpaaaBodSame
import Derived.Test.YtfiblhdejglpaaaBodOpen
import Derived.Test.YtfiblhdejglpaaaBodRdK
import Derived.Test.YtfiblhdejglpaaaBodBackMath
import Derived.Test.YtfiblhdejglpaaaBaseE
import Derived.Test.YtfiblhdejglpaaaBaseC
namespace Go.FL
theorem sackGet_len (c : Chk) : (sackGet c).1.gaps.length ≤ c.b.length ∧ (sackGet c).1.dups.length ≤ c.b.length := by
  unfold sackGet
  split
  · rename_i h
    have hl := (sackOf c).body_length
    rw [show (sackOf c).body = c.b from congrArg Chk.b h.2] at hl
    show (sackOf c).gaps.length ≤ _ ∧ (sackOf c).dups.length ≤ _
    omega
  · exact ⟨Nat.zero_le _, Nat.zero_le _⟩
theorem nums_one (l : List Nat) : ∀ u ∈ (l.map fun x : Nat => Value.int .u32 (x : Int)), u.oneCell' = true := by
  intro u hu
  simp only [List.mem_map] at hu
  obtain ⟨x, _, rfl⟩ := hu
  rfl
end Go.FL
namespace Go.Proofs.Ytfiblhdejglpaaa
open Go.RowKit Go.FL Go.ChangeShapes

set_option maxRecDepth 100000 in
set_option maxHeartbeats 8000000 in
theorem bodiesSack_walk {w : World} {v u : Value} (x : SackD) (hx : SackL w (match v with | .agg cs => cs.toList | _ => []) x) (ch : Chk) (h : ChkAt w u ch) :
    Calls Try.prog 4 #[v, u] w fun e w' => e = .returned (.bool true) ∧ Below w.heap.size w w' := by
  have HCH := hid (show ChkV w u ch from h)
  obtain ⟨⟨s2, s3, hv2, hrd2, hrd3⟩, hwd⟩ := hx
  obtain ⟨s, rfl, hrd⟩ := h
  have HV := hid hrd
  have HV2 := hid hrd2
  have HV3 := hid hrd3
  have HWD := hid hwd
  obtain ⟨p, c, rfl, hlc, hcm, hpn, hcell⟩ := hrd
  obtain ⟨pd, cd, rfl, hld, hdm, hdn, hdcell⟩ := hrd2
  obtain ⟨pu, cu, rfl, hlu, hum, -⟩ := hrd3.nums
  unfold maxLen at hcm hdm hum
  clear hcell hdcell hwd hrd3
  obtain ⟨kc, fc, bc⟩ := ch
  obtain ⟨wc, wr_, ws, wu⟩ := x
  simp only at *
  obtain ⟨cs, rfl⟩ : ∃ cs, v = .agg cs := by
    cases v <;> simp at hv2
    exact ⟨_, rfl⟩
  simp only [Value.agg.injEq, Array.toArray_toList] at hv2
  subst hv2
  obtain ⟨nd, hnd⟩ : ∃ n, n = ws.length := ⟨_, rfl⟩
  have HND := hid hnd
  rw [← hnd] at HV2 hld ⊢
  obtain ⟨nu, hnu⟩ : ∃ n, n = wu.length := ⟨_, rfl⟩
  have HNU := hid hnu
  rw [← hnu] at HV3 hlu ⊢
  have HDA := hid (show SackAt w (.agg #[.int .u32 (wc : Int), .int .u32 (wr_ : Int), .slice pd nd cd, .slice pu nu cu]) ⟨wc, wr_, ws, wu⟩ from ⟨_, _, rfl, HV2.out, HV3.out⟩)
  obtain ⟨xd, xe, hxd⟩ : ∃ a b, sackGet ⟨kc, fc, bc⟩ = (a, b) := ⟨_, _, rfl⟩
  obtain ⟨xc, xr, xs, xu⟩ := xd
  have HX := hid hxd
  have hxl : xs.length ≤ bc.length ∧ xu.length ≤ bc.length := by
    have := sackGet_len ⟨kc, fc, bc⟩
    rw [hxd] at this
    exact this
  obtain ⟨W0, hW0⟩ : ∃ W, W = w.alloc (.cells #[.int .u32 (wc : Int), .int .u32 (wr_ : Int), .slice pd nd cd, .slice pu nu cu] 45 (0, 0)) := ⟨_, rfl⟩
  have hs0 : W0.heap.size = w.heap.size + 1 := by rw [hW0]; simp
  obtain ⟨W, hW⟩ : ∃ W, W = W0.alloc (.cells #[.int .u8 (kc.toNat : Int), .int .u8 (fc.toNat : Int), .slice p bc.length c] 28 (0, 0)) := ⟨_, rfl⟩
  have HD0 := hid (show RowV W w.heap.size 45 [.int .u32 (wc : Int), .int .u32 (wr_ : Int), .slice pd nd cd, .slice pu nu cu] by rw [hW, hW0]; exact (RowV.new w _ _).alloc _)
  have HC0 := hid (show RowV W (w.heap.size + 1) 28 [.int .u8 (kc.toNat : Int), .int .u8 (fc.toNat : Int), .slice p bc.length c] by rw [hW, ← hs0]; exact RowV.new W0 _ _)
  have G0 := hid (show Below w.heap.size w W by rw [hW, hW0]; exact ((Below.refl _ _).alloc (Nat.le_refl _) _).alloc (by simp) _)
  have S0 := hid (show W.heap.size = w.heap.size + 2 by rw [hW]; simp [hs0])
  obtain ⟨k0, k1, k2⟩ := HC0.out.three
  rw [hW0] at hW
  rw [hW] at k0 k1 k2
  have HE := hid hW
  have HXL0 := hid hxl
  clear hW hW0 hs0 hxd hnd hnu hdn hpn hxl
  go_enter Try.func4, Try.ntmps4
  go_wp2_with fail
  rw [← HE.out]
  refine (large_any _ ⟨kc, fc, bc⟩ _ (HCH.out.mono G0.out)).mono ?_
  rintro e w1 ⟨rfl, hb1⟩
  simp only
  have HC1 := hid (HC0.out.mono hb1)
  have HD1 := hid (HD0.out.mono hb1)
  have G1 := hid (gr_trans G0.out hb1)
  have S1 := hid (show w.heap.size + 2 ≤ w1.heap.size by have := S0.out; have := hb1.size; omega)
  clear hb1 k0 k1 k2
  by_cases hl : 8192 < bc.length
  · rw [decide_eq_true hl]
    go_wp2_with fail
    refine (works_any _).mono ?_
    rintro e w2 ⟨rfl, hb2⟩
    go_wp2_with fail
    go_ret
    exact ⟨rfl, gr_trans G1.out hb2⟩
  · rw [decide_eq_false hl]
    have HL := hid (show bc.length ≤ 1000000 by omega)
    have HXL := hid (show xs.length ≤ 1000000 ∧ xu.length ≤ 1000000 by have := HXL0.out; omega)
    clear hl
    obtain ⟨i0, i1, i2, i3, -⟩ := rowSack HD1.out
    go_wp2_with fail
    clear i0 i1 i2 i3
    refine (many_any _ (.agg #[.int .u32 0, .slice none 0 0]) ⟨wc, wr_, ws, wu⟩ FwdD.zero _ (HDA.out.mono G1.out) ⟨_, rfl, RdP.nil _⟩).mono ?_
    rw [show (decide (2048 < (SackD.mk wc wr_ ws wu).gaps.length ∨ 2048 < (SackD.mk wc wr_ ws wu).dups.length ∨ 2048 < FwdD.zero.skips.length)) = decide (2048 < nd ∨ 2048 < nu) by rw [HND.out, HNU.out]; simp [FwdD.zero]]
    rintro e w2 ⟨rfl, hbm⟩
    have HC2 := hid (HC1.out.mono hbm)
    have HD2 := hid (HD1.out.mono hbm)
    have G2 := hid (gr_trans G1.out hbm)
    have S2 := hid (Nat.le_trans S1.out hbm.size)
    clear hbm
    by_cases h2 : 2048 < nd ∨ 2048 < nu
    · rw [decide_eq_true h2]
      go_wp2_with fail
      refine (works_any _).mono ?_
      rintro e w2b ⟨rfl, hb2⟩
      go_wp2_with fail
      go_ret
      exact ⟨rfl, gr_trans G2.out hb2⟩
    · rw [decide_eq_false h2]
      have HNL := hid (show ws.length ≤ 1000000 by rw [← HND.out]; omega)
      have HUL := hid (show wu.length ≤ 1000000 by rw [← HNU.out]; omega)
      have hnl : nd ≤ 2048 := by omega
      have hul : nu ≤ 2048 := by omega
      have hlb := HL.out
      clear h2
      obtain ⟨i0, i1, i2, i3, -⟩ := rowSack HD2.out
      obtain ⟨W3, hW3⟩ : ∃ W, W = w2.alloc (.cells #[.int .u32 (wc : Int), .int .u32 (wr_ : Int), .slice none 0 0, .slice none 0 0] 45 (0, 0)) := ⟨_, rfl⟩
      have g3 : Below w2.heap.size w2 W3 := by rw [hW3]; exact (Below.refl _ _).alloc (Nat.le_refl _) _
      have HI3 := hid (show RowV W3 w2.heap.size 45 [.int .u32 (wc : Int), .int .u32 (wr_ : Int), .slice none 0 0, .slice none 0 0] by rw [hW3]; exact RowV.new w2 _ _)
      have HD3 := hid (HD2.out.mono g3)
      have HC3 := hid (HC2.out.mono g3)
      have G3 := hid (gr_trans G2.out g3)
      have S3 := hid (show W3.heap.size = w2.heap.size + 1 by rw [hW3]; simp)
      have HE3 := hid hW3
      obtain ⟨t0, t1, t2, t3, -⟩ := rowSack HD3.out
      rw [hW3] at t0 t1 t2 t3
      clear hW3 g3
      go_wp2_with (at_builtin; refine wpList_append_OwnK rfl (.tmp 26) (.tmp 28) 42 rfl (w2.heap.size + 1) 80 (.agg #[.int .u16 0, .int .u16 0]) 2 4 rfl (by omega) Try.underlying42 infoGap _ _ 0 nd [] (pairsV ws) (pairsV_one ws) rfl (OwnK.nil _ _ _ _) rfl (by rw [← HE3.out]; have := RdP.rdK (HV2.out.mono G3.out); rwa [← HND.out] at this) (by omega) (by omega) (by simp) ?_)
      intro v4 w4 ho4 hg4
      rw [← HE3.out] at hg4
      have hb4 : Below W3.heap.size W3 w4 := gr_of_grown hg4 rfl
      have HIO4 := hid (show OwnP w4 (w2.heap.size + 1) 80 v4 ws by unfold OwnP; rw [← HND.out]; exact ho4)
      obtain ⟨p4, c4, rfl, hc4⟩ := HIO4.out.form
      obtain ⟨n4, hn4⟩ : ∃ n, n = ws.length := ⟨_, rfl⟩
      rw [← hn4] at HIO4 ⊢
      have HD4 := hid (HD3.out.mono hb4)
      have HC4 := hid (HC3.out.mono hb4)
      have HI4 := hid (HI3.out.mono hb4)
      have G4 := hid (gr_trans G3.out hb4)
      have S4 := hid (show w2.heap.size + 1 ≤ w4.heap.size by have := S3.out; have := hb4.size; omega)
      clear ho4 hb4 hg4 i0 i1 i2 i3 t0 t1 t2 t3 hn4
      obtain ⟨i0, i1, i2, i3, -⟩ := rowSack HI4.out
      have y2 := HI4.out.frozen 2
      obtain ⟨Wm, hWm⟩ : ∃ W, W = w4.setCell ⟨w2.heap.size, 2, none⟩ (.slice p4 n4 c4) := ⟨_, rfl⟩
      have HIm := hid (show RowV Wm w2.heap.size 45 [.int .u32 (wc : Int), .int .u32 (wr_ : Int), .slice p4 n4 c4, .slice none 0 0] by rw [hWm]; exact HI4.out.store 2 _)
      have gm : w4.grownBy Wm (some w2.heap.size) := by rw [hWm]; exact gb_set (gb_refl _ _) 2 _
      have HIOm := hid (HIO4.out.keep gm (fun k hk e => by have := HIO4.out.ge k hk; simp at e; omega))
      have HDm := hid (HD4.out.grown gm (fun e => by have := S2.out; simp at e; omega))
      have HCm := hid (HC4.out.grown gm (fun e => by have := S2.out; simp at e; omega))
      have Gm := hid (show Below w.heap.size w Wm by rw [hWm]; exact G4.out.setCell (by have := S2.out; show w.heap.size ≤ w2.heap.size; omega) _)
      have HEm := hid hWm
      obtain ⟨j0, j1, j2, j3, -⟩ := rowSack HIm.out
      obtain ⟨t0, t1, t2, t3, -⟩ := rowSack HDm.out
      rw [hWm] at j0 j1 j2 j3 t0 t1 t2 t3
      clear hWm gm
      go_wp2_with (at_builtin; refine wpList_append_OwnK rfl (.tmp 32) (.tmp 34) 43 rfl w4.heap.size 22 (.int .u32 0) 1 4 rfl (by omega) Try.underlying43 infoU32g _ _ 0 nu [] (wu.map fun x : Nat => Value.int .u32 (x : Int)) (nums_one wu) rfl (OwnK.nil _ _ _ _) rfl (by rw [← HEm.out]; have := RdV.rdK (HV3.out.mono Gm.out); rwa [List.length_map, ← HNU.out] at this) (by omega) (by omega) (by simp [World.setCell]) ?_)
      intro v6 w6' ho6 hg6
      rw [← HEm.out] at hg6
      have hb6 : Below Wm.heap.size Wm w6' := gr_of_grown hg6 rfl
      have HUO6' := hid (show OwnK w6' w4.heap.size 22 1 v6 nu (wu.map fun x : Nat => Value.int .u32 (x : Int)) from ho6)
      obtain ⟨-, p6, c6, rfl, -, -, -, -⟩ := OwnK.rd ho6
      have HI6' := hid (HIm.out.mono hb6)
      have HD6' := hid (HDm.out.mono hb6)
      have HC6' := hid (HCm.out.mono hb6)
      have HIO6' := hid (HIOm.out.mono hb6)
      have G6' := hid (gr_trans Gm.out hb6)
      clear ho6 hb6 hg6 i0 i1 i2 i3 y2 j0 j1 j2 j3 t0 t1 t2 t3
      obtain ⟨i0, i1, i2, i3, -⟩ := rowSack HI6'.out
      have y3 := HI6'.out.frozen 3
      obtain ⟨W5, hW5⟩ : ∃ W, W = w6'.setCell ⟨w2.heap.size, 3, none⟩ (.slice p6 nu c6) := ⟨_, rfl⟩
      have HI5 := hid (show RowV W5 w2.heap.size 45 [.int .u32 (wc : Int), .int .u32 (wr_ : Int), .slice p4 n4 c4, .slice p6 nu c6] by rw [hW5]; exact HI6'.out.store 3 _)
      have g5 : w6'.grownBy W5 (some w2.heap.size) := by rw [hW5]; exact gb_set (gb_refl _ _) 3 _
      have HIO5 := hid (HIO6'.out.keep g5 (fun k hk e => by have := HIO6'.out.ge k hk; simp at e; omega))
      have HUO5 := hid (OwnK.grown HUO6'.out g5 (fun k hk e => by have := OwnK.ge HUO6'.out k hk; have := S4.out; simp at e; omega))
      have HD5 := hid (HD6'.out.grown g5 (fun e => by have := S2.out; simp at e; omega))
      have HC5 := hid (HC6'.out.grown g5 (fun e => by have := S2.out; simp at e; omega))
      have G5 := hid (show Below w.heap.size w W5 by rw [hW5]; exact G6'.out.setCell (by have := S2.out; show w.heap.size ≤ w2.heap.size; omega) _)
      have HE5 := hid hW5
      obtain ⟨j0, j1, j2, j3, -⟩ := rowSack HI5.out
      rw [hW5] at j0 j1 j2 j3
      obtain ⟨t5, ht5⟩ : ∃ t, t = w2.heap.size := ⟨_, rfl⟩
      clear hW5 g5
      go_wp2_with fail
      rw [← HE5.out]
      rw [← ht5] at HI5 ⊢
      clear i0 i1 i2 i3 y3 j0 j1 j2 j3 ht5
      refine (putSack_any _ ⟨wc, wr_, ws, wu⟩ HWD.out _ ⟨_, _, rfl, OwnP.rd HIO5.out, RdK.rdV (OwnK.rd HUO5.out)⟩ HNL.out HUL.out).mono ?_
      rintro e w6 ⟨s6, rfl, ho6, hb6⟩
      rw [show ((SackD.chk ⟨wc, wr_, ws, wu⟩).k.toNat : Int) = 3 from rfl, show ((SackD.chk ⟨wc, wr_, ws, wu⟩).f.toNat : Int) = 0 from rfl]
      obtain ⟨pp, cp, rfl, -, -, -, -⟩ := ho6.rd
      obtain ⟨np, hnp⟩ : ∃ n, n = (SackD.chk ⟨wc, wr_, ws, wu⟩).b.length := ⟨_, rfl⟩
      rw [← hnp] at ho6 ⊢
      have HKO6 := hid ho6
      clear hnp
      have HD6 := hid (HD5.out.mono hb6)
      have HC6 := hid (HC5.out.mono hb6)
      have HI6 := hid (HI5.out.mono hb6)
      have HIO6 := hid (HIO5.out.mono hb6)
      have HUO6 := hid (HUO5.out.mono hb6)
      have G6 := hid (gr_trans G5.out hb6)
      obtain ⟨W7, hW7⟩ : ∃ W, W = w6.alloc (.cells #[.int .u8 3, .int .u8 0, .slice pp np cp] 28 (0, 0)) := ⟨_, rfl⟩
      have g7 : Below w6.heap.size w6 W7 := by rw [hW7]; exact (Below.refl _ _).alloc (Nat.le_refl _) _
      have HK7 := hid (show RowV W7 w6.heap.size 28 [.int .u8 3, .int .u8 0, .slice pp np cp] by rw [hW7]; exact RowV.new w6 _ _)
      have HKO7 := hid (HKO6.out.mono g7)
      have HD7 := hid (HD6.out.mono g7)
      have HC7 := hid (HC6.out.mono g7)
      have HI7 := hid (HI6.out.mono g7)
      have HIO7 := hid (HIO6.out.mono g7)
      have HUO7 := hid (HUO6.out.mono g7)
      have G7 := hid (gr_trans G6.out g7)
      have HE7 := hid hW7
      clear hW7 g7 ho6 hb6
      have KC0 := hid (HC7.out.at 0 (by simp))
      have KC1 := hid (HC7.out.at 1 (by simp))
      have KC2 := hid (HC7.out.at 2 (by simp))
      simp only [List.getElem_cons_succ, List.getElem_cons_zero] at KC0 KC1 KC2
      go_wp2_with fail
      rw [← HE7.out]
      refine wp_region_tail 9 [Is (.pointer (some ⟨w.heap.size + 1, 0, none⟩)), Is (.int .u8 (kc.toNat : Int)), Is (.pointer (some ⟨w.heap.size + 1, 1, none⟩)), Is (.int .u8 (fc.toNat : Int)), Is (.pointer (some ⟨w.heap.size + 1, 2, none⟩)), Is (.slice p bc.length c), RoomF W7.heap.size bc, QF W7.heap.size kc fc bc, NewF W7.heap.size 28 [.int .u8 0, .int .u8 0, .slice none 0 0]] (by kernel_rfl) (by kernel_rfl) (by kernel_rfl) (by kernel_rfl) (by kernel_rfl) (by kernel_rfl) ?_ ?_ ?_
      · simp only [StabAll, Is.gr, RdF.gr, OwnF.gr, AnyF.gr, NewF.gr, RoomF.gr, QF.gr, and_self]
      · rename_i Kk hKk; clear hKk Kk
        simp only [List.take_succ_cons, List.take_zero, AllOps, List.map_cons, List.map_nil, depsOf, List.filterMap_cons, List.filterMap_nil, Region.binds, depFacts, guardF, reduceIte, List.getD_eq_getElem?_getD, List.getElem?_cons_succ, List.getElem?_cons_zero, Option.getD_some, factAt, and_true]
        refine ⟨?_, ?_, ?_, ?_, ?_, ?_, ?_, ?_, ?_⟩
        all_goals intro ρ wv hρ hR hd
        all_goals try simp only [Is] at hd
        · exact opOk_val (v := .pointer (some ⟨w.heap.size + 1, 0, none⟩)) (w' := wv) (by simp [execOp, go_sem, hρ.1.const, hρ.1.func, hd, (hρ.2 3 rfl)]) ⟨rfl, GrR.refl _⟩
        · (have h0 := cell?_of_below hR KC0.out; exact opOk_val (v := .int .u8 (kc.toNat : Int)) (w' := wv) (by simp [execOp, go_sem, hd, h0]) ⟨rfl, GrR.refl _⟩)
        · exact opOk_val (v := .pointer (some ⟨w.heap.size + 1, 1, none⟩)) (w' := wv) (by simp [execOp, go_sem, hρ.1.const, hρ.1.func, hd, (hρ.2 3 rfl)]) ⟨rfl, GrR.refl _⟩
        · (have h0 := cell?_of_below hR KC1.out; exact opOk_val (v := .int .u8 (fc.toNat : Int)) (w' := wv) (by simp [execOp, go_sem, hd, h0]) ⟨rfl, GrR.refl _⟩)
        · exact opOk_val (v := .pointer (some ⟨w.heap.size + 1, 2, none⟩)) (w' := wv) (by simp [execOp, go_sem, hρ.1.const, hρ.1.func, hd, (hρ.2 3 rfl)]) ⟨rfl, GrR.refl _⟩
        · (have h0 := cell?_of_below hR KC2.out; exact opOk_val (v := .slice p bc.length c) (w' := wv) (by simp [execOp, go_sem, hd, h0]) ⟨rfl, GrR.refl _⟩)
        · exact opOk_call hρ.1 rfl rfl Try.func14 (by kernel_rfl) rfl (by simp [hd, hρ.1.const, hρ.1.func]) ((roomy_any _ bc _ ((HV.out.mono G7.out).mono hR) (by omega)).mono fun e w' ⟨v', h1, h2, h3⟩ => ⟨_, h1, h2.base hR.size, h3⟩)
        · (have hr : RoomF W7.heap.size bc (ρ (.tmp 45)) wv := (by first | exact hd.2.2 | exact hd.1 | exact hd.2.1); obtain ⟨g9, h91, h92, h93, h94⟩ := hr; exact opOk_val (v := .agg #[.int .u8 (kc.toNat : Int), .int .u8 (fc.toNat : Int), .slice (some ⟨g9, 0, none⟩) bc.length (bc.length + 16)]) (w' := wv) (by simp [execOp, go_sem, hd, h92]) ⟨⟨_, rfl, g9, h91, rfl, h93, h94⟩, GrR.refl _⟩)
        · exact opOk_val (v := .pointer (some ⟨wv.heap.size, 0, none⟩)) (w' := wv.alloc (.cells #[.int .u8 0, .int .u8 0, .slice none 0 0] 28 (0, 0))) (by simp [execOp, go_sem]) ⟨⟨_, rfl, hR.size, RowV.new wv 28 [.int .u8 0, .int .u8 0, .slice none 0 0]⟩, (Below.refl _ _).alloc (Nat.le_refl _) _⟩
      · intro vals wv hR hall
        have i7 := hall 7 (by omega)
        have i8 := hall 8 (by omega)
        simp only [factAt, QF, NewF, List.getD_eq_getElem?_getD, List.getElem?_cons_succ, List.getElem?_cons_zero, Option.getD_some] at i7 i8
        clear hall
        obtain ⟨sq, hq7, hroom⟩ := i7
        obtain ⟨hh, hq8, hge, hrow⟩ := i8
        obtain ⟨pq, nq, cq, rfl⟩ := hroom.rd.form
        simp only [List.take_succ_cons, List.take_zero, List.drop_succ_cons, List.drop_zero, fillFrom, Act.put, hq7, hq8, List.setIfInBounds_toArray, List.set_cons_zero, List.set_cons_succ, Nat.zero_add, Nat.reduceAdd]
        obtain ⟨wq, hwq⟩ : ∃ x, x = wv := ⟨_, rfl⟩
        subst hwq
        have HRW := hid hrow
        have HRM := hid hroom
        obtain ⟨i0, i1, i2⟩ := HRW.out.three
        have y0 := HRW.out.frozen 0
        have y1 := HRW.out.frozen 1
        have y2 := HRW.out.frozen 2
        obtain ⟨WQ, hWQ⟩ : ∃ x, x = (((wq.setCell ⟨hh, 0, none⟩ (.int .u8 (kc.toNat : Int))).setCell ⟨hh, 1, none⟩ (.int .u8 (fc.toNat : Int))).setCell ⟨hh, 2, none⟩ (.slice pq nq cq)) := ⟨_, rfl⟩
        have HQ := hid (show RowV WQ hh 28 [.int .u8 (kc.toNat : Int), .int .u8 (fc.toNat : Int), .slice pq nq cq] by rw [hWQ]; exact ((HRW.out.store 0 (.int .u8 (kc.toNat : Int))).store 1 (.int .u8 (fc.toNat : Int))).store 2 (.slice pq nq cq))
        have g2 : wq.grownBy WQ (some hh) := by rw [hWQ]; exact gb_set (gb_set (gb_set (gb_refl _ _) 0 _) 1 _) 2 _
        have HRQ := hid (HRM.out.keep g2 (HRM.out.ne HRW.out (by decide)))
        have GQ := hid (show Below W7.heap.size W7 WQ from hR.trans (gb_below g2 hge hR.size))
        have HEQ := hid hWQ
        clear hWQ g2 hq7 hq8 hroom hrow hR
        obtain ⟨q0, q1, q2⟩ := HQ.out.three
        rw [HEQ.out] at q0 q1 q2
        clear KC0 KC1 KC2
        go_wp2_with fail
        rw [← HEQ.out]
        clear i0 i1 i2 y0 y1 y2 q0 q1 q2
        have HQ8 := HQ
        have HRQ8 := HRQ
        have HD8 := hid (HD7.out.mono GQ.out)
        have HC8 := hid (HC7.out.mono GQ.out)
        have HI8 := hid (HI7.out.mono GQ.out)
        have HIO8 := hid (HIO7.out.mono GQ.out)
        have HUO8 := hid (HUO7.out.mono GQ.out)
        have HK8 := hid (HK7.out.mono GQ.out)
        have HKO8 := hid (HKO7.out.mono GQ.out)
        have G8 := hid (gr_trans G7.out GQ.out)
        clear HQ HRQ
        refine (getSack_any _ ⟨kc, fc, bc⟩ _ ⟨_, rfl, HRQ8.out.rd⟩ HL.out).mono ?_
        rw [HX.out]
        rintro e w9 ⟨s9, rfl, ho9, hb9⟩
        simp only
        obtain ⟨px, cx, qx, dx, rfl, -, -, -, -⟩ := SackAt.form ho9
        obtain ⟨nx, hnx⟩ : ∃ n, n = xs.length := ⟨_, rfl⟩
        obtain ⟨mx, hmx⟩ : ∃ n, n = xu.length := ⟨_, rfl⟩
        simp only at ho9 ⊢
        rw [← hnx, ← hmx] at ho9 ⊢
        have HNX := hid hnx
        have HMX := hid hmx
        have HXO9 := hid ho9
        have HD9 := hid (HD8.out.mono hb9)
        have HC9 := hid (HC8.out.mono hb9)
        have HI9 := hid (HI8.out.mono hb9)
        have HIO9 := hid (HIO8.out.mono hb9)
        have HUO9 := hid (HUO8.out.mono hb9)
        have HK9 := hid (HK8.out.mono hb9)
        have HKO9 := hid (HKO8.out.mono hb9)
        have HQ9 := hid (HQ8.out.mono hb9)
        have HRQ9 := hid (HRQ8.out.mono hb9)
        have G9 := hid (gr_trans G8.out hb9)
        clear ho9 hb9 hnx hmx
        obtain ⟨Wx, hWx⟩ : ∃ W, W = w9.alloc (.cells #[.int .u32 (xc : Int), .int .u32 (xr : Int), .slice px nx cx, .slice qx mx dx] 45 (0, 0)) := ⟨_, rfl⟩
        have gx : Below w9.heap.size w9 Wx := by rw [hWx]; exact (Below.refl _ _).alloc (Nat.le_refl _) _
        have HXRx := hid (show RowV Wx w9.heap.size 45 [.int .u32 (xc : Int), .int .u32 (xr : Int), .slice px nx cx, .slice qx mx dx] by rw [hWx]; exact RowV.new w9 _ _)
        have HDx := hid (HD9.out.mono gx)
        have HCx := hid (HC9.out.mono gx)
        have HIx := hid (HI9.out.mono gx)
        have HIOx := hid (HIO9.out.mono gx)
        have HUOx := hid (HUO9.out.mono gx)
        have HKx := hid (HK9.out.mono gx)
        have HKOx := hid (HKO9.out.mono gx)
        have HQx := hid (HQ9.out.mono gx)
        have HRQx := hid (HRQ9.out.mono gx)
        have HXOx := hid (HXO9.out.mono gx)
        have Gx := hid (gr_trans G9.out gx)
        have HEx := hid hWx
        obtain ⟨k0, k1, k2⟩ := HCx.out.three
        rw [hWx] at k0 k1 k2
        clear hWx gx
        go_wp2_with fail
        rw [← HEx.out]
        clear k0 k1 k2
        refine (rgetSack_any _ ⟨kc, fc, bc⟩ _ (HCH.out.mono Gx.out) HL.out).mono ?_
        rw [HX.out]
        rintro e w10 ⟨s10, rfl, ho10, hb10⟩
        obtain ⟨py, cy, qy, dy, rfl, -, -, -, -⟩ := SackAt.form ho10
        simp only at ho10 ⊢
        rw [← HNX.out, ← HMX.out] at ho10 ⊢
        have HYO10 := hid ho10
        have HD10 := hid (HDx.out.mono hb10)
        have HC10 := hid (HCx.out.mono hb10)
        have HI10 := hid (HIx.out.mono hb10)
        have HIO10 := hid (HIOx.out.mono hb10)
        have HUO10 := hid (HUOx.out.mono hb10)
        have HK10 := hid (HKx.out.mono hb10)
        have HKO10 := hid (HKOx.out.mono hb10)
        have HQ10 := hid (HQx.out.mono hb10)
        have HRQ10 := hid (HRQx.out.mono hb10)
        have HXO10 := hid (HXOx.out.mono hb10)
        have HXR10 := hid (HXRx.out.mono hb10)
        have G10 := hid (gr_trans Gx.out hb10)
        clear ho10 hb10
        obtain ⟨Wy, hWy⟩ : ∃ W, W = w10.alloc (.cells #[.int .u32 (xc : Int), .int .u32 (xr : Int), .slice py nx cy, .slice qy mx dy] 45 (0, 0)) := ⟨_, rfl⟩
        have gy : Below w10.heap.size w10 Wy := by rw [hWy]; exact (Below.refl _ _).alloc (Nat.le_refl _) _
        have HYR11 := hid (show RowV Wy w10.heap.size 45 [.int .u32 (xc : Int), .int .u32 (xr : Int), .slice py nx cy, .slice qy mx dy] by rw [hWy]; exact RowV.new w10 _ _)
        have HD11 := hid (HD10.out.mono gy)
        have HC11 := hid (HC10.out.mono gy)
        have HI11 := hid (HI10.out.mono gy)
        have HIO11 := hid (HIO10.out.mono gy)
        have HUO11 := hid (HUO10.out.mono gy)
        have HK11 := hid (HK10.out.mono gy)
        have HKO11 := hid (HKO10.out.mono gy)
        have HQ11 := hid (HQ10.out.mono gy)
        have HRQ11 := hid (HRQ10.out.mono gy)
        have HXO11 := hid (HXO10.out.mono gy)
        have HXR11 := hid (HXR10.out.mono gy)
        have HYO11 := hid (HYO10.out.mono gy)
        have G11 := hid (gr_trans G10.out gy)
        have HEy := hid hWy
        clear hWy gy
        have KQ2 := hid (HQ11.out.at 2 (by simp))
        have KC2 := hid (HC11.out.at 2 (by simp))
        simp only [List.getElem_cons_succ, List.getElem_cons_zero] at KQ2 KC2
        go_wp2_with fail
        rw [← HEy.out]
        refine wp_region_gr [Is (.agg ([.int .u8 3, .int .u8 0, .slice pp np cp]).toArray), Is (.agg ([.int .u32 (wc : Int), .int .u32 (wr_ : Int), .slice pd nd cd, .slice pu nu cu]).toArray), ChkF (SackD.chk ⟨wc, wr_, ws, wu⟩), Is (.bool true), Is (.bool true), Is (.agg ([.int .u32 (wc : Int), .int .u32 (wr_ : Int), .slice p4 n4 c4, .slice p6 nu c6]).toArray), Is (.agg ([.int .u32 (wc : Int), .int .u32 (wr_ : Int), .slice pd nd cd, .slice pu nu cu]).toArray), Is (.bool true), Is (.bool true), Is (.bool true), Is (.pointer (some ⟨hh, 2, none⟩)), Is (.slice pq nq cq), Is (.pointer (some ⟨w.heap.size + 1, 2, none⟩)), Is (.slice p bc.length c), Is (.bool true), Is (.bool true), Is (.bool true), Is (.int .i64 xe), Is (.int .i64 xe), Is (.bool true), Is (.bool true), Is (.bool true), Is (.agg ([.int .u32 (xc : Int), .int .u32 (xr : Int), .slice px nx cx, .slice qx mx dx]).toArray), Is (.agg ([.int .u32 (xc : Int), .int .u32 (xr : Int), .slice py nx cy, .slice qy mx dy]).toArray), Is (.bool true), Is (.bool true), Is (.bool true), Is (.bool true), Is (.bool true), Is (.bool true)] (by kernel_rfl) (by kernel_rfl) (by kernel_rfl) ?_ ?_ ?_
        · simp only [StabAll, Is.gr, RdF.gr, OwnF.gr, AnyF.gr, ChkF.gr, and_self]
        · rename_i Kk hKk; clear hKk Kk
          simp only [AllOps, List.map_cons, List.map_nil, depsOf, List.filterMap_cons, List.filterMap_nil, Region.binds, depFacts, guardF, reduceIte, List.getD_eq_getElem?_getD, List.getElem?_cons_succ, List.getElem?_cons_zero, Option.getD_some, factAt, and_true]
          refine ⟨?_, ?_, ?_, ?_, ?_, ?_, ?_, ?_, ?_, ?_, ?_, ?_, ?_, ?_, ?_, ?_, ?_, ?_, ?_, ?_, ?_, ?_, ?_, ?_, ?_, ?_, ?_, ?_, ?_, ?_⟩
          all_goals intro ρ wv hρ hR hd
          all_goals try simp only [Is] at hd
          · exact opOk_loadRow rfl (w6.heap.size) (by first | exact hρ.2 _ rfl | simp [hd]) _ ([.int .u8 3, .int .u8 0, .slice pp np cp]) _ (HK11.out.mono hR) Try.underlying28 rfl (by kernel_rfl) ⟨rfl, GrR.refl _⟩
          · exact opOk_loadRow rfl (w.heap.size) (by first | exact hρ.2 _ rfl | simp [hd]) _ ([.int .u32 (wc : Int), .int .u32 (wr_ : Int), .slice pd nd cd, .slice pu nu cu]) _ (HD11.out.mono hR) Try.underlying45 rfl (by kernel_rfl) ⟨rfl, GrR.refl _⟩
          · exact opOk_call hρ.1 rfl rfl Try.func27 (by kernel_rfl) rfl (by simp [hd, hρ.1.const, hρ.1.func]) ((rputSack_any _ ⟨wc, wr_, ws, wu⟩ HWD.out _ ((HDA.out.mono G11.out).mono hR) HNL.out HUL.out).mono fun e w' ⟨s, h1, h2, h3⟩ => ⟨_, h1, ⟨s, rfl, h2.rd⟩, h3⟩)
          · exact opOk_call hρ.1 rfl rfl Try.func18 (by kernel_rfl) rfl (by simp [hd, hρ.1.const, hρ.1.func]) ((chkSame_yes (.agg #[.int .u8 3, .int .u8 0, .slice pp np cp]) (ρ (.tmp 59)) (SackD.chk ⟨wc, wr_, ws, wu⟩) _ ⟨.slice pp np cp, rfl, HKO11.out.rd.mono hR⟩ (by first | exact hd.2 | exact hd.1 | exact hd.2.1)).mono fun e w' ⟨h1, h2⟩ => ⟨_, h1, rfl, h2⟩)
          · exact opOk_move (.inl rfl) ⟨by simp only [Is]; (first | exact hρ.2 60 rfl | exact hd | exact hd.1 | exact hd.2 | simp [hd]), GrR.refl _⟩
          · refine ⟨fun _ => ?_, fun hg => absurd (by simp [hd]) hg⟩; exact opOk_loadRow rfl (t5) (by first | exact hρ.2 _ rfl | simp [hd]) _ ([.int .u32 (wc : Int), .int .u32 (wr_ : Int), .slice p4 n4 c4, .slice p6 nu c6]) _ (HI11.out.mono hR) Try.underlying45 rfl (by kernel_rfl) ⟨rfl, GrR.refl _⟩
          · refine ⟨fun _ => ?_, fun hg => absurd (by simp [hd]) hg⟩; exact opOk_loadRow rfl (w.heap.size) (by first | exact hρ.2 _ rfl | simp [hd]) _ ([.int .u32 (wc : Int), .int .u32 (wr_ : Int), .slice pd nd cd, .slice pu nu cu]) _ (HD11.out.mono hR) Try.underlying45 rfl (by kernel_rfl) ⟨rfl, GrR.refl _⟩
          · refine ⟨fun _ => ?_, fun hg => absurd (by simp [hd]) hg⟩; exact opOk_call hρ.1 rfl rfl Try.func28 (by kernel_rfl) rfl (by simp [hd, hρ.1.const, hρ.1.func]) ((sameSack_yes _ _ ⟨wc, wr_, ws, wu⟩ _ ⟨_, _, rfl, (OwnP.rd HIO11.out).mono hR, (RdK.rdV (OwnK.rd HUO11.out)).mono hR⟩ ((HDA.out.mono G11.out).mono hR) HNL.out HUL.out).mono fun e w' ⟨h1, h2⟩ => ⟨_, h1, rfl, h2⟩)
          · exact opOk_val (v := .bool true) (w' := wv) (by simp [execOp, go_sem, hρ.1.const, hρ.1.func, hd]) ⟨rfl, GrR.refl _⟩
          · exact opOk_move (.inl rfl) ⟨by simp only [Is]; (first | exact hρ.2 65 rfl | exact hd | exact hd.1 | exact hd.2 | simp [hd]), GrR.refl _⟩
          · refine ⟨fun _ => ?_, fun hg => absurd (by simp [hd]) hg⟩; exact opOk_val (v := .pointer (some ⟨hh, 2, none⟩)) (w' := wv) (by simp [execOp, go_sem, hρ.1.const, hρ.1.func, hd, (hρ.2 7 rfl)]) ⟨rfl, GrR.refl _⟩
          · refine ⟨fun _ => ?_, fun hg => absurd (by simp [hd]) hg⟩; (have h0 := cell?_of_below hR KQ2.out; exact opOk_val (v := .slice pq nq cq) (w' := wv) (by simp [execOp, go_sem, hd, h0]) ⟨rfl, GrR.refl _⟩)
          · refine ⟨fun _ => ?_, fun hg => absurd (by simp [hd]) hg⟩; exact opOk_val (v := .pointer (some ⟨w.heap.size + 1, 2, none⟩)) (w' := wv) (by simp [execOp, go_sem, hρ.1.const, hρ.1.func, hd, (hρ.2 3 rfl)]) ⟨rfl, GrR.refl _⟩
          · refine ⟨fun _ => ?_, fun hg => absurd (by simp [hd]) hg⟩; (have h0 := cell?_of_below hR KC2.out; exact opOk_val (v := .slice p bc.length c) (w' := wv) (by simp [execOp, go_sem, hd, h0]) ⟨rfl, GrR.refl _⟩)
          · refine ⟨fun _ => ?_, fun hg => absurd (by simp [hd]) hg⟩; exact opOk_call hρ.1 rfl rfl Try.func20 (by kernel_rfl) rfl (by simp [hd, hρ.1.const, hρ.1.func]) ((kept_gr _ _ bc _ _ (HRQ11.out.mono hR) ((HV.out.mono G11.out).mono hR)).mono fun e w' ⟨h1, h2⟩ => ⟨_, h1, rfl, h2⟩)
          · exact opOk_val (v := .bool true) (w' := wv) (by simp [execOp, go_sem, hρ.1.const, hρ.1.func, hd]) ⟨rfl, GrR.refl _⟩
          · exact opOk_move (.inl rfl) ⟨by simp only [Is]; (first | exact hρ.2 72 rfl | exact hd | exact hd.1 | exact hd.2 | simp [hd]), GrR.refl _⟩
          · refine ⟨fun _ => ?_, fun hg => absurd (by simp [hd]) hg⟩; exact opOk_move (.inl rfl) ⟨by simp only [Is]; (first | exact hρ.2 9 rfl | exact hd | exact hd.1 | exact hd.2 | simp [hd]), GrR.refl _⟩
          · refine ⟨fun _ => ?_, fun hg => absurd (by simp [hd]) hg⟩; exact opOk_move (.inl rfl) ⟨by simp only [Is]; (first | exact hρ.2 11 rfl | exact hd | exact hd.1 | exact hd.2 | simp [hd]), GrR.refl _⟩
          · refine ⟨fun _ => ?_, fun hg => absurd (by simp [hd]) hg⟩; exact opOk_val (v := .bool true) (w' := wv) (by simp [execOp, go_sem, hρ.1.const, hρ.1.func, hd]) ⟨rfl, GrR.refl _⟩
          · exact opOk_val (v := .bool true) (w' := wv) (by simp [execOp, go_sem, hρ.1.const, hρ.1.func, hd]) ⟨rfl, GrR.refl _⟩
          · exact opOk_move (.inl rfl) ⟨by simp only [Is]; (first | exact hρ.2 77 rfl | exact hd | exact hd.1 | exact hd.2 | simp [hd]), GrR.refl _⟩
          · refine ⟨fun _ => ?_, fun hg => absurd (by simp [hd]) hg⟩; exact opOk_loadRow rfl (w9.heap.size) (by first | exact hρ.2 _ rfl | simp [hd]) _ ([.int .u32 (xc : Int), .int .u32 (xr : Int), .slice px nx cx, .slice qx mx dx]) _ (HXR11.out.mono hR) Try.underlying45 rfl (by kernel_rfl) ⟨rfl, GrR.refl _⟩
          · refine ⟨fun _ => ?_, fun hg => absurd (by simp [hd]) hg⟩; exact opOk_loadRow rfl (w10.heap.size) (by first | exact hρ.2 _ rfl | simp [hd]) _ ([.int .u32 (xc : Int), .int .u32 (xr : Int), .slice py nx cy, .slice qy mx dy]) _ (HYR11.out.mono hR) Try.underlying45 rfl (by kernel_rfl) ⟨rfl, GrR.refl _⟩
          · refine ⟨fun _ => ?_, fun hg => absurd (by simp [hd]) hg⟩; exact opOk_call hρ.1 rfl rfl Try.func28 (by kernel_rfl) rfl (by simp [hd, hρ.1.const, hρ.1.func]) ((sameSack_yes _ _ ⟨xc, xr, xs, xu⟩ _ (HXO11.out.mono hR) (HYO11.out.mono hR) HXL.out.1 HXL.out.2).mono fun e w' ⟨h1, h2⟩ => ⟨_, h1, rfl, h2⟩)
          · exact opOk_val (v := .bool true) (w' := wv) (by simp [execOp, go_sem, hρ.1.const, hρ.1.func, hd]) ⟨rfl, GrR.refl _⟩
          · exact opOk_move (.inl rfl) ⟨by simp only [Is]; (first | exact hρ.2 82 rfl | exact hd | exact hd.1 | exact hd.2 | simp [hd]), GrR.refl _⟩
          · refine ⟨fun _ => ?_, fun hg => absurd (by simp [hd]) hg⟩; exact opOk_call hρ.1 rfl rfl Try.func13 (by kernel_rfl) rfl (by simp [hd, hρ.1.const, hρ.1.func]) ((works_any _).mono fun e w' ⟨h1, h2⟩ => ⟨_, h1, rfl, h2⟩)
          · exact opOk_val (v := .bool true) (w' := wv) (by simp [execOp, go_sem, hρ.1.const, hρ.1.func, hd]) ⟨rfl, GrR.refl _⟩
          · exact opOk_move (.inr rfl) ⟨by simp only [Is]; (first | exact hρ.2 85 rfl | exact hd | exact hd.1 | exact hd.2 | simp [hd]), GrR.refl _⟩
        · intro vals wv hR hall
          have hend := hall 29 (by simp)
          simp only [factAt, Is, List.getD_eq_getElem?_getD, List.getElem?_cons_succ, List.getElem?_cons_zero, Option.getD_some] at hend
          clear hall
          simp only [fillFrom, Act.put, hend, List.setIfInBounds_toArray, List.set_cons_zero, List.set_cons_succ]
          rename_i Kk hKk
          refine hKk _ _ ?_
          clear hKk Kk
          go_wp2
          go_ret
          exact ⟨rfl, gr_trans G11.out hR⟩
end Go.Proofs.Ytfiblhdejglpaaa

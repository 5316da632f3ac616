/- ChunkBack: the walk of the law. Conditions: none but what the row reads. -/
import Derived.Test.YtbjmakckljjbiaaChunkWorks
import Derived.Test.YtbjmakckljjbiaaRegGr
namespace Go.Proofs.Ytbjmakckljjbiaa
open Go.RowKit Go.FL Go.ChangeShapes

set_option maxRecDepth 100000 in
set_option maxHeartbeats 4000000 in
theorem chunkBack_walk {w : World} {v : Value} (x : Chk) (hx : ChkAt w v x) {u : Value} (m : List UInt8) (hu : Rd w u m) :
    Calls Try.prog 5 #[v, u] w fun e w' => e = .returned (.bool true) ∧ Below w.heap.size w w' := by
  have HX := hid hx
  have HU := hid hu
  obtain ⟨s, rfl, hrd⟩ := hx
  have HV := hid hrd
  obtain ⟨p, cp, rfl, hlc, hcm, hpn, hcell⟩ := hrd
  obtain ⟨q, cq, rfl, hlq, hcq, hqn, hcelq⟩ := hu
  unfold maxLen at hcm hcq
  clear hcell hcelq
  obtain ⟨kk, ff, b⟩ := x
  simp only at *
  have hkb := byte_lt kk
  have hfb := byte_lt ff
  obtain ⟨W, hW⟩ : ∃ W, W = w.alloc (.cells #[.int .u8 (kk.toNat : Int), .int .u8 (ff.toNat : Int), .slice p b.length cp] 24 (0, 0)) := ⟨_, rfl⟩
  have hr : RowV W w.heap.size 24 [.int .u8 (kk.toNat : Int), .int .u8 (ff.toNat : Int), .slice p b.length cp] := by rw [hW]; exact RowV.new w 24 _
  have HW := hid (show Below w.heap.size w W by rw [hW]; exact (Below.refl _ _).alloc (Nat.le_refl _) _)
  have HE := hid hW
  have HR := hid hr
  clear hW hr
  by_cases hbig : 131072 < b.length ∨ 4096 < m.length
  · have hcase : 131072 < b.length ∨ (b.length ≤ 131072 ∧ 4096 < m.length) := by omega
    clear hbig
    rcases hcase with h1 | ⟨h1, h2⟩
    · go_enter Try.func5, Try.ntmps5
      go_wp2_with fail
      rw [← HE.out]
      refine (large_yes _ ⟨kk, ff, b⟩ _ (HX.out.mono HW.out) h1).mono ?_
      rintro e w1 ⟨rfl, hb1⟩
      go_wp2_with fail
      refine (works_any _).mono ?_
      rintro e w2 ⟨rfl, hb2⟩
      go_wp2_with fail
      go_ret
      exact ⟨rfl, gr_trans HW.out (gr_trans hb1 hb2)⟩
    · go_enter Try.func5, Try.ntmps5
      go_wp2_with fail
      rw [← HE.out]
      refine (large_no _ ⟨kk, ff, b⟩ _ (HX.out.mono HW.out) h1).mono ?_
      rintro e w1 ⟨rfl, hb1⟩
      go_wp2_with fail
      refine (works_any _).mono ?_
      rintro e w2 ⟨rfl, hb2⟩
      go_wp2_with fail
      go_ret
      exact ⟨rfl, gr_trans HW.out (gr_trans hb1 hb2)⟩
  · have hsm : b.length ≤ 131072 := by omega
    have hml : m.length ≤ 4096 := by omega
    clear hbig
    go_enter Try.func5, Try.ntmps5
    go_wp2_with fail
    rw [← HE.out]
    refine (large_no _ ⟨kk, ff, b⟩ _ (HX.out.mono HW.out) hsm).mono ?_
    rintro e w1 ⟨rfl, hb1⟩
    have G1 := hid (gr_trans HW.out hb1)
    have HR1 := hid (HR.out.mono hb1)
    obtain ⟨c0, c1, c2⟩ := HR1.out.three
    clear hb1
    go_wp2_with fail
    refine (cwrite_any _ ⟨kk, ff, b⟩ _ (HX.out.mono G1.out) (by show b.length ≤ _; omega)).mono ?_
    rintro e w2 ⟨v2, rfl, ho2, hb2⟩
    obtain ⟨bs, hbs⟩ : ∃ bs, bs = (⟨kk, ff, b⟩ : Chk).bytes := ⟨_, rfl⟩
    rw [← hbs] at ho2
    have HBS := hid hbs
    obtain ⟨z, cc, rfl, hzc, hcc⟩ := ho2.shape
    unfold maxLen at hcc
    have HO2 := hid ho2
    have HZL := hid ho2.lt
    have HS2 := hid hb2.size
    have G2 := hid (gr_trans G1.out hb2)
    have HR2 := hid (HR1.out.mono hb2)
    clear hbs ho2 hb2 c0 c1 c2
    obtain ⟨d0, d1, d2⟩ := HR2.out.three
    by_cases hl : b.length ≤ 65531
    · have hbp := Chk.bytes_pos ⟨kk, ff, b⟩ hl
      rw [← HBS.out] at hbp
      simp only at hbp
      obtain ⟨hb1, hb2, hb3⟩ := hbp
      have HT1 := hid (show chkTells bs = (⟨kk, ff, b⟩, bs.length, 0) by
        have := chkTells_back ⟨kk, ff, b⟩ [] hl
        rwa [List.append_nil, ← HBS.out] at this)
      have HT2 := hid (show chkTells (bs ++ m) = (⟨kk, ff, b⟩, bs.length, 0) by
        have := chkTells_back ⟨kk, ff, b⟩ m hl
        rwa [← HBS.out] at this)
      have hn1 : ¬ 65531 < b.length := by omega
      have hrem : ((bs.length : Int) % 4 != 0) = false := by simp; omega
      have hrem2 : (bs.length : Int) % 4 = 0 := by omega
      go_wp2_with fail
      refine (cread_good _ bs ⟨kk, ff, b⟩ bs.length HT1.out _ HO2.out.rd (by omega)).mono ?_
      rintro e w3 ⟨p3, c3, rfl, ho3, hb3⟩
      simp only at ho3 ⊢
      obtain ⟨W3, hW3⟩ : ∃ W3, W3 = w3.alloc (.cells #[.int .u8 (kk.toNat : Int), .int .u8 (ff.toNat : Int), .slice p3 b.length c3] 24 (0, 0)) := ⟨_, rfl⟩
      have g33 : Below w3.heap.size w3 W3 := by rw [hW3]; exact (Below.refl _ _).alloc (Nat.le_refl _) _
      have hr3 : RowV W3 w3.heap.size 24 [.int .u8 (kk.toNat : Int), .int .u8 (ff.toNat : Int), .slice p3 b.length c3] := by rw [hW3]; exact RowV.new w3 24 _
      have G3 := hid (gr_trans G2.out (gr_trans hb3 g33))
      have K3 := hid (gr_trans hb3 g33)
      have HR3 := hid (HR2.out.mono K3.out)
      have HO3 := hid (ho3.mono g33)
      have hs23 : w2.heap.size ≤ w3.heap.size := hb3.size
      have HRW3 := hid hr3
      have HO23 := hid (HO2.out.mono K3.out)
      have HS3 := hid (Nat.le_trans HS2.out K3.out.size)
      have HLT3 := hid hr3.lt
      have HE3 := hid hW3
      clear ho3 hb3 hW3 g33 hr3 d0 d1 d2
      go_wp2_with (at_builtin; refine wpList_append_Own rfl (.tmp 44) (.tmp 45) 22 rfl w1.heap.size 5 Try.underlying22 infoU8o _ _ bs m rfl (by rw [← HE3.out]; exact HO23.out) rfl (by rw [← HE3.out]; exact HU.out.mono G3.out) ?hlen (by rw [← HE3.out]; exact HS3.out) ?_)
      case hlen => omega
      rw [← HE3.out]
      intro v4 w4 ho4 hg4
      have hlow : w.heap.size < w1.heap.size := HR1.out.lt
      have HR4 := hid (HR3.out.grown hg4 (fun e => by have := HO2.out.ge _ e; omega))
      have HRW4 := hid (HRW3.out.grown hg4 (fun e => by have := HZL.out _ e; omega))
      have HO34 := hid (HO3.out.keep hg4 (fun k hk e => by have := HZL.out _ e; have := HO3.out.ge k hk; omega))
      have G4 := hid (show Below w.heap.size w w4 from G3.out.grown hg4 G3.out.size (fun k hk => by have := HO2.out.ge k hk; omega))
      obtain ⟨z4, cc4, rfl, _, hcc4⟩ := ho4.shape
      unfold maxLen at hcc4
      rw [List.length_append] at ho4
      have hlen4 : (bs ++ m).length ≤ 140737488355320 := by rw [List.length_append]; omega
      have HO4 := hid ho4
      have HL4 := hid hlen4
      clear ho4 hg4 hlen4 hlow hs23 HO23 HO3 HRW3 HR3
      go_wp2_with fail
      refine (cread_good _ (bs ++ m) ⟨kk, ff, b⟩ bs.length HT2.out _ HO4.out.rd HL4.out).mono ?_
      rintro e w5 ⟨p5, c5, rfl, ho5, hb5⟩
      simp only at ho5 ⊢
      obtain ⟨W5, hW5⟩ : ∃ W5, W5 = w5.alloc (.cells #[.int .u8 (kk.toNat : Int), .int .u8 (ff.toNat : Int), .slice p5 b.length c5] 24 (0, 0)) := ⟨_, rfl⟩
      have g55 : Below w5.heap.size w5 W5 := by rw [hW5]; exact (Below.refl _ _).alloc (Nat.le_refl _) _
      have hr5 : RowV W5 w5.heap.size 24 [.int .u8 (kk.toNat : Int), .int .u8 (ff.toNat : Int), .slice p5 b.length c5] := by rw [hW5]; exact RowV.new w5 24 _
      have K5 := hid (gr_trans hb5 g55)
      have G5 := hid (gr_trans G4.out K5.out)
      have HR5 := hid (HR4.out.mono K5.out)
      have HRW5 := hid (HRW4.out.mono K5.out)
      have HRX5 := hid hr5
      have HRD3 := hid (HO34.out.mono K5.out).rd
      have HRD5 := hid (show Rd W5 (.slice p5 b.length c5) b from ho5.rd.mono g55)
      have HE5 := hid hW5
      obtain ⟨d0, d1, d2⟩ := HR5.out.three
      obtain ⟨e0, e1, e2⟩ := HRW5.out.three
      have hbs7 : ((bs.length : Int)) ≤ 7 + (b.length : Int) := by omega
      have hbs4 : 4 + (b.length : Int) ≤ (bs.length : Int) := by omega
      clear ho5 hb5 hW5 g55 hr5
      have t1 : ¬ ((bs.length : Int) < 4 + (b.length : Int)) := by omega
      have t2 : ¬ (7 + (b.length : Int) < (bs.length : Int)) := by omega
      go_wp2_with (rw [← HE5.out])
      refine (chkSame_yes _ _ ⟨kk, ff, b⟩ _ ⟨_, rfl, HV.out.mono G5.out⟩ ⟨_, rfl, HRD3⟩).mono ?_
      rintro e w6 ⟨rfl, hb6⟩
      have G6 := hid (gr_trans G5.out hb6)
      obtain ⟨d0, d1, d2⟩ := (HR5.out.mono hb6).three
      obtain ⟨e0, e1, e2⟩ := (HRX5.out.mono hb6).three
      have HRD6 := hid (HRD5.out.mono hb6)
      clear hb6 HRD3
      go_wp2_with fail
      refine (chkSame_yes _ _ ⟨kk, ff, b⟩ _ ⟨_, rfl, HV.out.mono G6.out⟩ ⟨_, rfl, HRD6.out⟩).mono ?_
      rintro e w7 ⟨rfl, hb7⟩
      have G7 := hid (gr_trans G6.out hb7)
      clear hb7 d0 d1 d2 e0 e1 e2 hrem hrem2 t1 t2 hbs7 hbs4 hn1 hb1 hb2 hb3
      cases hok : chkOk m
      · have HNO := hid hok
        clear hok
        go_wp2_with fail
        refine (cread_bad _ m HNO.out _ (HU.out.mono G7.out) (by omega)).mono ?_
        rintro e w8 ⟨p8, c8, rfl, ho8, hb8⟩
        have G8 := hid ((gr_trans G7.out hb8).alloc (gr_trans G7.out hb8).size (.cells #[.int .u8 0, .int .u8 0, .slice p8 0 c8] 24 (0, 0)))
        clear ho8 hb8
        go_wp2_with fail
        refine (works_any _).mono ?_
        rintro e w9 ⟨rfl, hb9⟩
        go_wp2_with fail
        go_ret
        exact ⟨rfl, gr_trans G8.out hb9⟩
      · obtain ⟨hby, hsz, hbb⟩ := chkOk_bytes m hok
        have hts : chkTells m = (chkOf m, chkSize m, 0) := by rw [chkTells, if_pos hok]
        generalize chkSize m = n2 at *
        generalize chkOf m = cx at *
        obtain ⟨k2, f2, b2⟩ := cx
        simp only at hbb
        have HTS := hid hts
        have HBY := hid hby
        have L2 := hid (show decide ((n2 : Int) ≤ (m.length : Int)) = true by simp; omega)
        have HB2 := hid (show (⟨k2, f2, b2⟩ : Chk).b.length ≤ 140737488350000 by show b2.length ≤ _; omega)
        have HSL := hid (show ∀ wx, (Instr.slice 22 (.slice q m.length cq) none (some (.int .i64 (n2 : Int))) none).run Try.prog wx = .ok (.slice q n2 cq) wx from fun wx => by
          by_cases hc0 : 0 < cq
          · exact run_slice_to (P := Try.prog) 22 5 Try.underlying22 q m.length cq n2 (by omega) hc0 .i64 (by kernel_rfl) wx
          · have hn0 : n2 = 0 := by omega
            subst hn0
            exfalso
            have := (Chk.bytes_pos ⟨k2, f2, b2⟩ hbb).1
            rw [HBY.out] at this
            simp at this)
        have LE2 := hid hsz
        clear hok hby hts hsz
        go_wp2_with fail
        refine (cread_good _ m ⟨k2, f2, b2⟩ n2 HTS.out _ (HU.out.mono G7.out) (by omega)).mono ?_
        rintro e w8 ⟨p8, c8, rfl, ho8, hb8⟩
        simp only at ho8 ⊢
        obtain ⟨W8, hW8⟩ : ∃ W8, W8 = w8.alloc (.cells #[.int .u8 (k2.toNat : Int), .int .u8 (f2.toNat : Int), .slice p8 b2.length c8] 24 (0, 0)) := ⟨_, rfl⟩
        have g88 : Below w8.heap.size w8 W8 := by rw [hW8]; exact (Below.refl _ _).alloc (Nat.le_refl _) _
        have HR8 := hid (show RowV W8 w8.heap.size 24 [.int .u8 (k2.toNat : Int), .int .u8 (f2.toNat : Int), .slice p8 b2.length c8] by rw [hW8]; exact RowV.new w8 24 _)
        have GZ := hid (gr_trans G7.out (gr_trans hb8 g88))
        have HC8 := hid (show ChkAt W8 (.agg #[.int .u8 (k2.toNat : Int), .int .u8 (f2.toNat : Int), .slice p8 b2.length c8]) ⟨k2, f2, b2⟩ from ⟨_, rfl, ho8.rd.mono g88⟩)
        have HRT := hid (show Rd W8 (.slice q n2 cq) (m.take n2) from (HU.out.mono GZ.out).take n2 (by have := L2.out; simp at this; omega))
        have HE8 := hid hW8
        clear ho8 hb8 hW8 g88
        go_wp2_with fail
        rw [← HE8.out]
        refine wp_region_gr [Is (.int .i64 (n2 : Int)), Is (.slice q m.length cq), Is (.int .i64 ((m.length : Nat) : Int)), Is (.bool true), Is (.bool true), Is (.agg ([.int .u8 (k2.toNat : Int), .int .u8 (f2.toNat : Int), .slice p8 b2.length c8]).toArray), OwnF 0 5 (m.take n2), Is (.slice q m.length cq), Is (.int .i64 (n2 : Int)), Is (.slice q n2 cq), Is (.bool true), Is (.bool true), Is (.bool true), Is (.bool true), Is (.bool true), Is (.bool true)] (by kernel_rfl) (by kernel_rfl) (by kernel_rfl) ?_ ?_ ?_
        · simp only [StabAll, Is.gr, RdF.gr, OwnF.gr, AnyF.gr, and_self]
        · rename_i Kk hKk; clear hKk Kk
          simp only [AllOps, List.map_cons, List.map_nil, depsOf, List.filterMap_cons, List.filterMap_nil, Region.binds, depFacts, guardF, reduceIte, List.getD_eq_getElem?_getD, List.getElem?_cons_succ, List.getElem?_cons_zero, Option.getD_some, factAt, and_true]
          refine ⟨?_, ?_, ?_, ?_, ?_, ?_, ?_, ?_, ?_, ?_, ?_, ?_, ?_, ?_, ?_, ?_⟩
          all_goals intro ρ wv hρ hR hd
          all_goals try simp only [Is] at hd
          · exact opOk_move (.inl rfl) ⟨by simp only [Is]; (first | exact hρ.2 14 rfl | exact hd | exact hd.1 | exact hd.2 | simp [hd]), GrR.refl _⟩
          · exact opOk_move (.inl rfl) ⟨by simp only [Is]; (first | exact hρ.2 1 rfl | exact hd | exact hd.1 | exact hd.2 | simp [hd]), GrR.refl _⟩
          · exact opOk_len rfl _ Try.underlying22 _ (m.length) _ (by first | exact hρ.2 _ rfl | exact hd | exact hd.1 | exact hd.2 | simp [hd]) ⟨rfl, GrR.refl _⟩
          · exact opOk_val (v := .bool true) (w' := wv) (by simp [execOp, go_sem, hρ.1.const, hρ.1.func, hd, LE2.out]) ⟨rfl, GrR.refl _⟩
          · exact opOk_move (.inl rfl) ⟨by simp only [Is]; (first | exact hρ.2 114 rfl | exact hd | exact hd.1 | exact hd.2 | simp [hd]), GrR.refl _⟩
          · refine ⟨fun _ => ?_, fun hg => absurd (by simp [hd]) hg⟩; exact opOk_loadRow rfl (w8.heap.size) (by first | exact hρ.2 _ rfl | simp [hd]) _ ([.int .u8 (k2.toNat : Int), .int .u8 (f2.toNat : Int), .slice p8 b2.length c8]) _ (HR8.out.mono hR) Try.underlying24 rfl (by kernel_rfl) ⟨rfl, GrR.refl _⟩
          · refine ⟨fun _ => ?_, fun hg => absurd (by simp [hd]) hg⟩; exact opOk_call hρ.1 rfl rfl Try.func13 (by kernel_rfl) rfl (by simp [hd, hρ.1.const]) ((cwrite_any _ ⟨k2, f2, b2⟩ _ (HC8.out.mono hR) HB2.out).mono fun e w' ⟨v', h1, h2, h3⟩ => ⟨v', h1, by rw [HBY.out] at h2; exact h2.base (Nat.zero_le _), h3⟩)
          · refine ⟨fun _ => ?_, fun hg => absurd (by simp [hd]) hg⟩; exact opOk_move (.inl rfl) ⟨by simp only [Is]; (first | exact hρ.2 1 rfl | exact hd | exact hd.1 | exact hd.2 | simp [hd]), GrR.refl _⟩
          · refine ⟨fun _ => ?_, fun hg => absurd (by simp [hd]) hg⟩; exact opOk_move (.inl rfl) ⟨by simp only [Is]; (first | exact hρ.2 14 rfl | exact hd | exact hd.1 | exact hd.2 | simp [hd]), GrR.refl _⟩
          · refine ⟨fun _ => ?_, fun hg => absurd (by simp [hd]) hg⟩; exact opOk_val (v := .slice q n2 cq) (w' := wv) (by simp [execOp, go_sem, hρ.1.const, hρ.1.func, hd, Try.underlying22, HSL.out]) ⟨rfl, GrR.refl _⟩
          · refine ⟨fun _ => ?_, fun hg => absurd (by simp [hd]) hg⟩; exact opOk_call hρ.1 rfl rfl Try.func14 (by kernel_rfl) rfl (by simp [hd, hρ.1.const]) ((eqBytes_yes _ _ (m.take n2) _ hd.1.rd (HRT.out.mono hR)).mono fun e w' ⟨h1, h2⟩ => ⟨_, h1, rfl, h2⟩)
          · exact opOk_val (v := .bool true) (w' := wv) (by simp [execOp, go_sem, hρ.1.const, hρ.1.func, hd]) ⟨rfl, GrR.refl _⟩
          · exact opOk_move (.inl rfl) ⟨by simp only [Is]; (first | exact hρ.2 122 rfl | exact hd | exact hd.1 | exact hd.2 | simp [hd]), GrR.refl _⟩
          · refine ⟨fun _ => ?_, fun hg => absurd (by simp [hd]) hg⟩; exact opOk_call hρ.1 rfl rfl Try.func11 (by kernel_rfl) rfl (by simp [hd, hρ.1.const]) ((works_any _).mono fun e w' ⟨h1, h2⟩ => ⟨_, h1, rfl, h2⟩)
          · exact opOk_val (v := .bool true) (w' := wv) (by simp [execOp, go_sem, hρ.1.const, hρ.1.func, hd]) ⟨rfl, GrR.refl _⟩
          · exact opOk_move (.inr rfl) ⟨by simp only [Is]; (first | exact hρ.2 125 rfl | exact hd | exact hd.1 | exact hd.2 | simp [hd]), GrR.refl _⟩
        · intro vals wv hR hall
          have hend := hall 15 (by simp)
          simp only [factAt, Is, List.getD_eq_getElem?_getD, List.getElem?_cons_succ, List.getElem?_cons_zero, Option.getD_some] at hend
          clear hall
          simp only [fillFrom, Act.put, hend, List.setIfInBounds_toArray, List.set_cons_zero, List.set_cons_succ]
          rename_i Kk hKk
          refine hKk _ _ ?_
          clear hKk Kk
          go_wp2
          go_ret
          exact ⟨rfl, gr_trans GZ.out hR⟩
    · have hbz : bs = [] := by rw [HBS.out]; exact Chk.bytes_big _ (by show 65531 < b.length; omega)
      subst hbz
      go_wp2_with fail
      refine (works_any _).mono ?_
      rintro e w5 ⟨rfl, hb5⟩
      go_wp2_with fail
      go_ret
      exact ⟨rfl, gr_trans G2.out hb5⟩
end Go.Proofs.Ytbjmakckljjbiaa

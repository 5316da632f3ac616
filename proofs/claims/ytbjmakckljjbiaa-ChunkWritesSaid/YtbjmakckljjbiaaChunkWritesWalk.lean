/- ChunkWrites: the walk of the law. Conditions: none but what the row reads. -/
import Derived.Test.YtbjmakckljjbiaaChunkWorks
import Derived.Test.YtbjmakckljjbiaaChunkRefR
import Derived.Test.YtbjmakckljjbiaaApart
namespace Go.Proofs.Ytbjmakckljjbiaa
open Go.RowKit Go.FL Go.ChangeShapes

theorem Roomed.chg {S : Nat → Prop} {w w' : World} {base : Nat} {v : Value} {l : List UInt8} (h : Roomed w base v l) (hb : Chg S w w') (hr : ∀ k, base ≤ k → k < w.heap.size → ¬ S k) : Roomed w' base v l := by
  obtain ⟨g, h1, h2, h3, h4⟩ := h
  exact ⟨g, h1, h2, h3.chg hb (hr g h1 h3.lt), h4⟩
theorem Roomed.base {w : World} {b b' : Nat} {v : Value} {l : List UInt8} (h : Roomed w b v l) (hb : b' ≤ b) : Roomed w b' v l := by
  obtain ⟨g, h1, h2, h3, h4⟩ := h
  exact ⟨g, Nat.le_trans hb h1, h2, h3, h4⟩

set_option maxRecDepth 100000 in
set_option maxHeartbeats 4000000 in
theorem chunkWrites_walk {w : World} {v : Value} (x : Chk) (hx : ChkAt w v x) :
    Calls Try.prog 3 #[v] w fun e w' => e = .returned (.bool true) ∧ Below w.heap.size w w' := by
  have HX := hid hx
  obtain ⟨s, rfl, hrd⟩ := hx
  have HV := hid hrd
  obtain ⟨p, cp, rfl, hlc, hcm, hpn, hcell⟩ := hrd
  unfold maxLen at hcm
  clear hcell
  obtain ⟨kk, ff, b⟩ := x
  simp only at *
  have hkb := byte_lt kk
  have hfb := byte_lt ff
  obtain ⟨W, hW⟩ : ∃ W, W = w.alloc (.cells #[.int .u8 (kk.toNat : Int), .int .u8 (ff.toNat : Int), .slice p b.length cp] 24 (0, 0)) := ⟨_, rfl⟩
  have hr : RowV W w.heap.size 24 [.int .u8 (kk.toNat : Int), .int .u8 (ff.toNat : Int), .slice p b.length cp] := by rw [hW]; exact RowV.new w 24 _
  have HW := hid (show Below w.heap.size w W by rw [hW]; exact (Below.refl _ _).alloc (Nat.le_refl _) _)
  have HE := hid hW
  have HR := hid hr
  clear hW hr
  by_cases hbig : 131072 < b.length
  · go_enter Try.func3, Try.ntmps3
    go_wp2_with fail
    rw [← HE.out]
    refine (large_yes _ ⟨kk, ff, b⟩ _ (HX.out.mono HW.out) hbig).mono ?_
    rintro e w1 ⟨rfl, hb1⟩
    go_wp2_with fail
    refine (works_any _).mono ?_
    rintro e w2 ⟨rfl, hb2⟩
    go_wp2_with fail
    go_ret
    exact ⟨rfl, gr_trans HW.out (gr_trans hb1 hb2)⟩
  · have hsm : b.length ≤ 131072 := by omega
    clear hbig
    obtain ⟨bs, hbs⟩ : ∃ bs, bs = (⟨kk, ff, b⟩ : Chk).bytes := ⟨_, rfl⟩
    have HBS := hid hbs
    clear hbs
    go_enter Try.func3, Try.ntmps3
    go_wp2_with fail
    rw [← HE.out]
    refine (large_no _ ⟨kk, ff, b⟩ _ (HX.out.mono HW.out) hsm).mono ?_
    rintro e w1 ⟨rfl, hb1⟩
    have G1 := hid (gr_trans HW.out hb1)
    have HR1 := hid (HR.out.mono hb1)
    obtain ⟨k0, k1, k2⟩ := HR1.out.three
    have nn0 := World.new_ne w1 _ k0
    clear hb1
    go_wp2_with fail
    have gal : Below w1.heap.size w1 (w1.alloc (.cells #[.int .u8 0, .int .u8 0, .slice none 0 0] 24 (0, 0))).drew := ((Below.refl w1.heap.size w1).alloc (Nat.le_refl _) (.cells #[.int .u8 0, .int .u8 0, .slice none 0 0] 24 (0, 0))).drew
    have KA0 := hid (cell?_of_below gal k0)
    have KA1 := hid (cell?_of_below gal k1)
    have KA2 := hid (cell?_of_below gal k2)
    have HCd := hid (show Rd w1.drew (.slice p b.length cp) b from (HV.out.mono G1.out).mono ((Below.refl _ _).drew))
    have HCa := hid (show Rd (w1.alloc (.cells #[.int .u8 0, .int .u8 0, .slice none 0 0] 24 (0, 0))).drew (.slice p b.length cp) b from (HV.out.mono G1.out).mono gal)
    have HZa := hid (show RowV (w1.alloc (.cells #[.int .u8 0, .int .u8 0, .slice none 0 0] 24 (0, 0))).drew w1.heap.size 24 [.int .u8 0, .int .u8 0, .slice none 0 0] from (RowV.new w1 24 _).drew)
    have GAL := hid gal
    clear gal
    have HPC := hid (show b.length ≤ 140737488355328 by omega)
    go_region_held3 (fun w' => w'.cell? ⟨w.heap.size, 0, none⟩ = some (.int .u8 (kk.toNat : Int)) ∧ w'.cell? ⟨w.heap.size, 1, none⟩ = some (.int .u8 (ff.toNat : Int)) ∧ w'.cell? ⟨w.heap.size, 2, none⟩ = some (.slice p b.length cp)) (go_keep) (first | ((with_reducible refine (roomy_any _ b _ HCd.out HPC.out).mono ?_); rintro e w2 ⟨v2, rfl, ho2, hb2⟩; have hro := ho2; obtain ⟨g2, hgb2, rfl, _, _⟩ := ho2; have s0 := cell?_of_below hb2 (show w1.drew.cell? ⟨w.heap.size, 0, none⟩ = _ from k0); have s1 := cell?_of_below hb2 (show w1.drew.cell? ⟨w.heap.size, 1, none⟩ = _ from k1); have s2 := cell?_of_below hb2 (show w1.drew.cell? ⟨w.heap.size, 2, none⟩ = _ from k2); have m0 := World.new_ne w2 _ s0) | ((with_reducible refine (roomy_any _ b _ HCa.out HPC.out).mono ?_); rintro e w2 ⟨v2, rfl, ho2, hb2⟩; have hro := ho2; obtain ⟨g2, hgb2, rfl, _, _⟩ := ho2; have hz2 := HZa.out.mono hb2; obtain ⟨q0, q1, q2⟩ := hz2.three; have f0 := hz2.frozen 0; have f1 := hz2.frozen 1; have f2 := hz2.frozen 2; have s0 := cell?_of_below hb2 KA0.out; have s1 := cell?_of_below hb2 KA1.out; have s2 := cell?_of_below hb2 KA2.out; have m0 := World.new_ne w2 _ s0))
    all_goals rename_i hHld
    all_goals clear hHld
    · have hbb := gr_trans ((Below.refl w1.heap.size w1).drew) hb2
      have HG8 := hid (gr_trans G1.out (hbb.alloc hbb.size (.cells #[.int .u8 (kk.toNat : Int), .int .u8 (ff.toNat : Int), .slice (some ⟨g2, 0, none⟩) b.length (b.length + 16)] 24 (0, 0))))
      have HO8 := hid (hro.mono ((Below.refl _ _).alloc (Nat.le_refl _) (.cells #[.int .u8 (kk.toNat : Int), .int .u8 (ff.toNat : Int), .slice (some ⟨g2, 0, none⟩) b.length (b.length + 16)] 24 (0, 0))))
      have HRW := hid (RowV.new w2 24 [.int .u8 (kk.toNat : Int), .int .u8 (ff.toNat : Int), .slice (some ⟨g2, 0, none⟩) b.length (b.length + 16)])
      have HR8 := hid ((HR1.out.mono hbb).alloc (.cells #[.int .u8 (kk.toNat : Int), .int .u8 (ff.toNat : Int), .slice (some ⟨g2, 0, none⟩) b.length (b.length + 16)] 24 (0, 0)))
      clear hb2 hro s0 s1 s2 m0 hbb k0 k1 k2 nn0
      obtain ⟨W8, hW8⟩ : ∃ W8, W8 = w2.alloc (.cells #[.int .u8 (kk.toNat : Int), .int .u8 (ff.toNat : Int), .slice (some ⟨g2, 0, none⟩) b.length (b.length + 16)] 24 (0, 0)) := ⟨_, rfl⟩
      rw [show (Obj.cells (List.toArray [Value.int .u8 (kk.toNat : Int), Value.int .u8 (ff.toNat : Int), Value.slice (some ⟨g2, 0, none⟩) b.length (b.length + 16)]) 24 (0, 0)) = .cells #[.int .u8 (kk.toNat : Int), .int .u8 (ff.toNat : Int), .slice (some ⟨g2, 0, none⟩) b.length (b.length + 16)] 24 (0, 0) from rfl] at HRW
      rw [← hW8] at HG8 HO8 HRW HR8 ⊢
      clear hW8
      generalize w2.heap.size = g8 at *
      obtain ⟨a0, a1, a2⟩ := HRW.out.three
      go_wp2_with fail
      refine (cwrite_all _ ⟨kk, ff, b⟩ _ ⟨_, rfl, HO8.out.rd⟩).mono ?_
      rw [← HBS.out]
      rintro e w3 ⟨v3, rfl, ho3, hb3⟩
      obtain ⟨p3, c3, rfl, _, _⟩ := ho3.shape
      have HO3 := hid ho3
      have G3 := hid hb3
      have HR3 := hid (HR8.out.mono hb3)
      clear ho3 hb3 a0 a1 a2
      obtain ⟨e0, e1, e2⟩ := HR3.out.three
      go_wp2_with fail
      refine (rwrite_any _ ⟨kk, ff, b⟩ _ ⟨_, rfl, HV.out.mono (gr_trans HG8.out G3.out)⟩ (by show b.length ≤ _; omega)).mono ?_
      rw [← HBS.out]
      rintro e w4 ⟨v4, rfl, ho4, hb4⟩
      have HO4 := hid ho4
      have G4 := hid hb4
      clear ho4 hb4 e0 e1 e2
      go_wp2_with fail
      refine (eqBytes_yes _ _ bs _ (HO3.out.mono G4.out).rd HO4.out.rd).mono ?_
      rintro e w5 ⟨rfl, hb5⟩
      have G35 := hid (gr_trans G4.out hb5)
      have G85 := hid (gr_trans G3.out G35.out)
      clear hb5
      obtain ⟨a0, a1, a2⟩ := (HRW.out.mono G85.out).three
      obtain ⟨e0, e1, e2⟩ := (HR8.out.mono G85.out).three
      go_wp2_with fail
      refine (kept_gr _ _ b _ _ (HO8.out.mono G85.out) (HV.out.mono (gr_trans HG8.out G85.out))).mono ?_
      rintro e w6 ⟨rfl, hb6⟩
      have G36 := hid (gr_trans G35.out hb6)
      have G86 := hid (gr_trans G3.out G36.out)
      clear hb6 a0 a1 a2 e0 e1 e2
      obtain ⟨a0, a1, a2⟩ := (HRW.out.mono G86.out).three
      go_wp2_with fail
      refine (cwrite_all _ ⟨kk, ff, b⟩ _ ⟨_, rfl, (HO8.out.mono G86.out).rd⟩).mono ?_
      rw [← HBS.out]
      rintro e w7 ⟨v7, rfl, ho7, hb7⟩
      obtain ⟨p7, c7, rfl, _, _⟩ := ho7.shape
      have HO7 := hid ho7
      have G37 := hid (gr_trans G36.out hb7)
      have G87 := hid (gr_trans G3.out G37.out)
      clear ho7 hb7 a0 a1 a2
      obtain ⟨a0, a1, a2⟩ := (HRW.out.mono G87.out).three
      have HL := hid (rdV_new w7 22 [.slice p3 bs.length c3, .slice p7 bs.length c7, .slice (some ⟨g2, 0, none⟩) b.length (b.length + 16)] 3 #[.slice p3 bs.length c3, .slice p7 bs.length c7, .slice (some ⟨g2, 0, none⟩) b.length (b.length + 16)] rfl rfl (by unfold maxLen; omega))
      have GA := hid (show Below w7.heap.size w7 (w7.alloc (.cells #[.slice p3 bs.length c3, .slice p7 bs.length c7, .slice (some ⟨g2, 0, none⟩) b.length (b.length + 16)] 22 (0, 0))) from (Below.refl _ _).alloc (Nat.le_refl _) _)
      go_wp2_with fail
      refine (apart3 HL.out HO8.out.own HO3.out HO7.out (gr_trans G87.out GA.out) (gr_trans G37.out GA.out) GA.out (Nat.le_refl _) G36.out.size G3.out.size).mono ?_
      rintro e w9 ⟨rfl, hb9⟩
      have G9 := hid (gr_trans GA.out hb9)
      clear hb9
      go_wp2_with fail
      refine (works_any _).mono ?_
      rintro e wA ⟨rfl, hbA⟩
      go_wp2_with fail
      go_ret
      exact ⟨rfl, gr_trans HG8.out (gr_trans G87.out (gr_trans G9.out hbA))⟩
    · have hbb := gr_trans GAL.out hb2
      have HG8 := hid (gr_trans G1.out (((hbb.setCell (p := ⟨w1.heap.size, 0, none⟩) (Nat.le_refl _) (.int .u8 (kk.toNat : Int))).setCell (p := ⟨w1.heap.size, 1, none⟩) (Nat.le_refl _) (.int .u8 (ff.toNat : Int))).setCell (p := ⟨w1.heap.size, 2, none⟩) (Nat.le_refl _) (.slice (some ⟨g2, 0, none⟩) b.length (b.length + 16))))
      have HO8 := hid (hro.chg ((((Chg.refl (· = w1.heap.size) w2).set ⟨w1.heap.size, 0, none⟩ (.int .u8 (kk.toNat : Int)) (.inl rfl)).set ⟨w1.heap.size, 1, none⟩ (.int .u8 (ff.toNat : Int)) (.inl rfl)).set ⟨w1.heap.size, 2, none⟩ (.slice (some ⟨g2, 0, none⟩) b.length (b.length + 16)) (.inl rfl)) (fun k hk _ he => by have h2 : (w1.alloc (.cells #[.int .u8 0, .int .u8 0, .slice none 0 0] 24 (0, 0))).drew.heap.size = w1.heap.size + 1 := (by show (w1.alloc _).heap.size = _; simp); omega))
      have HRW := hid (((hz2.store 0 (.int .u8 (kk.toNat : Int))).store 1 (.int .u8 (ff.toNat : Int))).store 2 (.slice (some ⟨g2, 0, none⟩) b.length (b.length + 16)))
      have hne : w1.heap.size ≠ w.heap.size := by have := HR1.out.lt; omega
      have HR8 := hid ((((HR1.out.mono hbb).other ⟨w1.heap.size, 0, none⟩ (.int .u8 (kk.toNat : Int)) hne).other ⟨w1.heap.size, 1, none⟩ (.int .u8 (ff.toNat : Int)) hne).other ⟨w1.heap.size, 2, none⟩ (.slice (some ⟨g2, 0, none⟩) b.length (b.length + 16)) hne)
      clear hb2 hro s0 s1 s2 m0 hbb hz2 q0 q1 q2 f0 f1 f2 hne HZa HCa KA0 KA1 KA2 k0 k1 k2 nn0
      simp only [List.set_cons_zero, List.set_cons_succ] at HRW
      obtain ⟨W8, hW8⟩ : ∃ W8, W8 = ((w2.setCell ⟨w1.heap.size, 0, none⟩ (.int .u8 (kk.toNat : Int))).setCell ⟨w1.heap.size, 1, none⟩ (.int .u8 (ff.toNat : Int))).setCell ⟨w1.heap.size, 2, none⟩ (.slice (some ⟨g2, 0, none⟩) b.length (b.length + 16)) := ⟨_, rfl⟩
      rw [← hW8] at HG8 HO8 HRW HR8 ⊢
      clear hW8
      generalize w1.heap.size = g8 at *
      obtain ⟨a0, a1, a2⟩ := HRW.out.three
      go_wp2_with fail
      refine (cwrite_all _ ⟨kk, ff, b⟩ _ ⟨_, rfl, HO8.out.rd⟩).mono ?_
      rw [← HBS.out]
      rintro e w3 ⟨v3, rfl, ho3, hb3⟩
      obtain ⟨p3, c3, rfl, _, _⟩ := ho3.shape
      have HO3 := hid ho3
      have G3 := hid hb3
      have HR3 := hid (HR8.out.mono hb3)
      clear ho3 hb3 a0 a1 a2
      obtain ⟨e0, e1, e2⟩ := HR3.out.three
      go_wp2_with fail
      refine (rwrite_any _ ⟨kk, ff, b⟩ _ ⟨_, rfl, HV.out.mono (gr_trans HG8.out G3.out)⟩ (by show b.length ≤ _; omega)).mono ?_
      rw [← HBS.out]
      rintro e w4 ⟨v4, rfl, ho4, hb4⟩
      have HO4 := hid ho4
      have G4 := hid hb4
      clear ho4 hb4 e0 e1 e2
      go_wp2_with fail
      refine (eqBytes_yes _ _ bs _ (HO3.out.mono G4.out).rd HO4.out.rd).mono ?_
      rintro e w5 ⟨rfl, hb5⟩
      have G35 := hid (gr_trans G4.out hb5)
      have G85 := hid (gr_trans G3.out G35.out)
      clear hb5
      obtain ⟨a0, a1, a2⟩ := (HRW.out.mono G85.out).three
      obtain ⟨e0, e1, e2⟩ := (HR8.out.mono G85.out).three
      go_wp2_with fail
      refine (kept_gr _ _ b _ _ (HO8.out.mono G85.out) (HV.out.mono (gr_trans HG8.out G85.out))).mono ?_
      rintro e w6 ⟨rfl, hb6⟩
      have G36 := hid (gr_trans G35.out hb6)
      have G86 := hid (gr_trans G3.out G36.out)
      clear hb6 a0 a1 a2 e0 e1 e2
      obtain ⟨a0, a1, a2⟩ := (HRW.out.mono G86.out).three
      go_wp2_with fail
      refine (cwrite_all _ ⟨kk, ff, b⟩ _ ⟨_, rfl, (HO8.out.mono G86.out).rd⟩).mono ?_
      rw [← HBS.out]
      rintro e w7 ⟨v7, rfl, ho7, hb7⟩
      obtain ⟨p7, c7, rfl, _, _⟩ := ho7.shape
      have HO7 := hid ho7
      have G37 := hid (gr_trans G36.out hb7)
      have G87 := hid (gr_trans G3.out G37.out)
      clear ho7 hb7 a0 a1 a2
      obtain ⟨a0, a1, a2⟩ := (HRW.out.mono G87.out).three
      have HL := hid (rdV_new w7 22 [.slice p3 bs.length c3, .slice p7 bs.length c7, .slice (some ⟨g2, 0, none⟩) b.length (b.length + 16)] 3 #[.slice p3 bs.length c3, .slice p7 bs.length c7, .slice (some ⟨g2, 0, none⟩) b.length (b.length + 16)] rfl rfl (by unfold maxLen; omega))
      have GA := hid (show Below w7.heap.size w7 (w7.alloc (.cells #[.slice p3 bs.length c3, .slice p7 bs.length c7, .slice (some ⟨g2, 0, none⟩) b.length (b.length + 16)] 22 (0, 0))) from (Below.refl _ _).alloc (Nat.le_refl _) _)
      go_wp2_with fail
      refine (apart3 HL.out HO8.out.own HO3.out HO7.out (gr_trans G87.out GA.out) (gr_trans G37.out GA.out) GA.out (Nat.le_refl _) G36.out.size G3.out.size).mono ?_
      rintro e w9 ⟨rfl, hb9⟩
      have G9 := hid (gr_trans GA.out hb9)
      clear hb9
      go_wp2_with fail
      refine (works_any _).mono ?_
      rintro e wA ⟨rfl, hbA⟩
      go_wp2_with fail
      go_ret
      exact ⟨rfl, gr_trans HG8.out (gr_trans G87.out (gr_trans G9.out hbA))⟩
end Go.Proofs.Ytbjmakckljjbiaa

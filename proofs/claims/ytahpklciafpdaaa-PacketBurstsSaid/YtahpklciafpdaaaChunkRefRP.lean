/- What the document's Read of chunks answers. Conditions: what comes in reads as bytes. -/
import Derived.Test.YtahpklciafpdaaaChunkRefP
import Derived.RegionTactic
import Derived.ChangeAlike
import Derived.Deep.RegionHeld3
set_option linter.unusedSimpArgs false
set_option linter.unusedVariables false
namespace Go.FL
open Go.RowKit
theorem Own.put3 {w : World} {base e e' g : Nat} {v : Value} {l : List UInt8} {r : List Value} (h : Own w base e v l) (a b c : Value) (hr : RowV w g e' r) (hg : ∀ k, v.ownBlock = some k → k ≠ g) : Own (((w.setCell ⟨g, 0, none⟩ a).setCell ⟨g, 1, none⟩ b).setCell ⟨g, 2, none⟩ c) base e v l :=
  h.chg ((((Chg.refl (· = g) w).set ⟨g, 0, none⟩ a (.inl rfl)).set ⟨g, 1, none⟩ b (.inl rfl)).set ⟨g, 2, none⟩ c (.inl rfl)) fun k hk he => hg k hk he
theorem numAt_chk (l : List UInt8) (h : 4 ≤ l.length) : numAt l 2 2 = chkLen l := by rw [numAt, if_pos (by omega), chkLen]
end Go.FL
namespace Go.Proofs.Ytahpklciafpdaaa
open Go.RowKit Go.FL

theorem rread_ret {a : Act} {W : World} {g : Nat} {R : Ending → World → Prop} (k f s : Value) (m er : Int) (h2 : a.tmps.getD 2 undef = .pointer (some ⟨g, 0, none⟩)) (h3 : a.tmps.getD 3 undef = .int .i64 m) (h4 : a.tmps.getD 4 undef = .int .i64 er) (hd : a.defers = [])
    (hc : RowV W g 41 [k, f, s]) (hR : R (.returned (.tuple #[.agg #[k, f, s], .int .i64 m, .int .i64 er])) W) : bodyPost Try.prog Try.f46 R .ret a W := by
  refine bodyPost_ret (v := .tuple #[.agg #[k, f, s], .int .i64 m, .int .i64 er]) ?_ hd hR
  have c0 : W.cell? ⟨g, 0, none⟩ = some k := hc.at 0 (by simp)
  have c1 : W.cell? ⟨g, 1, none⟩ = some f := hc.at 1 (by simp)
  have c2 : W.cell? ⟨g, 2, none⟩ = some s := hc.at 2 (by simp)
  simp only [Array.getD_eq_getD_getElem?] at h2 h3 h4
  simp [results, Try.results46, go_sem, h2, h3, h4, asAddr, c0, c1, c2]

set_option maxRecDepth 100000 in
set_option maxHeartbeats 4000000 in
theorem rread_any (v : Value) (l : List UInt8) (w : World) (hv : Rd w v l) (hs : l.length ≤ 1000000) :
    Calls Try.prog 46 #[v] w (TellsChk w 5 (chkTells l)) := by
  have HV := hid hv
  obtain ⟨p, c, rfl, hlc, hcm, hpn, hcell⟩ := hv
  unfold maxLen at hcm
  obtain ⟨W, hW⟩ : ∃ W, W = w.alloc (.cells #[.int .u8 0, .int .u8 0, .slice none 0 0] 41 (0, 0)) := ⟨_, rfl⟩
  have HR0 := hid (show RowV W w.heap.size 41 [.int .u8 0, .int .u8 0, .slice none 0 0] by rw [hW]; exact RowV.new w 41 _)
  have G0 := hid (show Below w.heap.size w W by rw [hW]; exact (Below.refl _ _).alloc (Nat.le_refl _) _)
  have HE := hid hW
  clear hW
  have hL := numAt_lt l 2 2
  obtain ⟨L, hLL⟩ : ∃ L, L = numAt l 2 2 := ⟨_, rfl⟩
  have HLL := hid hLL
  rw [← hLL] at hL
  clear hLL
  by_cases hbad : l.length < 4 ∨ L < 4 ∨ l.length < L
  · have HT := hid (show chkTells l = (Chk.zero, 0, 7) by
      rw [chkTells, if_neg]
      intro hok
      simp only [chkOk, decide_eq_true_eq] at hok
      have := numAt_chk l hok.1
      rw [← HLL.out] at this
      have := roundN_le (chkLen l)
      omega)
    have hcase : l.length < 4 ∨ (4 ≤ l.length ∧ L < 4) ∨ (4 ≤ l.length ∧ 4 ≤ L ∧ l.length < L) := by omega
    clear hbad hcell
    rcases hcase with h1 | ⟨h1, h2⟩ | ⟨h1, h2, h3⟩
    all_goals
      go_enter Try.func46, Try.ntmps46
      go_wp2_with fail
      rw [← HE.out]
      refine (refGet_at _ l 2 2 2 2 rfl rfl (by omega) _ (HV.out.mono G0.out) (by omega)).mono ?_
      rintro e w1 ⟨er, rfl, hb1, her⟩
      first | rw [if_neg (by omega)] at her | rw [if_pos (by omega)] at her
      subst her
      rw [← HLL.out]
      have hr1 := HR0.out.mono hb1
      obtain ⟨c0, c1, c2⟩ := hr1.three
      have y0 := hr1.frozen 0
      have y1 := hr1.frozen 1
      have y2 := hr1.frozen 2
      have HR1 := hid hr1
      have G1 := hid (gr_trans G0.out hb1)
      clear hr1 hb1
      go_wp2_with fail
      refine rread_ret (.int .u8 0) (.int .u8 0) (.slice none 0 0) 0 7 rfl rfl rfl rfl (((HR1.out.store 0 (.int .u8 0)).store 1 (.int .u8 0)).store 2 (.slice none 0 0)) ⟨.slice none 0 0, by rw [HT.out]; rfl, by rw [HT.out]; exact Own.nil _ _ _, ?_⟩
      exact ((G1.out.setCell (by simp) _).setCell (by simp) _).setCell (by simp) _
  · have h4 : 4 ≤ l.length := by omega
    have hL4 : 4 ≤ L := by omega
    have hLl : L ≤ l.length := by omega
    clear hbad
    obtain ⟨b0, off, rfl, k0⟩ := hcell 0 (by omega)
    obtain ⟨b1, off1, e1, k1⟩ := hcell 1 (by omega)
    simp only [Option.some.injEq, Addr.mk.injEq, and_true] at e1
    obtain ⟨rfl, rfl⟩ := e1
    rw [show l[0]'(by omega) = l.getD 0 0 by simp [List.getD, show 0 < l.length by omega]] at k0
    rw [show l[1]'(by omega) = l.getD 1 0 by simp [List.getD, show 1 < l.length by omega]] at k1
    rw [Nat.add_zero] at k0
    have HCL := hid (numAt_chk l h4)
    have HCF := hid (show chkOf l = ⟨l.getD 0 0, l.getD 1 0, (l.drop 4).take (L - 4)⟩ by rw [chkOf, ← HCL.out, ← HLL.out])
    have hb0 := byte_lt (l.getD 0 0)
    have hb1 := byte_lt (l.getD 1 0)
    generalize l.getD 0 0 = kk at *
    generalize l.getD 1 0 = ff at *
    have hcut := HV.out.cut 4 L hL4 hLl
    obtain ⟨p3, c3, hs3⟩ : ∃ p3 c3, sliced (some ⟨b0, off, none⟩) 4 L c 1 = .slice p3 (L - 4) c3 := ⟨_, _, rfl⟩
    have hsl : ∀ wx, (Instr.slice 29 (.slice (some ⟨b0, off, none⟩) l.length c) (some (.int .i64 4)) (some (.int .i64 (L : Int))) none).run Try.prog wx = .ok (.slice p3 (L - 4) c3) wx := fun wx => by
      rw [← hs3]
      have hq : (Try.prog.info? 5).map (·.size) = some 1 := by kernel_rfl
      cases hi : Try.prog.info? 5 with
      | none => simp [hi] at hq
      | some inf =>
        have hs : inf.size = 1 := by simpa [hi] using hq
        simp [Instr.slice, run_underlying Try.underlying29, Instr.sliceBounds, run_sliceBound, sizeOf, typeInfo, hi, hs, sliced, show (4 : Int) ≤ (L : Int) by omega, hL4, show L ≤ c by omega]
    rw [hs3] at hcut
    have HCUT := hid hcut
    clear hs3 hcut hcell
    obtain ⟨pc, hpc⟩ : ∃ pc, pc = (l.drop 4).take (L - 4) := ⟨_, rfl⟩
    have hpl : pc.length = L - 4 := by rw [hpc]; simp; omega
    rw [← hpc] at HCUT HCF
    have HPL := hid hpl
    clear hpc hpl
    obtain ⟨BY, hBY⟩ : ∃ BY, BY = (⟨kk, ff, pc⟩ : Chk).bytes := ⟨_, rfl⟩
    have HBY := hid hBY
    clear hBY
    have HOK := hid (show chkOk l = true ↔ BY.length ≤ l.length ∧ BY = l.take BY.length by
      have := chkOk_ref l h4 (by rw [← HCL.out, ← HLL.out]; exact hL4) (by rw [← HCL.out, ← HLL.out]; exact hLl)
      rw [HCF.out, ← HBY.out] at this
      exact this)
    go_enter Try.func46, Try.ntmps46
    go_wp2_with fail
    rw [← HE.out]
    refine (refGet_at _ l 2 2 2 2 rfl rfl (by omega) _ (HV.out.mono G0.out) (by omega)).mono ?_
    rintro e w1 ⟨er, rfl, hbb1, her⟩
    rw [if_pos (by omega)] at her
    subst her
    rw [← HLL.out]
    have HR1 := hid (HR0.out.mono hbb1)
    have G1 := hid (gr_trans G0.out hbb1)
    have k0 := cell?_of_below G1.out k0
    have k1 := cell?_of_below G1.out k1
    have HC1 := hid (HCUT.out.mono G1.out)
    have nn0 := World.new_ne w1 _ k0
    have nn1 := World.new_ne w1 _ k1
    clear hbb1
    go_wp2_with fail
    have j0 : (0 : Int) < (l.length : Int) := by omega
    have j1 : (1 : Int) < (l.length : Int) := by omega
    have n0 : 0 < l.length := by omega
    have n1 : 1 < l.length := by omega
    have gal : Below w1.heap.size w1 (w1.alloc (.cells #[.int .u8 0, .int .u8 0, .slice none 0 0] 41 (0, 0))).drew := ((Below.refl w1.heap.size w1).alloc (Nat.le_refl _) (.cells #[.int .u8 0, .int .u8 0, .slice none 0 0] 41 (0, 0))).drew
    have ka0 := cell?_of_below gal k0
    have ka1 := cell?_of_below gal k1
    have KA0 := hid ka0
    have KA1 := hid ka1
    clear ka0 ka1
    have HCd := hid (show Rd w1.drew (.slice p3 (L - 4) c3) pc from HC1.out.mono ((Below.refl _ _).drew))
    have HCa := hid (show Rd (w1.alloc (.cells #[.int .u8 0, .int .u8 0, .slice none 0 0] 41 (0, 0))).drew (.slice p3 (L - 4) c3) pc from HC1.out.mono gal)
    have HZa := hid (show RowV (w1.alloc (.cells #[.int .u8 0, .int .u8 0, .slice none 0 0] 41 (0, 0))).drew w1.heap.size 41 [.int .u8 0, .int .u8 0, .slice none 0 0] from (RowV.new w1 41 _).drew)
    have GAL := hid gal
    clear gal
    have HPC := hid (show pc.length ≤ 281474976710656 by have := HPL.out; omega)
    go_region_held3 (fun w' => w'.cell? ⟨b0, off, none⟩ = some (.int .u8 (kk.toNat : Int)) ∧ w'.cell? ⟨b0, off + 1, none⟩ = some (.int .u8 (ff.toNat : Int))) (go_keep) (first | ((with_reducible refine (copyBytes_any _ pc _ HCd.out HPC.out).mono ?_); rintro e w2 ⟨v2, rfl, ho2, hb2⟩; obtain ⟨z2, cc2, rfl⟩ := RdF.form ho2.rd; have s0 := cell?_of_below hb2 (show w1.drew.cell? ⟨b0, off, none⟩ = _ from k0); have s1 := cell?_of_below hb2 (show w1.drew.cell? ⟨b0, off + 1, none⟩ = _ from k1); have m0 := World.new_ne w2 _ s0; have m1 := World.new_ne w2 _ s1) | ((with_reducible refine (copyBytes_any _ pc _ HCa.out HPC.out).mono ?_); rintro e w2 ⟨v2, rfl, ho2, hb2⟩; obtain ⟨z2, cc2, rfl⟩ := RdF.form ho2.rd; have hz2 := HZa.out.mono hb2; obtain ⟨q0, q1, q2⟩ := hz2.three; have f0 := hz2.frozen 0; have f1 := hz2.frozen 1; have f2 := hz2.frozen 2; have s0 := cell?_of_below hb2 KA0.out; have s1 := cell?_of_below hb2 KA1.out; have m0 := World.new_ne w2 _ s0; have m1 := World.new_ne w2 _ s1))
    all_goals rename_i hHld
    all_goals clear hHld
    · have hbb := gr_trans ((Below.refl w1.heap.size w1).drew) hb2
      have HNE := hid (show ∀ k, (Value.slice z2 pc.length cc2).ownBlock = some k → k ≠ w.heap.size from fun k hk => by have h1 := ho2.ge k hk; have h2 : w1.heap.size ≤ k := h1; have := HR1.out.lt; omega)
      have HG8 := hid (gr_trans G1.out (hbb.alloc hbb.size (.cells #[.int .u8 (kk.toNat : Int), .int .u8 (ff.toNat : Int), .slice z2 pc.length cc2] 41 (0, 0))))
      have HO8 := hid ((ho2.alloc (.cells #[.int .u8 (kk.toNat : Int), .int .u8 (ff.toNat : Int), .slice z2 pc.length cc2] 41 (0, 0))).base (show w.heap.size ≤ w1.drew.heap.size from G1.out.size))
      have HRW := hid (RowV.new w2 41 [.int .u8 (kk.toNat : Int), .int .u8 (ff.toNat : Int), .slice z2 pc.length cc2])
      have HR8 := hid ((HR1.out.mono hbb).alloc (.cells #[.int .u8 (kk.toNat : Int), .int .u8 (ff.toNat : Int), .slice z2 pc.length cc2] 41 (0, 0)))
      clear hb2 ho2 s0 s1 m0 m1 hbb
      obtain ⟨W8, hW8⟩ : ∃ W8, W8 = w2.alloc (.cells #[.int .u8 (kk.toNat : Int), .int .u8 (ff.toNat : Int), .slice z2 pc.length cc2] 41 (0, 0)) := ⟨_, rfl⟩
      have HE8 := hid hW8
      rw [show (Obj.cells (List.toArray [Value.int .u8 (kk.toNat : Int), Value.int .u8 (ff.toNat : Int), Value.slice z2 pc.length cc2]) 41 (0, 0)) = .cells #[.int .u8 (kk.toNat : Int), .int .u8 (ff.toNat : Int), .slice z2 pc.length cc2] 41 (0, 0) from rfl] at HRW
      rw [← hW8] at HG8 HO8 HRW HR8 ⊢
      clear hW8 HE8
      generalize w2.heap.size = g8 at *
      obtain ⟨d0, d1, d2⟩ := HRW.out.three
      go_wp2_with fail
      refine (rwrite_any _ ⟨kk, ff, pc⟩ _ ⟨_, rfl, HO8.out.rd⟩ (by show pc.length ≤ _; have := HPL.out; omega)).mono ?_
      rintro e w9 ⟨v9, rfl, ho9, hb9⟩
      rw [← HBY.out] at ho9
      obtain ⟨z9, c9, rfl, hlc9, hcm9⟩ := ho9.shape
      have HG9 := hid (gr_trans HG8.out hb9)
      have HR9 := hid (HR8.out.mono hb9)
      have HRW9 := hid (HRW.out.mono hb9)
      have HO9 := hid (HO8.out.mono hb9)
      have HB9 := hid ho9.rd
      clear hb9 ho9 hlc9 hcm9 d0 d1 d2
      by_cases hbig : l.length < BY.length
      · have HT := hid (show chkTells l = (Chk.zero, 0, 7) by rw [chkTells, if_neg (by rw [HOK.out]; rintro ⟨h1, _⟩; omega)])
        have jb : (l.length : Int) < (BY.length : Int) := by omega
        obtain ⟨c0, c1, c2⟩ := HR9.out.three
        have y0 := HR9.out.frozen 0
        have y1 := HR9.out.frozen 1
        have y2 := HR9.out.frozen 2
        go_wp2_with fail
        refine rread_ret (.int .u8 0) (.int .u8 0) (.slice none 0 0) 0 7 rfl rfl rfl rfl (((HR9.out.store 0 (.int .u8 0)).store 1 (.int .u8 0)).store 2 (.slice none 0 0)) ⟨.slice none 0 0, by rw [HT.out]; rfl, by rw [HT.out]; exact Own.nil _ _ _, ?_⟩
        exact ((HG9.out.setCell (by simp) _).setCell (by simp) _).setCell (by simp) _
      · have jb : ¬ (l.length : Int) < (BY.length : Int) := by omega
        have hsl2 : ∀ wx, (Instr.slice 29 (.slice (some ⟨b0, off, none⟩) l.length c) none (some (.int .i64 (BY.length : Int))) none).run Try.prog wx = .ok (.slice (some ⟨b0, off, none⟩) BY.length c) wx := fun wx => run_slice_to (P := Try.prog) 29 5 Try.underlying29 (some ⟨b0, off, none⟩) l.length c BY.length (by omega) (by omega) .i64 (by kernel_rfl) wx
        have HTK := hid ((HV.out.take BY.length (by omega)).mono HG9.out)
        have HBL := hid hbig
        clear hbig
        go_wp2_with fail
        refine (eqBytes_gr _ _ BY (l.take BY.length) _ HB9.out HTK.out).mono ?_
        rintro e wa ⟨rfl, hba⟩
        have HGa := hid (gr_trans HG9.out hba)
        have HRa := hid (HR9.out.mono hba)
        have HRWa := hid (HRW9.out.mono hba)
        have HOa := hid (HO9.out.mono hba)
        clear hba
        obtain ⟨c0, c1, c2⟩ := HRa.out.three
        have y0 := HRa.out.frozen 0
        have y1 := HRa.out.frozen 1
        have y2 := HRa.out.frozen 2
        by_cases hq : BY = l.take BY.length
        · rw [decide_eq_true hq]
          have HQ := hid hq
          clear hq
          have HT := hid (show chkTells l = (⟨kk, ff, pc⟩, BY.length, 0) by
            have hok : chkOk l = true := HOK.out.2 ⟨by have := HBL.out; omega, HQ.out⟩
            obtain ⟨e1, e2, _⟩ := chkOk_bytes l hok
            rw [HCF.out, ← HBY.out] at e1
            rw [chkTells, if_pos hok, HCF.out, e1, List.length_take, Nat.min_eq_left e2])
          obtain ⟨d0, d1, d2⟩ := HRWa.out.three
          go_wp2_with fail
          refine rread_ret (.int .u8 (kk.toNat : Int)) (.int .u8 (ff.toNat : Int)) (.slice z2 pc.length cc2) (BY.length : Int) 0 rfl rfl rfl rfl (((HRa.out.store 0 (.int .u8 (kk.toNat : Int))).store 1 (.int .u8 (ff.toNat : Int))).store 2 (.slice z2 pc.length cc2)) ⟨.slice z2 pc.length cc2, by rw [HT.out], by rw [HT.out]; exact HOa.out.put3 _ _ _ HRa.out HNE.out, ?_⟩
          exact ((HGa.out.setCell (by simp) _).setCell (by simp) _).setCell (by simp) _
        · rw [decide_eq_false hq]
          have HT := hid (show chkTells l = (Chk.zero, 0, 7) by rw [chkTells, if_neg (by rw [HOK.out]; rintro ⟨_, h1⟩; exact hq h1)])
          clear hq
          go_wp2_with fail
          refine rread_ret (.int .u8 0) (.int .u8 0) (.slice none 0 0) 0 7 rfl rfl rfl rfl (((HRa.out.store 0 (.int .u8 0)).store 1 (.int .u8 0)).store 2 (.slice none 0 0)) ⟨.slice none 0 0, by rw [HT.out]; rfl, by rw [HT.out]; exact Own.nil _ _ _, ?_⟩
          exact ((HGa.out.setCell (by simp) _).setCell (by simp) _).setCell (by simp) _
    · have hbb := gr_trans GAL.out hb2
      have HNE := hid (show ∀ k, (Value.slice z2 pc.length cc2).ownBlock = some k → k ≠ w.heap.size from fun k hk => by have h1 := ho2.ge k hk; have h2 := GAL.out.size; have := HR1.out.lt; omega)
      have HG8 := hid (gr_trans G1.out (((hbb.setCell (p := ⟨w1.heap.size, 0, none⟩) (Nat.le_refl _) (.int .u8 (kk.toNat : Int))).setCell (p := ⟨w1.heap.size, 1, none⟩) (Nat.le_refl _) (.int .u8 (ff.toNat : Int))).setCell (p := ⟨w1.heap.size, 2, none⟩) (Nat.le_refl _) (.slice z2 pc.length cc2)))
      have HO8 := hid ((ho2.chg ((((Chg.refl (· = w1.heap.size) w2).set ⟨w1.heap.size, 0, none⟩ (.int .u8 (kk.toNat : Int)) (.inl rfl)).set ⟨w1.heap.size, 1, none⟩ (.int .u8 (ff.toNat : Int)) (.inl rfl)).set ⟨w1.heap.size, 2, none⟩ (.slice z2 pc.length cc2) (.inl rfl)) (fun k hk he => by have h1 := ho2.ge k hk; have h2 : (w1.alloc (.cells #[.int .u8 0, .int .u8 0, .slice none 0 0] 41 (0, 0))).drew.heap.size = w1.heap.size + 1 := (by show (w1.alloc _).heap.size = _; simp); omega)).base (Nat.le_trans G1.out.size GAL.out.size))
      have HRW := hid (((hz2.store 0 (.int .u8 (kk.toNat : Int))).store 1 (.int .u8 (ff.toNat : Int))).store 2 (.slice z2 pc.length cc2))
      have hne : w1.heap.size ≠ w.heap.size := by have := HR1.out.lt; omega
      have HR8 := hid ((((HR1.out.mono hbb).other ⟨w1.heap.size, 0, none⟩ (.int .u8 (kk.toNat : Int)) hne).other ⟨w1.heap.size, 1, none⟩ (.int .u8 (ff.toNat : Int)) hne).other ⟨w1.heap.size, 2, none⟩ (.slice z2 pc.length cc2) hne)
      clear hb2 ho2 s0 s1 m0 m1 hbb hz2 q0 q1 q2 f0 f1 f2 hne HZa HCa KA0 KA1
      simp only [List.set_cons_zero, List.set_cons_succ] at HRW
      obtain ⟨W8, hW8⟩ : ∃ W8, W8 = ((w2.setCell ⟨w1.heap.size, 0, none⟩ (.int .u8 (kk.toNat : Int))).setCell ⟨w1.heap.size, 1, none⟩ (.int .u8 (ff.toNat : Int))).setCell ⟨w1.heap.size, 2, none⟩ (.slice z2 pc.length cc2) := ⟨_, rfl⟩
      rw [← hW8] at HG8 HO8 HRW HR8 ⊢
      clear hW8
      generalize w1.heap.size = g8 at *
      obtain ⟨d0, d1, d2⟩ := HRW.out.three
      go_wp2_with fail
      refine (rwrite_any _ ⟨kk, ff, pc⟩ _ ⟨_, rfl, HO8.out.rd⟩ (by show pc.length ≤ _; have := HPL.out; omega)).mono ?_
      rintro e w9 ⟨v9, rfl, ho9, hb9⟩
      rw [← HBY.out] at ho9
      obtain ⟨z9, c9, rfl, hlc9, hcm9⟩ := ho9.shape
      have HG9 := hid (gr_trans HG8.out hb9)
      have HR9 := hid (HR8.out.mono hb9)
      have HRW9 := hid (HRW.out.mono hb9)
      have HO9 := hid (HO8.out.mono hb9)
      have HB9 := hid ho9.rd
      clear hb9 ho9 hlc9 hcm9 d0 d1 d2
      by_cases hbig : l.length < BY.length
      · have HT := hid (show chkTells l = (Chk.zero, 0, 7) by rw [chkTells, if_neg (by rw [HOK.out]; rintro ⟨h1, _⟩; omega)])
        have jb : (l.length : Int) < (BY.length : Int) := by omega
        obtain ⟨c0, c1, c2⟩ := HR9.out.three
        have y0 := HR9.out.frozen 0
        have y1 := HR9.out.frozen 1
        have y2 := HR9.out.frozen 2
        go_wp2_with fail
        refine rread_ret (.int .u8 0) (.int .u8 0) (.slice none 0 0) 0 7 rfl rfl rfl rfl (((HR9.out.store 0 (.int .u8 0)).store 1 (.int .u8 0)).store 2 (.slice none 0 0)) ⟨.slice none 0 0, by rw [HT.out]; rfl, by rw [HT.out]; exact Own.nil _ _ _, ?_⟩
        exact ((HG9.out.setCell (by simp) _).setCell (by simp) _).setCell (by simp) _
      · have jb : ¬ (l.length : Int) < (BY.length : Int) := by omega
        have hsl2 : ∀ wx, (Instr.slice 29 (.slice (some ⟨b0, off, none⟩) l.length c) none (some (.int .i64 (BY.length : Int))) none).run Try.prog wx = .ok (.slice (some ⟨b0, off, none⟩) BY.length c) wx := fun wx => run_slice_to (P := Try.prog) 29 5 Try.underlying29 (some ⟨b0, off, none⟩) l.length c BY.length (by omega) (by omega) .i64 (by kernel_rfl) wx
        have HTK := hid ((HV.out.take BY.length (by omega)).mono HG9.out)
        have HBL := hid hbig
        clear hbig
        go_wp2_with fail
        refine (eqBytes_gr _ _ BY (l.take BY.length) _ HB9.out HTK.out).mono ?_
        rintro e wa ⟨rfl, hba⟩
        have HGa := hid (gr_trans HG9.out hba)
        have HRa := hid (HR9.out.mono hba)
        have HRWa := hid (HRW9.out.mono hba)
        have HOa := hid (HO9.out.mono hba)
        clear hba
        obtain ⟨c0, c1, c2⟩ := HRa.out.three
        have y0 := HRa.out.frozen 0
        have y1 := HRa.out.frozen 1
        have y2 := HRa.out.frozen 2
        by_cases hq : BY = l.take BY.length
        · rw [decide_eq_true hq]
          have HQ := hid hq
          clear hq
          have HT := hid (show chkTells l = (⟨kk, ff, pc⟩, BY.length, 0) by
            have hok : chkOk l = true := HOK.out.2 ⟨by have := HBL.out; omega, HQ.out⟩
            obtain ⟨e1, e2, _⟩ := chkOk_bytes l hok
            rw [HCF.out, ← HBY.out] at e1
            rw [chkTells, if_pos hok, HCF.out, e1, List.length_take, Nat.min_eq_left e2])
          obtain ⟨d0, d1, d2⟩ := HRWa.out.three
          go_wp2_with fail
          refine rread_ret (.int .u8 (kk.toNat : Int)) (.int .u8 (ff.toNat : Int)) (.slice z2 pc.length cc2) (BY.length : Int) 0 rfl rfl rfl rfl (((HRa.out.store 0 (.int .u8 (kk.toNat : Int))).store 1 (.int .u8 (ff.toNat : Int))).store 2 (.slice z2 pc.length cc2)) ⟨.slice z2 pc.length cc2, by rw [HT.out], by rw [HT.out]; exact HOa.out.put3 _ _ _ HRa.out HNE.out, ?_⟩
          exact ((HGa.out.setCell (by simp) _).setCell (by simp) _).setCell (by simp) _
        · rw [decide_eq_false hq]
          have HT := hid (show chkTells l = (Chk.zero, 0, 7) by rw [chkTells, if_neg (by rw [HOK.out]; rintro ⟨_, h1⟩; exact hq h1)])
          clear hq
          go_wp2_with fail
          refine rread_ret (.int .u8 0) (.int .u8 0) (.slice none 0 0) 0 7 rfl rfl rfl rfl (((HRa.out.store 0 (.int .u8 0)).store 1 (.int .u8 0)).store 2 (.slice none 0 0)) ⟨.slice none 0 0, by rw [HT.out]; rfl, by rw [HT.out]; exact Own.nil _ _ _, ?_⟩
          exact ((HGa.out.setCell (by simp) _).setCell (by simp) _).setCell (by simp) _
end Go.Proofs.Ytahpklciafpdaaa

/- The document's PutForward and PutSack. Conditions: what comes in reads as it should. -/
import Derived.Test.YtfiblhdejglpaaaPutsB
import Derived.Test.YtfiblhdejglpaaaBodRefPuts
namespace Go.Proofs.Ytfiblhdejglpaaa
open Go.RowKit Go.FL Go.ChangeShapes

theorem rputFwd_ret {a : Act} {W : World} {g : Nat} {R : Ending → World → Prop} (v0 v1 v2 : Value) (h2 : a.tmps.getD 2 undef = .pointer (some ⟨g, 0, none⟩)) (hd : a.defers = [])
    (hc : RowV W g 28 [v0, v1, v2]) (hR : R (.returned (.agg #[v0, v1, v2])) W) : bodyPost Try.prog Try.f32 R .ret a W := by
  refine bodyPost_ret (v := .agg #[v0, v1, v2]) ?_ hd hR
  obtain ⟨c0, c1, c2⟩ := RowV.three hc
  simp only [Array.getD_eq_getD_getElem?] at h2
  simp [results, Try.results32, go_sem, h2, asAddr, c0, c1, c2]
theorem rputSack_ret {a : Act} {W : World} {g : Nat} {R : Ending → World → Prop} (v0 v1 v2 : Value) (h2 : a.tmps.getD 2 undef = .pointer (some ⟨g, 0, none⟩)) (hd : a.defers = [])
    (hc : RowV W g 28 [v0, v1, v2]) (hR : R (.returned (.agg #[v0, v1, v2])) W) : bodyPost Try.prog Try.f27 R .ret a W := by
  refine bodyPost_ret (v := .agg #[v0, v1, v2]) ?_ hd hR
  obtain ⟨c0, c1, c2⟩ := RowV.three hc
  simp only [Array.getD_eq_getD_getElem?] at h2
  simp [results, Try.results27, go_sem, h2, asAddr, c0, c1, c2]

set_option maxRecDepth 100000 in
set_option maxHeartbeats 4000000 in
theorem rputFwd_any (v : Value) (d : FwdD) (hw : d.wf) (w : World) (h : FwdAt w v d) (hl : d.skips.length ≤ 1000000) :
    Calls Try.prog 32 #[v] w (RetChk w 5 d.chk) := by
  obtain ⟨s, rfl, hrd⟩ := h
  have HV := hid hrd
  obtain ⟨p, c, rfl, hlc, hcm, hpn, hcell⟩ := hrd
  unfold maxLen at hcm
  clear hcell
  show Calls _ _ _ _ (RetChk w 5 ⟨192, 0, beBytes 4 d.cum ++ gapsBytes d.skips⟩)
  obtain ⟨hcu, hpw⟩ := hw
  have HPW := hid hpw
  obtain ⟨cum, l⟩ := d
  simp only at *
  clear hpw
  have hw1 := wrap64_nat cum (by omega)
  obtain ⟨n, hn⟩ : ∃ n, n = l.length := ⟨_, rfl⟩
  have HNG := hid hn
  rw [← hn] at hl hlc ⊢
  clear hn
  obtain ⟨W0, hW0⟩ : ∃ W0, W0 = w.alloc (.cells #[.int .u32 (cum : Int), .slice p n c] 49 (0, 0)) := ⟨_, rfl⟩
  have hs0 : W0.heap.size = w.heap.size + 1 := by rw [hW0]; simp
  obtain ⟨W, hW⟩ : ∃ W, W = W0.alloc (.cells #[.int .u8 0, .int .u8 0, .slice none 0 0] 28 (0, 0)) := ⟨_, rfl⟩
  have hs1 : W.heap.size = w.heap.size + 2 := by rw [hW]; simp [hs0]
  have HR0 := hid (show RowV W w.heap.size 49 [.int .u32 (cum : Int), .slice p n c] by rw [hW, hW0]; exact (RowV.new w 49 _).alloc _)
  have HQ0 := hid (show RowV W (w.heap.size + 1) 28 [.int .u8 0, .int .u8 0, .slice none 0 0] by rw [hW, ← hs0]; exact RowV.new W0 28 _)
  have G0 := hid (show Below w.heap.size w W by rw [hW, hW0]; exact ((Below.refl _ _).alloc (Nat.le_refl _) _).alloc (by simp) _)
  have k0 := HR0.out.at 0 (by simp)
  simp only [List.getElem_cons_succ, List.getElem_cons_zero] at k0
  rw [hW0] at hW
  have HE := hid hW
  rw [hW] at k0
  clear hW hW0 hs0
  go_enter Try.func32, Try.ntmps32
  go_wp2_with fail
  rw [← HE.out]
  refine (refPut_at _ [] cum 4 _ _ rfl rfl (by omega) _ (Rd.nil _) (by simp) (by omega)).mono ?_
  rintro e w1 ⟨v1, rfl, ho1, hb1⟩
  obtain ⟨b1, hB1⟩ : ∃ l, l = [] ++ beBytes 4 (cum) := ⟨_, rfl⟩
  have HB1 := hid hB1
  have HL1 := hid (show b1.length = 4 by rw [hB1, List.length_append, beBytes_length]; rfl)
  rw [← hB1] at ho1
  obtain ⟨p1, c1, rfl, -, -, -, -⟩ := ho1.rd
  have HO1 := hid ho1
  have HR1 := hid (HR0.out.mono hb1)
  have HQ1 := hid (HQ0.out.mono hb1)
  have G1 := hid (gr_trans G0.out hb1)
  have hsz1 := hb1.size
  rw [HL1.out] at HO1 ⊢
  clear ho1 hb1 hB1
  have k1 := HR1.out.at 1 (by simp)
  simp only [List.getElem_cons_succ, List.getElem_cons_zero] at k1
  go_wp2_with fail
  have HLB := hid HL1.out
  clear k0 k1
  go_loopw [3, 4] (fun o y wr => ∃ (j : Nat) (z : Option Addr) (cc : Nat), j ≤ n ∧ y = .int .i64 (j : Int) ∧ o = .slice z (4 + 4 * j) cc ∧ Hid (Own wr W.heap.size 5 o (b1 ++ gapsBytes (l.take j))) ∧ Hid (Below w1.heap.size w1 wr)) (fun _ y _ => n - (intOf y).toNat)
  case atStart => exact ⟨0, _, _, Nat.zero_le _, rfl, rfl, hid (by simpa [gapsBytes] using HO1.out), hid (Below.refl _ _)⟩
  case round =>
    obtain ⟨j, z, cc, hj, rfl, rfl, HO, HB⟩ := hrel
    have HRr := hid (HR1.out.mono HB.out)
    have kk := HRr.out.at 1 (by simp)
    simp only [List.getElem_cons_succ, List.getElem_cons_zero] at kk
    by_cases hlt : j < n
    · have HVr := hid (HV.out.mono (gr_trans G1.out HB.out))
      obtain ⟨pp, ccc, hpe, -, -, -, hcel⟩ := HVr.out
      simp only [Value.slice.injEq] at hpe
      obtain ⟨rfl, -, rfl⟩ := hpe
      have hltl : j < l.length := by rw [← HNG.out]; exact hlt
      obtain ⟨bb, off, rfl, d0, d1⟩ := hcel j hltl
      obtain ⟨n1, n2⟩ := HPW.out _ (List.getElem_mem hltl)
      have HST := hid (gaps_step l j hltl)
      obtain ⟨bj, hbj⟩ : ∃ x, x = b1 ++ gapsBytes (l.take j) := ⟨_, rfl⟩
      have HBJ := hid hbj
      have HLJ := hid (show bj.length = 4 + 4 * j by rw [hbj, List.length_append, gapsBytes_length, List.length_take, Nat.min_eq_left (by omega), HLB.out])
      have HLK := hid (show (b1 ++ gapsBytes (l.take (j + 1))).length = 4 + 4 * (j + 1) by rw [List.length_append, gapsBytes_length, List.length_take, Nat.min_eq_left (by omega), HLB.out])
      rw [← hbj] at HO
      generalize l[j] = gj at *
      obtain ⟨ga, gb⟩ := gj
      simp only at d0 d1 n1 n2 HST
      have hwa := wrap64_nat ga (by omega)
      have hwb := wrap64_nat gb (by omega)
      have i0 : (0 : Int) ≤ (j : Int) := by omega
      have i1 : (j : Int) < (n : Int) := by omega
      have i2 : ((j : Int)).toNat = j := by omega
      have D1 := hid d1
      clear hcel hltl hbj
      go_wp2_with fail
      refine (refPut_at _ bj ga 2 _ _ rfl rfl (by omega) _ HO.out.rd (by rw [HLJ.out]; omega) (by omega)).mono ?_
      rintro e wx ⟨vx, rfl, hox, hbx⟩
      obtain ⟨bx, hbx2⟩ : ∃ x, x = bj ++ beBytes 2 ga := ⟨_, rfl⟩
      have HBX := hid hbx2
      have HLX := hid (show bx.length = 4 + 4 * j + 2 by rw [hbx2, List.length_append, HLJ.out, beBytes_length])
      rw [← hbx2] at hox
      have HOX := hid hox
      obtain ⟨px, cx, rfl, -, -, -, -⟩ := hox.rd
      have HRx := hid (HRr.out.mono hbx)
      have HBx := hid (gr_trans HB.out hbx)
      have hszx := hbx.size
      have e1 := cell?_of_below hbx D1.out
      have kx := HRx.out.at 1 (by simp)
      simp only [List.getElem_cons_succ, List.getElem_cons_zero] at kx
      rw [HLX.out] at HOX ⊢
      clear hox hbx hbx2 d0 d1 kk
      go_wp2_with fail
      refine (refPut_at _ bx gb 2 _ _ rfl rfl (by omega) _ HOX.out.rd (by rw [HLX.out]; omega) (by omega)).mono ?_
      rintro e wy ⟨vy, rfl, hoy, hby⟩
      rw [show bx ++ beBytes 2 gb = b1 ++ gapsBytes (l.take (j + 1)) by rw [HBX.out, HBJ.out, HST.out]; simp [catBE]] at hoy
      have HOY := hid (hoy.base (show W.heap.size ≤ wx.heap.size by have := HBx.out.size; omega))
      obtain ⟨py, cy, rfl, -, -, -, -⟩ := hoy.rd
      have HBy := hid (gr_trans HBx.out hby)
      rw [HLK.out] at HOY ⊢
      clear hoy hby e1 kx
      go_wp2_with fail
      go_roundw
      case rel => exact ⟨j + 1, _, _, by omega, by go_num, rfl, HOY, HBy⟩
      case measure => simp [intOf]; omega
    · obtain rfl : j = n := by omega
      have hOf := HO.out
      rw [HNG.out, List.take_length, ← HNG.out] at hOf
      obtain ⟨wo, hwo⟩ : ∃ x, x = wr := ⟨_, rfl⟩
      subst hwo
      have HOF := hid hOf
      have HQ9 := hid (HQ1.out.mono HB.out)
      have G9 := hid (gr_trans G1.out HB.out)
      obtain ⟨q0, q1, q2⟩ := HQ9.out.three
      have f0 := HQ9.out.frozen 0
      have f1 := HQ9.out.frozen 1
      have f2 := HQ9.out.frozen 2
      clear hOf
      go_wp2_with fail
      refine rputFwd_ret (.int .u8 192) (.int .u8 0) _ rfl rfl (((HQ9.out.store 0 _).store 1 _).store 2 _) ⟨_, rfl, ?_, ((G9.out.setCell (by simp) _).setCell (by simp) _).setCell (by simp) _⟩
      show Own _ _ _ _ (beBytes 4 cum ++ gapsBytes l)
      rw [show beBytes 4 cum = b1 by rw [HB1.out]; rfl]
      exact (HOF.out.keep (r := some (w.heap.size + 1)) (gb_set (gb_set (gb_set (gb_refl _ _) 0 _) 1 _) 2 _) (fun k hk e => by have := HOF.out.ge k hk; simp at e; omega)).base (show w.heap.size ≤ W.heap.size by omega)


set_option maxRecDepth 100000 in
set_option maxHeartbeats 8000000 in
theorem rputSack_any (v : Value) (d : SackD) (hw : d.wf) (w : World) (h : SackAt w v d) (hl : d.gaps.length ≤ 1000000) (hl2 : d.dups.length ≤ 1000000) :
    Calls Try.prog 27 #[v] w (RetChk w 5 d.chk) := by
  obtain ⟨sg, sd, rfl, hrd, hrd2⟩ := h
  have HV := hid hrd
  have HU := hid hrd2
  obtain ⟨p, c, rfl, hlc, hcm, hpn, hcell⟩ := hrd
  obtain ⟨q, cq, rfl, hlq, hcq, hcelq⟩ := hrd2.nums
  unfold maxLen at hcm hcq
  clear hcell hcelq hrd2
  have HBD := hid (show d.body = (((([] ++ beBytes 4 d.cum) ++ beBytes 4 d.rwnd) ++ beBytes 2 d.gaps.length) ++ beBytes 2 d.dups.length) ++ gapsBytes d.gaps ++ catBE 4 d.dups by simp [SackD.body, SackD.head])
  show Calls _ _ _ _ (RetChk w 5 ⟨3, 0, d.body⟩)
  obtain ⟨hcu, hrw, hpw, hnw⟩ := hw
  have HPW := hid hpw
  have HNW := hid hnw
  rw [HBD.out]
  obtain ⟨cum, rwnd, l, m⟩ := d
  simp only at *
  clear hpw hnw HBD
  obtain ⟨n, hn⟩ : ∃ n, n = l.length := ⟨_, rfl⟩
  obtain ⟨nd, hnd⟩ : ∃ n, n = m.length := ⟨_, rfl⟩
  have HNG := hid hn
  have HND := hid hnd
  rw [← hn] at hl hlc ⊢
  rw [← hnd] at hl2 hlq ⊢
  have hw1 := wrap64_nat cum (by omega)
  have hw2 := wrap64_nat rwnd (by omega)
  have hw3 := wrap64_nat n (by omega)
  have hw4 := wrap64_nat nd (by omega)
  obtain ⟨bl, hbl⟩ : ∃ x, x = (((([] ++ beBytes 4 cum) ++ beBytes 4 rwnd) ++ beBytes 2 n) ++ beBytes 2 nd) ++ gapsBytes l ++ catBE 4 m := ⟨_, rfl⟩
  rw [← hbl]
  have HBL := hid hbl
  clear hn hnd hbl
  obtain ⟨W0, hW0⟩ : ∃ W0, W0 = w.alloc (.cells #[.int .u32 (cum : Int), .int .u32 (rwnd : Int), .slice p n c, .slice q nd cq] 45 (0, 0)) := ⟨_, rfl⟩
  have hs0 : W0.heap.size = w.heap.size + 1 := by rw [hW0]; simp
  obtain ⟨W, hW⟩ : ∃ W, W = W0.alloc (.cells #[.int .u8 0, .int .u8 0, .slice none 0 0] 28 (0, 0)) := ⟨_, rfl⟩
  have hs1 : W.heap.size = w.heap.size + 2 := by rw [hW]; simp [hs0]
  have HR0 := hid (show RowV W w.heap.size 45 [.int .u32 (cum : Int), .int .u32 (rwnd : Int), .slice p n c, .slice q nd cq] by rw [hW, hW0]; exact (RowV.new w 45 _).alloc _)
  have HQ0 := hid (show RowV W (w.heap.size + 1) 28 [.int .u8 0, .int .u8 0, .slice none 0 0] by rw [hW, ← hs0]; exact RowV.new W0 28 _)
  have G0 := hid (show Below w.heap.size w W by rw [hW, hW0]; exact ((Below.refl _ _).alloc (Nat.le_refl _) _).alloc (by simp) _)
  have k0 := HR0.out.at 0 (by simp)
  simp only [List.getElem_cons_succ, List.getElem_cons_zero] at k0
  rw [hW0] at hW
  have HE := hid hW
  rw [hW] at k0
  clear hW hW0 hs0
  go_enter Try.func27, Try.ntmps27
  go_wp2_with fail
  rw [← HE.out]
  refine (refPut_at _ [] cum 4 _ _ rfl rfl (by omega) _ (Rd.nil _) (by simp) (by omega)).mono ?_
  rintro e w1 ⟨v1, rfl, ho1, hb1⟩
  obtain ⟨b1, hB1⟩ : ∃ l, l = [] ++ beBytes 4 (cum) := ⟨_, rfl⟩
  have HB1 := hid hB1
  have HL1 := hid (show b1.length = 4 by rw [hB1, List.length_append, beBytes_length]; rfl)
  rw [← hB1] at ho1
  obtain ⟨p1, c1, rfl, -, -, -, -⟩ := ho1.rd
  have HO1 := hid ho1
  have HR1 := hid (HR0.out.mono hb1)
  have HQ1 := hid (HQ0.out.mono hb1)
  have G1 := hid (gr_trans G0.out hb1)
  have hsz1 := hb1.size
  rw [HL1.out] at HO1 ⊢
  clear ho1 hb1 hB1
  have k1 := HR1.out.at 1 (by simp)
  simp only [List.getElem_cons_succ, List.getElem_cons_zero] at k1
  go_wp2_with fail
  refine (refPut_at _ b1 rwnd 4 _ _ rfl rfl (by omega) _ HO1.out.rd (by rw [HL1.out]; omega) (by omega)).mono ?_
  rintro e w2 ⟨v2, rfl, ho2, hb2⟩
  obtain ⟨b2, hB2⟩ : ∃ l, l = b1 ++ beBytes 4 (rwnd) := ⟨_, rfl⟩
  have HB2 := hid hB2
  have HL2 := hid (show b2.length = 4 + 4 by rw [hB2, List.length_append, beBytes_length, HL1.out])
  rw [← hB2] at ho2
  obtain ⟨p2, c2, rfl, -, -, -, -⟩ := ho2.rd
  have HO2 := hid ho2
  have HR2 := hid (HR1.out.mono hb2)
  have HQ2 := hid (HQ1.out.mono hb2)
  have G2 := hid (gr_trans G1.out hb2)
  have hsz2 := hb2.size
  rw [HL2.out] at HO2 ⊢
  clear ho2 hb2 hB2
  have k2 := HR2.out.at 2 (by simp)
  simp only [List.getElem_cons_succ, List.getElem_cons_zero] at k2
  go_wp2_with fail
  refine (refPut_at _ b2 n 2 _ _ rfl rfl (by omega) _ HO2.out.rd (by rw [HL2.out]; omega) (by omega)).mono ?_
  rintro e w3 ⟨v3, rfl, ho3, hb3⟩
  obtain ⟨b3, hB3⟩ : ∃ l, l = b2 ++ beBytes 2 (n) := ⟨_, rfl⟩
  have HB3 := hid hB3
  have HL3 := hid (show b3.length = 4 + 4 + 2 by rw [hB3, List.length_append, beBytes_length, HL2.out])
  rw [← hB3] at ho3
  obtain ⟨p3, c3, rfl, -, -, -, -⟩ := ho3.rd
  have HO3 := hid ho3
  have HR3 := hid (HR2.out.mono hb3)
  have HQ3 := hid (HQ2.out.mono hb3)
  have G3 := hid (gr_trans G2.out hb3)
  have hsz3 := hb3.size
  rw [HL3.out] at HO3 ⊢
  clear ho3 hb3 hB3
  have k3 := HR3.out.at 3 (by simp)
  simp only [List.getElem_cons_succ, List.getElem_cons_zero] at k3
  go_wp2_with fail
  refine (refPut_at _ b3 nd 2 _ _ rfl rfl (by omega) _ HO3.out.rd (by rw [HL3.out]; omega) (by omega)).mono ?_
  rintro e w4 ⟨v4, rfl, ho4, hb4⟩
  obtain ⟨b4, hB4⟩ : ∃ l, l = b3 ++ beBytes 2 (nd) := ⟨_, rfl⟩
  have HB4 := hid hB4
  have HL4 := hid (show b4.length = 12 by rw [hB4, List.length_append, beBytes_length, HL3.out])
  rw [← hB4] at ho4
  obtain ⟨p4, c4, rfl, -, -, -, -⟩ := ho4.rd
  have HO4 := hid ho4
  have HR4 := hid (HR3.out.mono hb4)
  have HQ4 := hid (HQ3.out.mono hb4)
  have G4 := hid (gr_trans G3.out hb4)
  have hsz4 := hb4.size
  rw [HL4.out] at HO4 ⊢
  clear ho4 hb4 hB4
  have k4 := HR4.out.at 2 (by simp)
  simp only [List.getElem_cons_succ, List.getElem_cons_zero] at k4
  go_wp2_with fail
  have HLB := hid HL4.out
  have HB2x := hid HB2.out
  have HB3x := hid HB3.out
  have hW4 : W.heap.size ≤ w4.heap.size := by omega
  have HO4b := hid (HO4.out.base (show W.heap.size ≤ w3.heap.size by omega))
  clear k0 k1 k2 k3 k4
  go_loopw [3, 4] (fun o y wr => ∃ (j : Nat) (z : Option Addr) (cc : Nat), j ≤ n ∧ y = .int .i64 (j : Int) ∧ o = .slice z (12 + 4 * j) cc ∧ Hid (Own wr W.heap.size 5 o (b4 ++ gapsBytes (l.take j))) ∧ Hid (Below w4.heap.size w4 wr)) (fun _ y _ => n - (intOf y).toNat)
  case atStart => exact ⟨0, _, _, Nat.zero_le _, rfl, rfl, hid (by simpa [gapsBytes] using HO4b.out), hid (Below.refl _ _)⟩
  case round =>
    obtain ⟨j, z, cc, hj, rfl, rfl, HO, HB⟩ := hrel
    have HRr := hid (HR4.out.mono HB.out)
    have kk := HRr.out.at 2 (by simp)
    simp only [List.getElem_cons_succ, List.getElem_cons_zero] at kk
    by_cases hlt : j < n
    · have HVr := hid (HV.out.mono (gr_trans G4.out HB.out))
      obtain ⟨pp, ccc, hpe, -, -, -, hcel⟩ := HVr.out
      simp only [Value.slice.injEq] at hpe
      obtain ⟨rfl, -, rfl⟩ := hpe
      have hltl : j < l.length := by rw [← HNG.out]; exact hlt
      obtain ⟨bb, off, rfl, d0, d1⟩ := hcel j hltl
      obtain ⟨n1, n2⟩ := HPW.out _ (List.getElem_mem hltl)
      have HST := hid (gaps_step l j hltl)
      obtain ⟨bj, hbj⟩ : ∃ x, x = b4 ++ gapsBytes (l.take j) := ⟨_, rfl⟩
      have HBJ := hid hbj
      have HLJ := hid (show bj.length = 12 + 4 * j by rw [hbj, List.length_append, gapsBytes_length, List.length_take, Nat.min_eq_left (by omega), HLB.out])
      have HLK := hid (show (b4 ++ gapsBytes (l.take (j + 1))).length = 12 + 4 * (j + 1) by rw [List.length_append, gapsBytes_length, List.length_take, Nat.min_eq_left (by omega), HLB.out])
      rw [← hbj] at HO
      generalize l[j] = gj at *
      obtain ⟨ga, gb⟩ := gj
      simp only at d0 d1 n1 n2 HST
      have hwa := wrap64_nat ga (by omega)
      have hwb := wrap64_nat gb (by omega)
      have i0 : (0 : Int) ≤ (j : Int) := by omega
      have i1 : (j : Int) < (n : Int) := by omega
      have i2 : ((j : Int)).toNat = j := by omega
      have D1 := hid d1
      clear hcel hltl hbj
      go_wp2_with fail
      refine (refPut_at _ bj ga 2 _ _ rfl rfl (by omega) _ HO.out.rd (by rw [HLJ.out]; omega) (by omega)).mono ?_
      rintro e wx ⟨vx, rfl, hox, hbx⟩
      obtain ⟨bx, hbx2⟩ : ∃ x, x = bj ++ beBytes 2 ga := ⟨_, rfl⟩
      have HBX := hid hbx2
      have HLX := hid (show bx.length = 12 + 4 * j + 2 by rw [hbx2, List.length_append, HLJ.out, beBytes_length])
      rw [← hbx2] at hox
      have HOX := hid hox
      obtain ⟨px, cx, rfl, -, -, -, -⟩ := hox.rd
      have HRx := hid (HRr.out.mono hbx)
      have HBx := hid (gr_trans HB.out hbx)
      have hszx := hbx.size
      have e1 := cell?_of_below hbx D1.out
      have kx := HRx.out.at 2 (by simp)
      simp only [List.getElem_cons_succ, List.getElem_cons_zero] at kx
      rw [HLX.out] at HOX ⊢
      clear hox hbx hbx2 d0 d1 kk
      go_wp2_with fail
      refine (refPut_at _ bx gb 2 _ _ rfl rfl (by omega) _ HOX.out.rd (by rw [HLX.out]; omega) (by omega)).mono ?_
      rintro e wy ⟨vy, rfl, hoy, hby⟩
      rw [show bx ++ beBytes 2 gb = b4 ++ gapsBytes (l.take (j + 1)) by rw [HBX.out, HBJ.out, HST.out]; simp [catBE]] at hoy
      have HOY := hid (hoy.base (show W.heap.size ≤ wx.heap.size by have := HBx.out.size; omega))
      obtain ⟨py, cy, rfl, -, -, -, -⟩ := hoy.rd
      have HBy := hid (gr_trans HBx.out hby)
      rw [HLK.out] at HOY ⊢
      clear hoy hby e1 kx
      go_wp2_with fail
      go_roundw
      case rel => exact ⟨j + 1, _, _, by omega, by go_num, rfl, HOY, HBy⟩
      case measure => simp [intOf]; omega
    · obtain rfl : j = n := by omega
      have hOf := HO.out
      rw [HNG.out, List.take_length, ← HNG.out] at hOf
      obtain ⟨wo, hwo⟩ : ∃ x, x = wr := ⟨_, rfl⟩
      subst hwo
      obtain ⟨bg, hbg⟩ : ∃ x, x = b4 ++ gapsBytes l := ⟨_, rfl⟩
      rw [← hbg] at hOf
      have HBG := hid hbg
      have HLG := hid (show bg.length = 12 + 4 * j by rw [hbg, List.length_append, gapsBytes_length, HL4.out, HNG.out])
      have HOF := hid hOf
      have HQr := hid (HQ4.out.mono HB.out)
      have HRq := hid (HRr.out)
      have Gr := hid (gr_trans G4.out HB.out)
      have hsR := HB.out.size
      have k3 := HRq.out.at 3 (by simp)
      simp only [List.getElem_cons_succ, List.getElem_cons_zero] at k3
      clear hOf hbg HO
      go_wp2_with fail
      go_loopw [3, 5] (fun o y ws => ∃ (i : Nat) (z : Option Addr) (cc : Nat), i ≤ nd ∧ y = .int .i64 (i : Int) ∧ o = .slice z (12 + 4 * j + 4 * i) cc ∧ Hid (Own ws W.heap.size 5 o (bg ++ catBE 4 (m.take i))) ∧ Hid (Below wo.heap.size wo ws)) (fun _ y _ => nd - (intOf y).toNat)
      case atStart => exact ⟨0, z, cc, Nat.zero_le _, rfl, rfl, hid (by simpa [catBE] using HOF.out), hid (Below.refl _ _)⟩
      case round =>
        obtain ⟨i, z2, cc2, hi, rfl, rfl, HO2, HB2⟩ := hrel
        have HRs := hid (HRq.out.mono HB2.out)
        have ks := HRs.out.at 3 (by simp)
        simp only [List.getElem_cons_succ, List.getElem_cons_zero] at ks
        by_cases hlt2 : i < nd
        · obtain ⟨pp, ccc, hpe, -, -, hcel⟩ := (HU.out.mono (gr_trans Gr.out HB2.out)).nums
          rw [← HND.out] at hpe
          simp only [Value.slice.injEq] at hpe
          obtain ⟨rfl, -, rfl⟩ := hpe
          have hltl : i < m.length := by rw [← HND.out]; exact hlt2
          obtain ⟨bb, off, rfl, d0⟩ := hcel i hltl
          have n1 := HNW.out _ (List.getElem_mem hltl)
          have HST := hid (cat_step m i hltl)
          have HLJ := hid (show (bg ++ catBE 4 (m.take i)).length = 12 + 4 * j + 4 * i by rw [List.length_append, catBE_length, List.length_take, Nat.min_eq_left (by omega), HLG.out])
          have HLK := hid (show (bg ++ catBE 4 (m.take (i + 1))).length = 12 + 4 * j + 4 * (i + 1) by rw [List.length_append, catBE_length, List.length_take, Nat.min_eq_left (by omega), HLG.out])
          generalize m[i] = mi at *
          have hwa := wrap64_nat mi (by omega)
          have i0 : (0 : Int) ≤ (i : Int) := by omega
          have i1 : (i : Int) < (nd : Int) := by omega
          have i2 : ((i : Int)).toNat = i := by omega
          clear hcel hltl k3
          go_wp2_with fail
          refine (refPut_at _ (bg ++ catBE 4 (m.take i)) mi 4 _ _ rfl rfl (by omega) _ HO2.out.rd (by rw [HLJ.out]; omega) (by omega)).mono ?_
          rintro e wz ⟨v3, rfl, ho3, hb3⟩
          rw [List.append_assoc, show catBE 4 (m.take i) ++ beBytes 4 mi = catBE 4 (m.take (i + 1)) by rw [HST.out]; simp [catBE]] at ho3
          have HO3 := hid (ho3.base (show W.heap.size ≤ wr.heap.size by have := HB2.out.size; omega))
          have HB3 := hid (gr_trans HB2.out hb3)
          obtain ⟨z3, c3, rfl, -, -, -, -⟩ := ho3.rd
          rw [HLK.out] at HO3 ⊢
          clear ho3 hb3 d0 ks
          go_wp2_with fail
          go_roundw
          case rel => exact ⟨i + 1, z3, c3, by omega, by go_num, rfl, HO3, HB3⟩
          case measure => simp [intOf]; omega
        · obtain rfl : i = nd := by omega
          have hOg := HO2.out
          rw [HND.out, List.take_length, ← HND.out] at hOg
          have HOG := hid hOg
          have HQs := hid (HQr.out.mono HB2.out)
          have Gs := hid (gr_trans Gr.out HB2.out)
          obtain ⟨q0, q1, q2⟩ := HQs.out.three
          have f0 := HQs.out.frozen 0
          have f1 := HQs.out.frozen 1
          have f2 := HQs.out.frozen 2
          clear hOg k3 HO2
          go_wp2_with fail
          refine rputSack_ret (.int .u8 3) (.int .u8 0) _ rfl rfl (((HQs.out.store 0 _).store 1 _).store 2 _) ⟨_, rfl, ?_, ((Gs.out.setCell (by simp) _).setCell (by simp) _).setCell (by simp) _⟩
          show Own _ _ _ _ bl
          rw [HBL.out, ← HB1.out, ← HB2x.out, ← HB3x.out, ← HB4.out, ← HBG.out]
          exact (HOG.out.keep (r := some (w.heap.size + 1)) (gb_set (gb_set (gb_set (gb_refl _ _) 0 _) 1 _) 2 _) (fun k hk e => by have := HOG.out.ge k hk; simp at e; omega)).base (show w.heap.size ≤ W.heap.size by omega)

end Go.Proofs.Ytfiblhdejglpaaa

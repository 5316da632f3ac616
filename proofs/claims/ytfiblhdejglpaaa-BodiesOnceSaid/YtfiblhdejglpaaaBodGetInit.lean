/- fairlead/bodies.get[fairlead/api.Init]: a thing, if it may be, and its chunk is the one of which it was read. Conditions: what comes in reads as it should. -/
import Derived.Test.YtfiblhdejglpaaaBodPutData
import Derived.Test.YtfiblhdejglpaaaSliEq
namespace Go.FL
open Go.RowKit
theorem rowInit {w : World} {g e : Nat} {v0 v1 v2 v3 v4 v5 : Value} (h : RowV w g e [v0, v1, v2, v3, v4, v5]) : w.cell? ⟨g, 0, none⟩ = some v0 ∧ w.cell? ⟨g, 1, none⟩ = some v1 ∧ w.cell? ⟨g, 2, none⟩ = some v2 ∧ w.cell? ⟨g, 3, none⟩ = some v3 ∧ w.cell? ⟨g, 4, none⟩ = some v4 ∧ w.cell? ⟨g, 5, none⟩ = some v5 ∧ True :=
  ⟨h.at 0 (by simp), h.at 1 (by simp), h.at 2 (by simp), h.at 3 (by simp), h.at 4 (by simp), h.at 5 (by simp), trivial⟩
end Go.FL
namespace Go.Proofs.Ytfiblhdejglpaaa
open Go.RowKit Go.FL Go.ChangeShapes

theorem bgetInit_ret {a : Act} {W : World} {g : Nat} {R : Ending → World → Prop} (v0 v1 v2 v3 v4 v5 : Value) (er : Int) (h8 : a.tmps.getD 8 undef = .pointer (some ⟨g, 0, none⟩)) (h9 : a.tmps.getD 9 undef = .int .i64 er) (hd : a.defers = [])
    (hc : RowV W g 70 [v0, v1, v2, v3, v4, v5]) (hR : R (.returned (.tuple #[.agg #[v0, v1, v2, v3, v4, v5], .int .i64 er])) W) : bodyPost Try.prog Try.f66 R .ret a W := by
  refine bodyPost_ret (v := .tuple #[.agg #[v0, v1, v2, v3, v4, v5], .int .i64 er]) ?_ hd hR
  obtain ⟨c0, c1, c2, c3, c4, c5, -⟩ := rowInit hc
  simp only [Array.getD_eq_getD_getElem?] at h8 h9
  simp [results, Try.results66, go_sem, h8, h9, asAddr, c0, c1, c2, c3, c4, c5]

set_option maxRecDepth 100000 in
set_option maxHeartbeats 4000000 in
theorem bgetInit_any (tag rwnd out in_ tsn : Nat) (px : Option Addr) (n cx gc : Nat) (kc fc : UInt8) (s : Value) (bc : List UInt8) (may : Bool) (w : World) (hs : Rd w s bc) (dc : Chk)
    (hput : ∀ wx, Below w.heap.size w wx → Calls Try.prog 67 #[.agg #[.int .u32 (tag : Int), .int .u32 (rwnd : Int), .int .u16 (out : Int), .int .u16 (in_ : Int), .int .u32 (tsn : Int), .slice px n cx], .pointer (some ⟨gc, 0, none⟩)] wx (RetChk wx 5 dc)) :
    Calls Try.prog 66 #[.agg #[.int .u8 (kc.toNat : Int), .int .u8 (fc.toNat : Int), s], .agg #[.int .u32 (tag : Int), .int .u32 (rwnd : Int), .int .u16 (out : Int), .int .u16 (in_ : Int), .int .u32 (tsn : Int), .slice px n cx], .bool may, .func (.func 67) #[] #[.pointer (some ⟨gc, 0, none⟩)]] w
      fun e w' => e = .returned (if may = true ∧ dc = ⟨kc, fc, bc⟩ then .tuple #[.agg #[.int .u32 (tag : Int), .int .u32 (rwnd : Int), .int .u16 (out : Int), .int .u16 (in_ : Int), .int .u32 (tsn : Int), .slice px n cx], .int .i64 0] else .tuple #[.agg #[.int .u32 0, .int .u32 0, .int .u16 0, .int .u16 0, .int .u32 0, .slice none 0 0], .int .i64 7]) ∧ Below w.heap.size w w' := by
  have HV := hid hs
  have HP := hid hput
  obtain ⟨p, c, rfl, hlc, hcm, hpn, hcell⟩ := hs
  unfold maxLen at hcm
  clear hcell hput
  obtain ⟨kd, fd, bd⟩ := dc
  obtain ⟨res, hres⟩ : ∃ r, r = (if may = true ∧ (⟨kd, fd, bd⟩ : Chk) = ⟨kc, fc, bc⟩ then Value.tuple #[.agg #[.int .u32 (tag : Int), .int .u32 (rwnd : Int), .int .u16 (out : Int), .int .u16 (in_ : Int), .int .u32 (tsn : Int), .slice px n cx], .int .i64 0] else .tuple #[.agg #[.int .u32 0, .int .u32 0, .int .u16 0, .int .u16 0, .int .u32 0, .slice none 0 0], .int .i64 7]) := ⟨_, rfl⟩
  rw [← hres]
  have HRES := hid hres
  clear hres
  obtain ⟨Wa, hWa⟩ : ∃ W, W = w.alloc (.cells #[.int .u8 (kc.toNat : Int), .int .u8 (fc.toNat : Int), .slice p bc.length c] 28 (0, 0)) := ⟨_, rfl⟩
  have hsa : Wa.heap.size = w.heap.size + 1 := by rw [hWa]; simp
  obtain ⟨Wb, hWb⟩ : ∃ W, W = Wa.alloc (.cells #[.int .u32 (tag : Int), .int .u32 (rwnd : Int), .int .u16 (out : Int), .int .u16 (in_ : Int), .int .u32 (tsn : Int), .slice px n cx] 70 (0, 0)) := ⟨_, rfl⟩
  have hsb : Wb.heap.size = w.heap.size + 2 := by rw [hWb]; simp [hsa]
  obtain ⟨W, hW⟩ : ∃ W, W = Wb.alloc (.cells #[.int .u32 0, .int .u32 0, .int .u16 0, .int .u16 0, .int .u32 0, .slice none 0 0] 70 (0, 0)) := ⟨_, rfl⟩
  have HC := hid (show RowV W w.heap.size 28 [.int .u8 (kc.toNat : Int), .int .u8 (fc.toNat : Int), .slice p bc.length c] by rw [hW, hWb, hWa]; exact ((RowV.new w 28 _).alloc _).alloc _)
  have HX := hid (show RowV W (w.heap.size + 1) 70 [.int .u32 (tag : Int), .int .u32 (rwnd : Int), .int .u16 (out : Int), .int .u16 (in_ : Int), .int .u32 (tsn : Int), .slice px n cx] by rw [hW, hWb, ← hsa]; exact (RowV.new Wa 70 _).alloc _)
  have HA := hid (show RowV W (w.heap.size + 2) 70 [.int .u32 0, .int .u32 0, .int .u16 0, .int .u16 0, .int .u32 0, .slice none 0 0] by rw [hW, ← hsb]; exact RowV.new Wb 70 _)
  have G0 := hid (show Below w.heap.size w W by rw [hW, hWb, hWa]; exact (((Below.refl _ _).alloc (Nat.le_refl _) _).alloc (by simp) _).alloc (by simp; omega) _)
  rw [hWb, hWa] at hW
  have HE := hid hW
  obtain ⟨i0, i1, i2, i3, i4, i5, -⟩ := rowInit HX.out
  rw [hW] at i0 i1 i2 i3 i4 i5
  clear hW hWa hWb hsa hsb
  go_enter Try.func66, Try.ntmps66
  go_wp2_with fail
  rw [← HE.out]
  refine (HP.out _ G0.out).mono ?_
  rintro e w1 ⟨s1, rfl, ho1, hb1⟩
  simp only at ho1
  obtain ⟨p1, c1, rfl, hl1, hm1, -, -⟩ := ho1.rd
  unfold maxLen at hm1
  have HO1 := hid ho1
  obtain ⟨W2, hW2⟩ : ∃ W, W = w1.alloc (.cells #[.int .u8 (kd.toNat : Int), .int .u8 (fd.toNat : Int), .slice p1 bd.length c1] 28 (0, 0)) := ⟨_, rfl⟩
  have g2 : Below w1.heap.size w1 W2 := by rw [hW2]; exact (Below.refl _ _).alloc (Nat.le_refl _) _
  have HD2 := hid (show RowV W2 w1.heap.size 28 [.int .u8 (kd.toNat : Int), .int .u8 (fd.toNat : Int), .slice p1 bd.length c1] by rw [hW2]; exact RowV.new w1 28 _)
  have g12 := gr_trans hb1 g2
  have HC2 := hid (HC.out.mono g12)
  have HX2 := hid (HX.out.mono g12)
  have HA2 := hid (HA.out.mono g12)
  have G2 := hid (gr_trans G0.out g12)
  have HO2 := hid (HO1.out.mono g2)
  have HE2 := hid hW2
  obtain ⟨k0, k1, k2⟩ := HC2.out.three
  obtain ⟨l0, l1, l2⟩ := HD2.out.three
  rw [hW2] at k0 k1 k2 l0 l1 l2
  have bk := byte_lt kc
  have bk2 := byte_lt kd
  have bf := byte_lt fc
  have bf2 := byte_lt fd
  have HKE := hid (byte_eq kd kc)
  have HFE := hid (byte_eq fd fc)
  clear hb1 hW2 g2 g12 ho1 i0 i1 i2 i3 i4 i5
  cases may
  · have HCD := hid (show res = Value.tuple #[.agg #[.int .u32 0, .int .u32 0, .int .u16 0, .int .u16 0, .int .u32 0, .slice none 0 0], .int .i64 7] from by rw [HRES.out]; exact if_neg (by simp))
    obtain ⟨WZ, hWZ⟩ : ∃ W, W = W2.alloc (.cells #[.int .u32 0, .int .u32 0, .int .u16 0, .int .u16 0, .int .u32 0, .slice none 0 0] 70 (0, 0)) := ⟨_, rfl⟩
    have HZ := hid (show RowV WZ W2.heap.size 70 [.int .u32 0, .int .u32 0, .int .u16 0, .int .u16 0, .int .u32 0, .slice none 0 0] by rw [hWZ]; exact RowV.new W2 70 _)
    have gz : Below W2.heap.size W2 WZ := by rw [hWZ]; exact (Below.refl _ _).alloc (Nat.le_refl _) _
    have HAZ := hid (HA2.out.mono gz)
    have GZ := hid (gr_trans G2.out gz)
    have HEZ := hid hWZ
    obtain ⟨i0, i1, i2, i3, i4, i5, -⟩ := rowInit HZ.out
    obtain ⟨j0, j1, j2, j3, j4, j5, -⟩ := rowInit HAZ.out
    have y0 := HAZ.out.frozen 0; have y1 := HAZ.out.frozen 1; have y2 := HAZ.out.frozen 2; have y3 := HAZ.out.frozen 3; have y4 := HAZ.out.frozen 4; have y5 := HAZ.out.frozen 5
    rw [hWZ, HE2.out] at i0 i1 i2 i3 i4 i5 j0 j1 j2 j3 j4 j5 y0 y1 y2 y3 y4 y5

    clear hWZ gz
    go_wp2_with fail
    rw [← HE2.out, ← HEZ.out]
    refine bgetInit_ret (.int .u32 0) (.int .u32 0) (.int .u16 0) (.int .u16 0) (.int .u32 0) (.slice none 0 0) 7 rfl rfl rfl ((((((HAZ.out.store 0 (.int .u32 0)).store 1 (.int .u32 0)).store 2 (.int .u16 0)).store 3 (.int .u16 0)).store 4 (.int .u32 0)).store 5 (.slice none 0 0)) ⟨by rw [HCD.out], ((((((GZ.out.setCell (by simp; try omega) _).setCell (by simp; try omega) _).setCell (by simp; try omega) _).setCell (by simp; try omega) _).setCell (by simp; try omega) _).setCell (by simp; try omega) _)⟩
  · by_cases hk : kd = kc
    · by_cases hf : fd = fc
      · subst hk hf
        have hkb : ((kd.toNat : Int) == (kd.toNat : Int)) = true := by simp
        have hfb : ((fd.toNat : Int) == (fd.toNat : Int)) = true := by simp
        go_wp2_with fail
        rw [← HE2.out]
        refine (sliEq_any _ _ bd bc _ HO2.out.rd (HV.out.mono G2.out)).mono ?_
        rintro e w3 ⟨rfl, hb3⟩
        have HX3 := hid (HX2.out.mono hb3)
        have HA3 := hid (HA2.out.mono hb3)
        have G3 := hid (gr_trans G2.out hb3)
        clear hb3 k0 k1 k2 l0 l1 l2
        by_cases hq : bd = bc
        · rw [decide_eq_true hq]
          have HCD := hid (show res = Value.tuple #[.agg #[.int .u32 (tag : Int), .int .u32 (rwnd : Int), .int .u16 (out : Int), .int .u16 (in_ : Int), .int .u32 (tsn : Int), .slice px n cx], .int .i64 0] from by rw [HRES.out]; exact if_pos (by simp [hq]))
          obtain ⟨i0, i1, i2, i3, i4, i5, -⟩ := rowInit HX3.out
          obtain ⟨j0, j1, j2, j3, j4, j5, -⟩ := rowInit HA3.out
          have y0 := HA3.out.frozen 0; have y1 := HA3.out.frozen 1; have y2 := HA3.out.frozen 2; have y3 := HA3.out.frozen 3; have y4 := HA3.out.frozen 4; have y5 := HA3.out.frozen 5
          clear hq
          go_wp2_with fail
          refine bgetInit_ret (.int .u32 (tag : Int)) (.int .u32 (rwnd : Int)) (.int .u16 (out : Int)) (.int .u16 (in_ : Int)) (.int .u32 (tsn : Int)) (.slice px n cx) 0 rfl rfl rfl ((((((HA3.out.store 0 (.int .u32 (tag : Int))).store 1 (.int .u32 (rwnd : Int))).store 2 (.int .u16 (out : Int))).store 3 (.int .u16 (in_ : Int))).store 4 (.int .u32 (tsn : Int))).store 5 (.slice px n cx)) ⟨by rw [HCD.out], ((((((G3.out.setCell (by simp; try omega) _).setCell (by simp; try omega) _).setCell (by simp; try omega) _).setCell (by simp; try omega) _).setCell (by simp; try omega) _).setCell (by simp; try omega) _)⟩
        · rw [decide_eq_false hq]
          have HCD := hid (show res = Value.tuple #[.agg #[.int .u32 0, .int .u32 0, .int .u16 0, .int .u16 0, .int .u32 0, .slice none 0 0], .int .i64 7] from by rw [HRES.out]; exact if_neg (fun h => hq (congrArg Chk.b h.2)))
          clear hq
          obtain ⟨WZ, hWZ⟩ : ∃ W, W = w3.alloc (.cells #[.int .u32 0, .int .u32 0, .int .u16 0, .int .u16 0, .int .u32 0, .slice none 0 0] 70 (0, 0)) := ⟨_, rfl⟩
          have HZ := hid (show RowV WZ w3.heap.size 70 [.int .u32 0, .int .u32 0, .int .u16 0, .int .u16 0, .int .u32 0, .slice none 0 0] by rw [hWZ]; exact RowV.new w3 70 _)
          have gz : Below w3.heap.size w3 WZ := by rw [hWZ]; exact (Below.refl _ _).alloc (Nat.le_refl _) _
          have HAZ := hid (HA3.out.mono gz)
          have GZ := hid (gr_trans G3.out gz)
          have HEZ := hid hWZ
          obtain ⟨i0, i1, i2, i3, i4, i5, -⟩ := rowInit HZ.out
          obtain ⟨j0, j1, j2, j3, j4, j5, -⟩ := rowInit HAZ.out
          have y0 := HAZ.out.frozen 0; have y1 := HAZ.out.frozen 1; have y2 := HAZ.out.frozen 2; have y3 := HAZ.out.frozen 3; have y4 := HAZ.out.frozen 4; have y5 := HAZ.out.frozen 5
          rw [hWZ] at i0 i1 i2 i3 i4 i5 j0 j1 j2 j3 j4 j5 y0 y1 y2 y3 y4 y5

          clear hWZ gz
          go_wp2_with fail
          rw [← HEZ.out]
          refine bgetInit_ret (.int .u32 0) (.int .u32 0) (.int .u16 0) (.int .u16 0) (.int .u32 0) (.slice none 0 0) 7 rfl rfl rfl ((((((HAZ.out.store 0 (.int .u32 0)).store 1 (.int .u32 0)).store 2 (.int .u16 0)).store 3 (.int .u16 0)).store 4 (.int .u32 0)).store 5 (.slice none 0 0)) ⟨by rw [HCD.out], ((((((GZ.out.setCell (by simp; try omega) _).setCell (by simp; try omega) _).setCell (by simp; try omega) _).setCell (by simp; try omega) _).setCell (by simp; try omega) _).setCell (by simp; try omega) _)⟩
      · have hkb : ((kd.toNat : Int) == (kc.toNat : Int)) = true := by rw [beq_iff_eq, HKE.out]; exact hk
        have hfb : ((fd.toNat : Int) == (fc.toNat : Int)) = false := by rw [beq_eq_false_iff_ne, ne_eq, HFE.out]; exact hf
        have HCD := hid (show res = Value.tuple #[.agg #[.int .u32 0, .int .u32 0, .int .u16 0, .int .u16 0, .int .u32 0, .slice none 0 0], .int .i64 7] from by rw [HRES.out]; exact if_neg (fun h => hf (congrArg Chk.f h.2)))
        clear hk hf
        obtain ⟨WZ, hWZ⟩ : ∃ W, W = W2.alloc (.cells #[.int .u32 0, .int .u32 0, .int .u16 0, .int .u16 0, .int .u32 0, .slice none 0 0] 70 (0, 0)) := ⟨_, rfl⟩
        have HZ := hid (show RowV WZ W2.heap.size 70 [.int .u32 0, .int .u32 0, .int .u16 0, .int .u16 0, .int .u32 0, .slice none 0 0] by rw [hWZ]; exact RowV.new W2 70 _)
        have gz : Below W2.heap.size W2 WZ := by rw [hWZ]; exact (Below.refl _ _).alloc (Nat.le_refl _) _
        have HAZ := hid (HA2.out.mono gz)
        have GZ := hid (gr_trans G2.out gz)
        have HEZ := hid hWZ
        obtain ⟨i0, i1, i2, i3, i4, i5, -⟩ := rowInit HZ.out
        obtain ⟨j0, j1, j2, j3, j4, j5, -⟩ := rowInit HAZ.out
        have y0 := HAZ.out.frozen 0; have y1 := HAZ.out.frozen 1; have y2 := HAZ.out.frozen 2; have y3 := HAZ.out.frozen 3; have y4 := HAZ.out.frozen 4; have y5 := HAZ.out.frozen 5
        rw [hWZ, HE2.out] at i0 i1 i2 i3 i4 i5 j0 j1 j2 j3 j4 j5 y0 y1 y2 y3 y4 y5

        clear hWZ gz
        go_wp2_with fail
        rw [← HE2.out, ← HEZ.out]
        refine bgetInit_ret (.int .u32 0) (.int .u32 0) (.int .u16 0) (.int .u16 0) (.int .u32 0) (.slice none 0 0) 7 rfl rfl rfl ((((((HAZ.out.store 0 (.int .u32 0)).store 1 (.int .u32 0)).store 2 (.int .u16 0)).store 3 (.int .u16 0)).store 4 (.int .u32 0)).store 5 (.slice none 0 0)) ⟨by rw [HCD.out], ((((((GZ.out.setCell (by simp; try omega) _).setCell (by simp; try omega) _).setCell (by simp; try omega) _).setCell (by simp; try omega) _).setCell (by simp; try omega) _).setCell (by simp; try omega) _)⟩
    · have hkb : ((kd.toNat : Int) == (kc.toNat : Int)) = false := by rw [beq_eq_false_iff_ne, ne_eq, HKE.out]; exact hk
      have HCD := hid (show res = Value.tuple #[.agg #[.int .u32 0, .int .u32 0, .int .u16 0, .int .u16 0, .int .u32 0, .slice none 0 0], .int .i64 7] from by rw [HRES.out]; exact if_neg (fun h => hk (congrArg Chk.k h.2)))
      clear hk
      obtain ⟨WZ, hWZ⟩ : ∃ W, W = W2.alloc (.cells #[.int .u32 0, .int .u32 0, .int .u16 0, .int .u16 0, .int .u32 0, .slice none 0 0] 70 (0, 0)) := ⟨_, rfl⟩
      have HZ := hid (show RowV WZ W2.heap.size 70 [.int .u32 0, .int .u32 0, .int .u16 0, .int .u16 0, .int .u32 0, .slice none 0 0] by rw [hWZ]; exact RowV.new W2 70 _)
      have gz : Below W2.heap.size W2 WZ := by rw [hWZ]; exact (Below.refl _ _).alloc (Nat.le_refl _) _
      have HAZ := hid (HA2.out.mono gz)
      have GZ := hid (gr_trans G2.out gz)
      have HEZ := hid hWZ
      obtain ⟨i0, i1, i2, i3, i4, i5, -⟩ := rowInit HZ.out
      obtain ⟨j0, j1, j2, j3, j4, j5, -⟩ := rowInit HAZ.out
      have y0 := HAZ.out.frozen 0; have y1 := HAZ.out.frozen 1; have y2 := HAZ.out.frozen 2; have y3 := HAZ.out.frozen 3; have y4 := HAZ.out.frozen 4; have y5 := HAZ.out.frozen 5
      rw [hWZ, HE2.out] at i0 i1 i2 i3 i4 i5 j0 j1 j2 j3 j4 j5 y0 y1 y2 y3 y4 y5

      clear hWZ gz
      go_wp2_with fail
      rw [← HE2.out, ← HEZ.out]
      refine bgetInit_ret (.int .u32 0) (.int .u32 0) (.int .u16 0) (.int .u16 0) (.int .u32 0) (.slice none 0 0) 7 rfl rfl rfl ((((((HAZ.out.store 0 (.int .u32 0)).store 1 (.int .u32 0)).store 2 (.int .u16 0)).store 3 (.int .u16 0)).store 4 (.int .u32 0)).store 5 (.slice none 0 0)) ⟨by rw [HCD.out], ((((((GZ.out.setCell (by simp; try omega) _).setCell (by simp; try omega) _).setCell (by simp; try omega) _).setCell (by simp; try omega) _).setCell (by simp; try omega) _).setCell (by simp; try omega) _)⟩
end Go.Proofs.Ytfiblhdejglpaaa

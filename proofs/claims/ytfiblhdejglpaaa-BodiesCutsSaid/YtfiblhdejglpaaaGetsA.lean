/- Joined: BodGetData, BodGetSack, BodGetFwd, BodGetInit, BodGetTime, BodGetCum. -/
import Derived.Test.YtfiblhdejglpaaaBodPutData
import Derived.Test.YtfiblhdejglpaaaSliEq
namespace Go.FL
open Go.RowKit
theorem rowData {w : World} {g e : Nat} {v0 v1 v2 v3 v4 v5 v6 : Value} (h : RowV w g e [v0, v1, v2, v3, v4, v5, v6]) : w.cell? ⟨g, 0, none⟩ = some v0 ∧ w.cell? ⟨g, 1, none⟩ = some v1 ∧ w.cell? ⟨g, 2, none⟩ = some v2 ∧ w.cell? ⟨g, 3, none⟩ = some v3 ∧ w.cell? ⟨g, 4, none⟩ = some v4 ∧ w.cell? ⟨g, 5, none⟩ = some v5 ∧ w.cell? ⟨g, 6, none⟩ = some v6 ∧ True :=
  ⟨h.at 0 (by simp), h.at 1 (by simp), h.at 2 (by simp), h.at 3 (by simp), h.at 4 (by simp), h.at 5 (by simp), h.at 6 (by simp), trivial⟩
end Go.FL
namespace Go.Proofs.Ytfiblhdejglpaaa
open Go.RowKit Go.FL Go.ChangeShapes

theorem bgetData_ret {a : Act} {W : World} {g : Nat} {R : Ending → World → Prop} (v0 v1 v2 v3 v4 v5 v6 : Value) (er : Int) (h8 : a.tmps.getD 8 undef = .pointer (some ⟨g, 0, none⟩)) (h9 : a.tmps.getD 9 undef = .int .i64 er) (hd : a.defers = [])
    (hc : RowV W g 26 [v0, v1, v2, v3, v4, v5, v6]) (hR : R (.returned (.tuple #[.agg #[v0, v1, v2, v3, v4, v5, v6], .int .i64 er])) W) : bodyPost Try.prog Try.f53 R .ret a W := by
  refine bodyPost_ret (v := .tuple #[.agg #[v0, v1, v2, v3, v4, v5, v6], .int .i64 er]) ?_ hd hR
  obtain ⟨c0, c1, c2, c3, c4, c5, c6, -⟩ := rowData hc
  simp only [Array.getD_eq_getD_getElem?] at h8 h9
  simp [results, Try.results53, go_sem, h8, h9, asAddr, c0, c1, c2, c3, c4, c5, c6]

set_option maxRecDepth 100000 in
set_option maxHeartbeats 4000000 in
theorem bgetData_any (tsn st ssn : Nat) (un fi la : Bool) (px : Option Addr) (n cx : Nat) (kc fc : UInt8) (s : Value) (bc : List UInt8) (may : Bool) (w : World) (hs : Rd w s bc) (dc : Chk)
    (hput : ∀ wx, Below w.heap.size w wx → Calls Try.prog 15 #[.agg #[.int .u32 (tsn : Int), .int .u16 (st : Int), .int .u16 (ssn : Int), .bool un, .bool fi, .bool la, .slice px n cx]] wx (RetChk wx 5 dc)) :
    Calls Try.prog 53 #[.agg #[.int .u8 (kc.toNat : Int), .int .u8 (fc.toNat : Int), s], .agg #[.int .u32 (tsn : Int), .int .u16 (st : Int), .int .u16 (ssn : Int), .bool un, .bool fi, .bool la, .slice px n cx], .bool may, .func (.func 15) #[] #[]] w
      fun e w' => e = .returned (if may = true ∧ dc = ⟨kc, fc, bc⟩ then .tuple #[.agg #[.int .u32 (tsn : Int), .int .u16 (st : Int), .int .u16 (ssn : Int), .bool un, .bool fi, .bool la, .slice px n cx], .int .i64 0] else .tuple #[.agg #[.int .u32 0, .int .u16 0, .int .u16 0, .bool false, .bool false, .bool false, .slice none 0 0], .int .i64 7]) ∧ Below w.heap.size w w' := by
  have HV := hid hs
  have HP := hid hput
  obtain ⟨p, c, rfl, hlc, hcm, hpn, hcell⟩ := hs
  unfold maxLen at hcm
  clear hcell hput
  obtain ⟨kd, fd, bd⟩ := dc
  obtain ⟨res, hres⟩ : ∃ r, r = (if may = true ∧ (⟨kd, fd, bd⟩ : Chk) = ⟨kc, fc, bc⟩ then Value.tuple #[.agg #[.int .u32 (tsn : Int), .int .u16 (st : Int), .int .u16 (ssn : Int), .bool un, .bool fi, .bool la, .slice px n cx], .int .i64 0] else .tuple #[.agg #[.int .u32 0, .int .u16 0, .int .u16 0, .bool false, .bool false, .bool false, .slice none 0 0], .int .i64 7]) := ⟨_, rfl⟩
  rw [← hres]
  have HRES := hid hres
  clear hres
  obtain ⟨Wa, hWa⟩ : ∃ W, W = w.alloc (.cells #[.int .u8 (kc.toNat : Int), .int .u8 (fc.toNat : Int), .slice p bc.length c] 28 (0, 0)) := ⟨_, rfl⟩
  have hsa : Wa.heap.size = w.heap.size + 1 := by rw [hWa]; simp
  obtain ⟨Wb, hWb⟩ : ∃ W, W = Wa.alloc (.cells #[.int .u32 (tsn : Int), .int .u16 (st : Int), .int .u16 (ssn : Int), .bool un, .bool fi, .bool la, .slice px n cx] 26 (0, 0)) := ⟨_, rfl⟩
  have hsb : Wb.heap.size = w.heap.size + 2 := by rw [hWb]; simp [hsa]
  obtain ⟨W, hW⟩ : ∃ W, W = Wb.alloc (.cells #[.int .u32 0, .int .u16 0, .int .u16 0, .bool false, .bool false, .bool false, .slice none 0 0] 26 (0, 0)) := ⟨_, rfl⟩
  have HC := hid (show RowV W w.heap.size 28 [.int .u8 (kc.toNat : Int), .int .u8 (fc.toNat : Int), .slice p bc.length c] by rw [hW, hWb, hWa]; exact ((RowV.new w 28 _).alloc _).alloc _)
  have HX := hid (show RowV W (w.heap.size + 1) 26 [.int .u32 (tsn : Int), .int .u16 (st : Int), .int .u16 (ssn : Int), .bool un, .bool fi, .bool la, .slice px n cx] by rw [hW, hWb, ← hsa]; exact (RowV.new Wa 26 _).alloc _)
  have HA := hid (show RowV W (w.heap.size + 2) 26 [.int .u32 0, .int .u16 0, .int .u16 0, .bool false, .bool false, .bool false, .slice none 0 0] by rw [hW, ← hsb]; exact RowV.new Wb 26 _)
  have G0 := hid (show Below w.heap.size w W by rw [hW, hWb, hWa]; exact (((Below.refl _ _).alloc (Nat.le_refl _) _).alloc (by simp) _).alloc (by simp; omega) _)
  rw [hWb, hWa] at hW
  have HE := hid hW
  obtain ⟨i0, i1, i2, i3, i4, i5, i6, -⟩ := rowData HX.out
  rw [hW] at i0 i1 i2 i3 i4 i5 i6
  clear hW hWa hWb hsa hsb
  go_enter Try.func53, Try.ntmps53
  go_wp2_with fail
  rw [← HE.out]
  refine (HP.out _ G0.out).mono ?_
  rintro e w1 ⟨s1, rfl, ho1, hb1⟩
  simp only at ho1
  obtain ⟨p1, c1, rfl, hl1, hm1, -, -⟩ := ho1.rd
  unfold maxLen at hm1
  have HO1 := hid ho1
  obtain ⟨W2, hW2⟩ : ∃ W, W = w1.alloc (.cells #[.int .u8 (kd.toNat : Int), .int .u8 (fd.toNat : Int), .slice p1 bd.length c1] 28 (0, 0)) := ⟨_, rfl⟩
  have g2 : Below w1.heap.size w1 W2 := by rw [hW2]; exact (Below.refl _ _).alloc (Nat.le_refl _) _
  have HD2 := hid (show RowV W2 w1.heap.size 28 [.int .u8 (kd.toNat : Int), .int .u8 (fd.toNat : Int), .slice p1 bd.length c1] by rw [hW2]; exact RowV.new w1 28 _)
  have g12 := gr_trans hb1 g2
  have HC2 := hid (HC.out.mono g12)
  have HX2 := hid (HX.out.mono g12)
  have HA2 := hid (HA.out.mono g12)
  have G2 := hid (gr_trans G0.out g12)
  have HO2 := hid (HO1.out.mono g2)
  have HE2 := hid hW2
  obtain ⟨k0, k1, k2⟩ := HC2.out.three
  obtain ⟨l0, l1, l2⟩ := HD2.out.three
  rw [hW2] at k0 k1 k2 l0 l1 l2
  have bk := byte_lt kc
  have bk2 := byte_lt kd
  have bf := byte_lt fc
  have bf2 := byte_lt fd
  have HKE := hid (byte_eq kd kc)
  have HFE := hid (byte_eq fd fc)
  clear hb1 hW2 g2 g12 ho1 i0 i1 i2 i3 i4 i5 i6
  cases may
  · have HCD := hid (show res = Value.tuple #[.agg #[.int .u32 0, .int .u16 0, .int .u16 0, .bool false, .bool false, .bool false, .slice none 0 0], .int .i64 7] from by rw [HRES.out]; exact if_neg (by simp))
    obtain ⟨WZ, hWZ⟩ : ∃ W, W = W2.alloc (.cells #[.int .u32 0, .int .u16 0, .int .u16 0, .bool false, .bool false, .bool false, .slice none 0 0] 26 (0, 0)) := ⟨_, rfl⟩
    have HZ := hid (show RowV WZ W2.heap.size 26 [.int .u32 0, .int .u16 0, .int .u16 0, .bool false, .bool false, .bool false, .slice none 0 0] by rw [hWZ]; exact RowV.new W2 26 _)
    have gz : Below W2.heap.size W2 WZ := by rw [hWZ]; exact (Below.refl _ _).alloc (Nat.le_refl _) _
    have HAZ := hid (HA2.out.mono gz)
    have GZ := hid (gr_trans G2.out gz)
    have HEZ := hid hWZ
    obtain ⟨i0, i1, i2, i3, i4, i5, i6, -⟩ := rowData HZ.out
    obtain ⟨j0, j1, j2, j3, j4, j5, j6, -⟩ := rowData HAZ.out
    have y0 := HAZ.out.frozen 0; have y1 := HAZ.out.frozen 1; have y2 := HAZ.out.frozen 2; have y3 := HAZ.out.frozen 3; have y4 := HAZ.out.frozen 4; have y5 := HAZ.out.frozen 5; have y6 := HAZ.out.frozen 6
    rw [hWZ, HE2.out] at i0 i1 i2 i3 i4 i5 i6 j0 j1 j2 j3 j4 j5 j6 y0 y1 y2 y3 y4 y5 y6

    clear hWZ gz
    go_wp2_with fail
    rw [← HE2.out, ← HEZ.out]
    refine bgetData_ret (.int .u32 0) (.int .u16 0) (.int .u16 0) (.bool false) (.bool false) (.bool false) (.slice none 0 0) 7 rfl rfl rfl (((((((HAZ.out.store 0 (.int .u32 0)).store 1 (.int .u16 0)).store 2 (.int .u16 0)).store 3 (.bool false)).store 4 (.bool false)).store 5 (.bool false)).store 6 (.slice none 0 0)) ⟨by rw [HCD.out], (((((((GZ.out.setCell (by simp; try omega) _).setCell (by simp; try omega) _).setCell (by simp; try omega) _).setCell (by simp; try omega) _).setCell (by simp; try omega) _).setCell (by simp; try omega) _).setCell (by simp; try omega) _)⟩
  · by_cases hk : kd = kc
    · by_cases hf : fd = fc
      · subst hk hf
        have hkb : ((kd.toNat : Int) == (kd.toNat : Int)) = true := by simp
        have hfb : ((fd.toNat : Int) == (fd.toNat : Int)) = true := by simp
        go_wp2_with fail
        rw [← HE2.out]
        refine (sliEq_any _ _ bd bc _ HO2.out.rd (HV.out.mono G2.out)).mono ?_
        rintro e w3 ⟨rfl, hb3⟩
        have HX3 := hid (HX2.out.mono hb3)
        have HA3 := hid (HA2.out.mono hb3)
        have G3 := hid (gr_trans G2.out hb3)
        clear hb3 k0 k1 k2 l0 l1 l2
        by_cases hq : bd = bc
        · rw [decide_eq_true hq]
          have HCD := hid (show res = Value.tuple #[.agg #[.int .u32 (tsn : Int), .int .u16 (st : Int), .int .u16 (ssn : Int), .bool un, .bool fi, .bool la, .slice px n cx], .int .i64 0] from by rw [HRES.out]; exact if_pos (by simp [hq]))
          obtain ⟨i0, i1, i2, i3, i4, i5, i6, -⟩ := rowData HX3.out
          obtain ⟨j0, j1, j2, j3, j4, j5, j6, -⟩ := rowData HA3.out
          have y0 := HA3.out.frozen 0; have y1 := HA3.out.frozen 1; have y2 := HA3.out.frozen 2; have y3 := HA3.out.frozen 3; have y4 := HA3.out.frozen 4; have y5 := HA3.out.frozen 5; have y6 := HA3.out.frozen 6
          clear hq
          go_wp2_with fail
          refine bgetData_ret (.int .u32 (tsn : Int)) (.int .u16 (st : Int)) (.int .u16 (ssn : Int)) (.bool un) (.bool fi) (.bool la) (.slice px n cx) 0 rfl rfl rfl (((((((HA3.out.store 0 (.int .u32 (tsn : Int))).store 1 (.int .u16 (st : Int))).store 2 (.int .u16 (ssn : Int))).store 3 (.bool un)).store 4 (.bool fi)).store 5 (.bool la)).store 6 (.slice px n cx)) ⟨by rw [HCD.out], (((((((G3.out.setCell (by simp; try omega) _).setCell (by simp; try omega) _).setCell (by simp; try omega) _).setCell (by simp; try omega) _).setCell (by simp; try omega) _).setCell (by simp; try omega) _).setCell (by simp; try omega) _)⟩
        · rw [decide_eq_false hq]
          have HCD := hid (show res = Value.tuple #[.agg #[.int .u32 0, .int .u16 0, .int .u16 0, .bool false, .bool false, .bool false, .slice none 0 0], .int .i64 7] from by rw [HRES.out]; exact if_neg (fun h => hq (congrArg Chk.b h.2)))
          clear hq
          obtain ⟨WZ, hWZ⟩ : ∃ W, W = w3.alloc (.cells #[.int .u32 0, .int .u16 0, .int .u16 0, .bool false, .bool false, .bool false, .slice none 0 0] 26 (0, 0)) := ⟨_, rfl⟩
          have HZ := hid (show RowV WZ w3.heap.size 26 [.int .u32 0, .int .u16 0, .int .u16 0, .bool false, .bool false, .bool false, .slice none 0 0] by rw [hWZ]; exact RowV.new w3 26 _)
          have gz : Below w3.heap.size w3 WZ := by rw [hWZ]; exact (Below.refl _ _).alloc (Nat.le_refl _) _
          have HAZ := hid (HA3.out.mono gz)
          have GZ := hid (gr_trans G3.out gz)
          have HEZ := hid hWZ
          obtain ⟨i0, i1, i2, i3, i4, i5, i6, -⟩ := rowData HZ.out
          obtain ⟨j0, j1, j2, j3, j4, j5, j6, -⟩ := rowData HAZ.out
          have y0 := HAZ.out.frozen 0; have y1 := HAZ.out.frozen 1; have y2 := HAZ.out.frozen 2; have y3 := HAZ.out.frozen 3; have y4 := HAZ.out.frozen 4; have y5 := HAZ.out.frozen 5; have y6 := HAZ.out.frozen 6
          rw [hWZ] at i0 i1 i2 i3 i4 i5 i6 j0 j1 j2 j3 j4 j5 j6 y0 y1 y2 y3 y4 y5 y6

          clear hWZ gz
          go_wp2_with fail
          rw [← HEZ.out]
          refine bgetData_ret (.int .u32 0) (.int .u16 0) (.int .u16 0) (.bool false) (.bool false) (.bool false) (.slice none 0 0) 7 rfl rfl rfl (((((((HAZ.out.store 0 (.int .u32 0)).store 1 (.int .u16 0)).store 2 (.int .u16 0)).store 3 (.bool false)).store 4 (.bool false)).store 5 (.bool false)).store 6 (.slice none 0 0)) ⟨by rw [HCD.out], (((((((GZ.out.setCell (by simp; try omega) _).setCell (by simp; try omega) _).setCell (by simp; try omega) _).setCell (by simp; try omega) _).setCell (by simp; try omega) _).setCell (by simp; try omega) _).setCell (by simp; try omega) _)⟩
      · have hkb : ((kd.toNat : Int) == (kc.toNat : Int)) = true := by rw [beq_iff_eq, HKE.out]; exact hk
        have hfb : ((fd.toNat : Int) == (fc.toNat : Int)) = false := by rw [beq_eq_false_iff_ne, ne_eq, HFE.out]; exact hf
        have HCD := hid (show res = Value.tuple #[.agg #[.int .u32 0, .int .u16 0, .int .u16 0, .bool false, .bool false, .bool false, .slice none 0 0], .int .i64 7] from by rw [HRES.out]; exact if_neg (fun h => hf (congrArg Chk.f h.2)))
        clear hk hf
        obtain ⟨WZ, hWZ⟩ : ∃ W, W = W2.alloc (.cells #[.int .u32 0, .int .u16 0, .int .u16 0, .bool false, .bool false, .bool false, .slice none 0 0] 26 (0, 0)) := ⟨_, rfl⟩
        have HZ := hid (show RowV WZ W2.heap.size 26 [.int .u32 0, .int .u16 0, .int .u16 0, .bool false, .bool false, .bool false, .slice none 0 0] by rw [hWZ]; exact RowV.new W2 26 _)
        have gz : Below W2.heap.size W2 WZ := by rw [hWZ]; exact (Below.refl _ _).alloc (Nat.le_refl _) _
        have HAZ := hid (HA2.out.mono gz)
        have GZ := hid (gr_trans G2.out gz)
        have HEZ := hid hWZ
        obtain ⟨i0, i1, i2, i3, i4, i5, i6, -⟩ := rowData HZ.out
        obtain ⟨j0, j1, j2, j3, j4, j5, j6, -⟩ := rowData HAZ.out
        have y0 := HAZ.out.frozen 0; have y1 := HAZ.out.frozen 1; have y2 := HAZ.out.frozen 2; have y3 := HAZ.out.frozen 3; have y4 := HAZ.out.frozen 4; have y5 := HAZ.out.frozen 5; have y6 := HAZ.out.frozen 6
        rw [hWZ, HE2.out] at i0 i1 i2 i3 i4 i5 i6 j0 j1 j2 j3 j4 j5 j6 y0 y1 y2 y3 y4 y5 y6

        clear hWZ gz
        go_wp2_with fail
        rw [← HE2.out, ← HEZ.out]
        refine bgetData_ret (.int .u32 0) (.int .u16 0) (.int .u16 0) (.bool false) (.bool false) (.bool false) (.slice none 0 0) 7 rfl rfl rfl (((((((HAZ.out.store 0 (.int .u32 0)).store 1 (.int .u16 0)).store 2 (.int .u16 0)).store 3 (.bool false)).store 4 (.bool false)).store 5 (.bool false)).store 6 (.slice none 0 0)) ⟨by rw [HCD.out], (((((((GZ.out.setCell (by simp; try omega) _).setCell (by simp; try omega) _).setCell (by simp; try omega) _).setCell (by simp; try omega) _).setCell (by simp; try omega) _).setCell (by simp; try omega) _).setCell (by simp; try omega) _)⟩
    · have hkb : ((kd.toNat : Int) == (kc.toNat : Int)) = false := by rw [beq_eq_false_iff_ne, ne_eq, HKE.out]; exact hk
      have HCD := hid (show res = Value.tuple #[.agg #[.int .u32 0, .int .u16 0, .int .u16 0, .bool false, .bool false, .bool false, .slice none 0 0], .int .i64 7] from by rw [HRES.out]; exact if_neg (fun h => hk (congrArg Chk.k h.2)))
      clear hk
      obtain ⟨WZ, hWZ⟩ : ∃ W, W = W2.alloc (.cells #[.int .u32 0, .int .u16 0, .int .u16 0, .bool false, .bool false, .bool false, .slice none 0 0] 26 (0, 0)) := ⟨_, rfl⟩
      have HZ := hid (show RowV WZ W2.heap.size 26 [.int .u32 0, .int .u16 0, .int .u16 0, .bool false, .bool false, .bool false, .slice none 0 0] by rw [hWZ]; exact RowV.new W2 26 _)
      have gz : Below W2.heap.size W2 WZ := by rw [hWZ]; exact (Below.refl _ _).alloc (Nat.le_refl _) _
      have HAZ := hid (HA2.out.mono gz)
      have GZ := hid (gr_trans G2.out gz)
      have HEZ := hid hWZ
      obtain ⟨i0, i1, i2, i3, i4, i5, i6, -⟩ := rowData HZ.out
      obtain ⟨j0, j1, j2, j3, j4, j5, j6, -⟩ := rowData HAZ.out
      have y0 := HAZ.out.frozen 0; have y1 := HAZ.out.frozen 1; have y2 := HAZ.out.frozen 2; have y3 := HAZ.out.frozen 3; have y4 := HAZ.out.frozen 4; have y5 := HAZ.out.frozen 5; have y6 := HAZ.out.frozen 6
      rw [hWZ, HE2.out] at i0 i1 i2 i3 i4 i5 i6 j0 j1 j2 j3 j4 j5 j6 y0 y1 y2 y3 y4 y5 y6

      clear hWZ gz
      go_wp2_with fail
      rw [← HE2.out, ← HEZ.out]
      refine bgetData_ret (.int .u32 0) (.int .u16 0) (.int .u16 0) (.bool false) (.bool false) (.bool false) (.slice none 0 0) 7 rfl rfl rfl (((((((HAZ.out.store 0 (.int .u32 0)).store 1 (.int .u16 0)).store 2 (.int .u16 0)).store 3 (.bool false)).store 4 (.bool false)).store 5 (.bool false)).store 6 (.slice none 0 0)) ⟨by rw [HCD.out], (((((((GZ.out.setCell (by simp; try omega) _).setCell (by simp; try omega) _).setCell (by simp; try omega) _).setCell (by simp; try omega) _).setCell (by simp; try omega) _).setCell (by simp; try omega) _).setCell (by simp; try omega) _)⟩
end Go.Proofs.Ytfiblhdejglpaaa

namespace Go.FL
open Go.RowKit
theorem rowSack {w : World} {g e : Nat} {v0 v1 v2 v3 : Value} (h : RowV w g e [v0, v1, v2, v3]) : w.cell? ⟨g, 0, none⟩ = some v0 ∧ w.cell? ⟨g, 1, none⟩ = some v1 ∧ w.cell? ⟨g, 2, none⟩ = some v2 ∧ w.cell? ⟨g, 3, none⟩ = some v3 ∧ True :=
  ⟨h.at 0 (by simp), h.at 1 (by simp), h.at 2 (by simp), h.at 3 (by simp), trivial⟩
end Go.FL
namespace Go.Proofs.Ytfiblhdejglpaaa
open Go.RowKit Go.FL Go.ChangeShapes

theorem bgetSack_ret {a : Act} {W : World} {g : Nat} {R : Ending → World → Prop} (v0 v1 v2 v3 : Value) (er : Int) (h8 : a.tmps.getD 8 undef = .pointer (some ⟨g, 0, none⟩)) (h9 : a.tmps.getD 9 undef = .int .i64 er) (hd : a.defers = [])
    (hc : RowV W g 45 [v0, v1, v2, v3]) (hR : R (.returned (.tuple #[.agg #[v0, v1, v2, v3], .int .i64 er])) W) : bodyPost Try.prog Try.f59 R .ret a W := by
  refine bodyPost_ret (v := .tuple #[.agg #[v0, v1, v2, v3], .int .i64 er]) ?_ hd hR
  obtain ⟨c0, c1, c2, c3, -⟩ := rowSack hc
  simp only [Array.getD_eq_getD_getElem?] at h8 h9
  simp [results, Try.results59, go_sem, h8, h9, asAddr, c0, c1, c2, c3]

set_option maxRecDepth 100000 in
set_option maxHeartbeats 4000000 in
theorem bgetSack_any (cum rwnd : Nat) (pg : Option Addr) (ng cg : Nat) (pd : Option Addr) (nd cd : Nat) (kc fc : UInt8) (s : Value) (bc : List UInt8) (may : Bool) (w : World) (hs : Rd w s bc) (dc : Chk)
    (hput : ∀ wx, Below w.heap.size w wx → Calls Try.prog 24 #[.agg #[.int .u32 (cum : Int), .int .u32 (rwnd : Int), .slice pg ng cg, .slice pd nd cd]] wx (RetChk wx 5 dc)) :
    Calls Try.prog 59 #[.agg #[.int .u8 (kc.toNat : Int), .int .u8 (fc.toNat : Int), s], .agg #[.int .u32 (cum : Int), .int .u32 (rwnd : Int), .slice pg ng cg, .slice pd nd cd], .bool may, .func (.func 24) #[] #[]] w
      fun e w' => e = .returned (if may = true ∧ dc = ⟨kc, fc, bc⟩ then .tuple #[.agg #[.int .u32 (cum : Int), .int .u32 (rwnd : Int), .slice pg ng cg, .slice pd nd cd], .int .i64 0] else .tuple #[.agg #[.int .u32 0, .int .u32 0, .slice none 0 0, .slice none 0 0], .int .i64 7]) ∧ Below w.heap.size w w' := by
  have HV := hid hs
  have HP := hid hput
  obtain ⟨p, c, rfl, hlc, hcm, hpn, hcell⟩ := hs
  unfold maxLen at hcm
  clear hcell hput
  obtain ⟨kd, fd, bd⟩ := dc
  obtain ⟨res, hres⟩ : ∃ r, r = (if may = true ∧ (⟨kd, fd, bd⟩ : Chk) = ⟨kc, fc, bc⟩ then Value.tuple #[.agg #[.int .u32 (cum : Int), .int .u32 (rwnd : Int), .slice pg ng cg, .slice pd nd cd], .int .i64 0] else .tuple #[.agg #[.int .u32 0, .int .u32 0, .slice none 0 0, .slice none 0 0], .int .i64 7]) := ⟨_, rfl⟩
  rw [← hres]
  have HRES := hid hres
  clear hres
  obtain ⟨Wa, hWa⟩ : ∃ W, W = w.alloc (.cells #[.int .u8 (kc.toNat : Int), .int .u8 (fc.toNat : Int), .slice p bc.length c] 28 (0, 0)) := ⟨_, rfl⟩
  have hsa : Wa.heap.size = w.heap.size + 1 := by rw [hWa]; simp
  obtain ⟨Wb, hWb⟩ : ∃ W, W = Wa.alloc (.cells #[.int .u32 (cum : Int), .int .u32 (rwnd : Int), .slice pg ng cg, .slice pd nd cd] 45 (0, 0)) := ⟨_, rfl⟩
  have hsb : Wb.heap.size = w.heap.size + 2 := by rw [hWb]; simp [hsa]
  obtain ⟨W, hW⟩ : ∃ W, W = Wb.alloc (.cells #[.int .u32 0, .int .u32 0, .slice none 0 0, .slice none 0 0] 45 (0, 0)) := ⟨_, rfl⟩
  have HC := hid (show RowV W w.heap.size 28 [.int .u8 (kc.toNat : Int), .int .u8 (fc.toNat : Int), .slice p bc.length c] by rw [hW, hWb, hWa]; exact ((RowV.new w 28 _).alloc _).alloc _)
  have HX := hid (show RowV W (w.heap.size + 1) 45 [.int .u32 (cum : Int), .int .u32 (rwnd : Int), .slice pg ng cg, .slice pd nd cd] by rw [hW, hWb, ← hsa]; exact (RowV.new Wa 45 _).alloc _)
  have HA := hid (show RowV W (w.heap.size + 2) 45 [.int .u32 0, .int .u32 0, .slice none 0 0, .slice none 0 0] by rw [hW, ← hsb]; exact RowV.new Wb 45 _)
  have G0 := hid (show Below w.heap.size w W by rw [hW, hWb, hWa]; exact (((Below.refl _ _).alloc (Nat.le_refl _) _).alloc (by simp) _).alloc (by simp; omega) _)
  rw [hWb, hWa] at hW
  have HE := hid hW
  obtain ⟨i0, i1, i2, i3, -⟩ := rowSack HX.out
  rw [hW] at i0 i1 i2 i3
  clear hW hWa hWb hsa hsb
  go_enter Try.func59, Try.ntmps59
  go_wp2_with fail
  rw [← HE.out]
  refine (HP.out _ G0.out).mono ?_
  rintro e w1 ⟨s1, rfl, ho1, hb1⟩
  simp only at ho1
  obtain ⟨p1, c1, rfl, hl1, hm1, -, -⟩ := ho1.rd
  unfold maxLen at hm1
  have HO1 := hid ho1
  obtain ⟨W2, hW2⟩ : ∃ W, W = w1.alloc (.cells #[.int .u8 (kd.toNat : Int), .int .u8 (fd.toNat : Int), .slice p1 bd.length c1] 28 (0, 0)) := ⟨_, rfl⟩
  have g2 : Below w1.heap.size w1 W2 := by rw [hW2]; exact (Below.refl _ _).alloc (Nat.le_refl _) _
  have HD2 := hid (show RowV W2 w1.heap.size 28 [.int .u8 (kd.toNat : Int), .int .u8 (fd.toNat : Int), .slice p1 bd.length c1] by rw [hW2]; exact RowV.new w1 28 _)
  have g12 := gr_trans hb1 g2
  have HC2 := hid (HC.out.mono g12)
  have HX2 := hid (HX.out.mono g12)
  have HA2 := hid (HA.out.mono g12)
  have G2 := hid (gr_trans G0.out g12)
  have HO2 := hid (HO1.out.mono g2)
  have HE2 := hid hW2
  obtain ⟨k0, k1, k2⟩ := HC2.out.three
  obtain ⟨l0, l1, l2⟩ := HD2.out.three
  rw [hW2] at k0 k1 k2 l0 l1 l2
  have bk := byte_lt kc
  have bk2 := byte_lt kd
  have bf := byte_lt fc
  have bf2 := byte_lt fd
  have HKE := hid (byte_eq kd kc)
  have HFE := hid (byte_eq fd fc)
  clear hb1 hW2 g2 g12 ho1 i0 i1 i2 i3
  cases may
  · have HCD := hid (show res = Value.tuple #[.agg #[.int .u32 0, .int .u32 0, .slice none 0 0, .slice none 0 0], .int .i64 7] from by rw [HRES.out]; exact if_neg (by simp))
    obtain ⟨WZ, hWZ⟩ : ∃ W, W = W2.alloc (.cells #[.int .u32 0, .int .u32 0, .slice none 0 0, .slice none 0 0] 45 (0, 0)) := ⟨_, rfl⟩
    have HZ := hid (show RowV WZ W2.heap.size 45 [.int .u32 0, .int .u32 0, .slice none 0 0, .slice none 0 0] by rw [hWZ]; exact RowV.new W2 45 _)
    have gz : Below W2.heap.size W2 WZ := by rw [hWZ]; exact (Below.refl _ _).alloc (Nat.le_refl _) _
    have HAZ := hid (HA2.out.mono gz)
    have GZ := hid (gr_trans G2.out gz)
    have HEZ := hid hWZ
    obtain ⟨i0, i1, i2, i3, -⟩ := rowSack HZ.out
    obtain ⟨j0, j1, j2, j3, -⟩ := rowSack HAZ.out
    have y0 := HAZ.out.frozen 0; have y1 := HAZ.out.frozen 1; have y2 := HAZ.out.frozen 2; have y3 := HAZ.out.frozen 3
    rw [hWZ, HE2.out] at i0 i1 i2 i3 j0 j1 j2 j3 y0 y1 y2 y3

    clear hWZ gz
    go_wp2_with fail
    rw [← HE2.out, ← HEZ.out]
    refine bgetSack_ret (.int .u32 0) (.int .u32 0) (.slice none 0 0) (.slice none 0 0) 7 rfl rfl rfl ((((HAZ.out.store 0 (.int .u32 0)).store 1 (.int .u32 0)).store 2 (.slice none 0 0)).store 3 (.slice none 0 0)) ⟨by rw [HCD.out], ((((GZ.out.setCell (by simp; try omega) _).setCell (by simp; try omega) _).setCell (by simp; try omega) _).setCell (by simp; try omega) _)⟩
  · by_cases hk : kd = kc
    · by_cases hf : fd = fc
      · subst hk hf
        have hkb : ((kd.toNat : Int) == (kd.toNat : Int)) = true := by simp
        have hfb : ((fd.toNat : Int) == (fd.toNat : Int)) = true := by simp
        go_wp2_with fail
        rw [← HE2.out]
        refine (sliEq_any _ _ bd bc _ HO2.out.rd (HV.out.mono G2.out)).mono ?_
        rintro e w3 ⟨rfl, hb3⟩
        have HX3 := hid (HX2.out.mono hb3)
        have HA3 := hid (HA2.out.mono hb3)
        have G3 := hid (gr_trans G2.out hb3)
        clear hb3 k0 k1 k2 l0 l1 l2
        by_cases hq : bd = bc
        · rw [decide_eq_true hq]
          have HCD := hid (show res = Value.tuple #[.agg #[.int .u32 (cum : Int), .int .u32 (rwnd : Int), .slice pg ng cg, .slice pd nd cd], .int .i64 0] from by rw [HRES.out]; exact if_pos (by simp [hq]))
          obtain ⟨i0, i1, i2, i3, -⟩ := rowSack HX3.out
          obtain ⟨j0, j1, j2, j3, -⟩ := rowSack HA3.out
          have y0 := HA3.out.frozen 0; have y1 := HA3.out.frozen 1; have y2 := HA3.out.frozen 2; have y3 := HA3.out.frozen 3
          clear hq
          go_wp2_with fail
          refine bgetSack_ret (.int .u32 (cum : Int)) (.int .u32 (rwnd : Int)) (.slice pg ng cg) (.slice pd nd cd) 0 rfl rfl rfl ((((HA3.out.store 0 (.int .u32 (cum : Int))).store 1 (.int .u32 (rwnd : Int))).store 2 (.slice pg ng cg)).store 3 (.slice pd nd cd)) ⟨by rw [HCD.out], ((((G3.out.setCell (by simp; try omega) _).setCell (by simp; try omega) _).setCell (by simp; try omega) _).setCell (by simp; try omega) _)⟩
        · rw [decide_eq_false hq]
          have HCD := hid (show res = Value.tuple #[.agg #[.int .u32 0, .int .u32 0, .slice none 0 0, .slice none 0 0], .int .i64 7] from by rw [HRES.out]; exact if_neg (fun h => hq (congrArg Chk.b h.2)))
          clear hq
          obtain ⟨WZ, hWZ⟩ : ∃ W, W = w3.alloc (.cells #[.int .u32 0, .int .u32 0, .slice none 0 0, .slice none 0 0] 45 (0, 0)) := ⟨_, rfl⟩
          have HZ := hid (show RowV WZ w3.heap.size 45 [.int .u32 0, .int .u32 0, .slice none 0 0, .slice none 0 0] by rw [hWZ]; exact RowV.new w3 45 _)
          have gz : Below w3.heap.size w3 WZ := by rw [hWZ]; exact (Below.refl _ _).alloc (Nat.le_refl _) _
          have HAZ := hid (HA3.out.mono gz)
          have GZ := hid (gr_trans G3.out gz)
          have HEZ := hid hWZ
          obtain ⟨i0, i1, i2, i3, -⟩ := rowSack HZ.out
          obtain ⟨j0, j1, j2, j3, -⟩ := rowSack HAZ.out
          have y0 := HAZ.out.frozen 0; have y1 := HAZ.out.frozen 1; have y2 := HAZ.out.frozen 2; have y3 := HAZ.out.frozen 3
          rw [hWZ] at i0 i1 i2 i3 j0 j1 j2 j3 y0 y1 y2 y3

          clear hWZ gz
          go_wp2_with fail
          rw [← HEZ.out]
          refine bgetSack_ret (.int .u32 0) (.int .u32 0) (.slice none 0 0) (.slice none 0 0) 7 rfl rfl rfl ((((HAZ.out.store 0 (.int .u32 0)).store 1 (.int .u32 0)).store 2 (.slice none 0 0)).store 3 (.slice none 0 0)) ⟨by rw [HCD.out], ((((GZ.out.setCell (by simp; try omega) _).setCell (by simp; try omega) _).setCell (by simp; try omega) _).setCell (by simp; try omega) _)⟩
      · have hkb : ((kd.toNat : Int) == (kc.toNat : Int)) = true := by rw [beq_iff_eq, HKE.out]; exact hk
        have hfb : ((fd.toNat : Int) == (fc.toNat : Int)) = false := by rw [beq_eq_false_iff_ne, ne_eq, HFE.out]; exact hf
        have HCD := hid (show res = Value.tuple #[.agg #[.int .u32 0, .int .u32 0, .slice none 0 0, .slice none 0 0], .int .i64 7] from by rw [HRES.out]; exact if_neg (fun h => hf (congrArg Chk.f h.2)))
        clear hk hf
        obtain ⟨WZ, hWZ⟩ : ∃ W, W = W2.alloc (.cells #[.int .u32 0, .int .u32 0, .slice none 0 0, .slice none 0 0] 45 (0, 0)) := ⟨_, rfl⟩
        have HZ := hid (show RowV WZ W2.heap.size 45 [.int .u32 0, .int .u32 0, .slice none 0 0, .slice none 0 0] by rw [hWZ]; exact RowV.new W2 45 _)
        have gz : Below W2.heap.size W2 WZ := by rw [hWZ]; exact (Below.refl _ _).alloc (Nat.le_refl _) _
        have HAZ := hid (HA2.out.mono gz)
        have GZ := hid (gr_trans G2.out gz)
        have HEZ := hid hWZ
        obtain ⟨i0, i1, i2, i3, -⟩ := rowSack HZ.out
        obtain ⟨j0, j1, j2, j3, -⟩ := rowSack HAZ.out
        have y0 := HAZ.out.frozen 0; have y1 := HAZ.out.frozen 1; have y2 := HAZ.out.frozen 2; have y3 := HAZ.out.frozen 3
        rw [hWZ, HE2.out] at i0 i1 i2 i3 j0 j1 j2 j3 y0 y1 y2 y3

        clear hWZ gz
        go_wp2_with fail
        rw [← HE2.out, ← HEZ.out]
        refine bgetSack_ret (.int .u32 0) (.int .u32 0) (.slice none 0 0) (.slice none 0 0) 7 rfl rfl rfl ((((HAZ.out.store 0 (.int .u32 0)).store 1 (.int .u32 0)).store 2 (.slice none 0 0)).store 3 (.slice none 0 0)) ⟨by rw [HCD.out], ((((GZ.out.setCell (by simp; try omega) _).setCell (by simp; try omega) _).setCell (by simp; try omega) _).setCell (by simp; try omega) _)⟩
    · have hkb : ((kd.toNat : Int) == (kc.toNat : Int)) = false := by rw [beq_eq_false_iff_ne, ne_eq, HKE.out]; exact hk
      have HCD := hid (show res = Value.tuple #[.agg #[.int .u32 0, .int .u32 0, .slice none 0 0, .slice none 0 0], .int .i64 7] from by rw [HRES.out]; exact if_neg (fun h => hk (congrArg Chk.k h.2)))
      clear hk
      obtain ⟨WZ, hWZ⟩ : ∃ W, W = W2.alloc (.cells #[.int .u32 0, .int .u32 0, .slice none 0 0, .slice none 0 0] 45 (0, 0)) := ⟨_, rfl⟩
      have HZ := hid (show RowV WZ W2.heap.size 45 [.int .u32 0, .int .u32 0, .slice none 0 0, .slice none 0 0] by rw [hWZ]; exact RowV.new W2 45 _)
      have gz : Below W2.heap.size W2 WZ := by rw [hWZ]; exact (Below.refl _ _).alloc (Nat.le_refl _) _
      have HAZ := hid (HA2.out.mono gz)
      have GZ := hid (gr_trans G2.out gz)
      have HEZ := hid hWZ
      obtain ⟨i0, i1, i2, i3, -⟩ := rowSack HZ.out
      obtain ⟨j0, j1, j2, j3, -⟩ := rowSack HAZ.out
      have y0 := HAZ.out.frozen 0; have y1 := HAZ.out.frozen 1; have y2 := HAZ.out.frozen 2; have y3 := HAZ.out.frozen 3
      rw [hWZ, HE2.out] at i0 i1 i2 i3 j0 j1 j2 j3 y0 y1 y2 y3

      clear hWZ gz
      go_wp2_with fail
      rw [← HE2.out, ← HEZ.out]
      refine bgetSack_ret (.int .u32 0) (.int .u32 0) (.slice none 0 0) (.slice none 0 0) 7 rfl rfl rfl ((((HAZ.out.store 0 (.int .u32 0)).store 1 (.int .u32 0)).store 2 (.slice none 0 0)).store 3 (.slice none 0 0)) ⟨by rw [HCD.out], ((((GZ.out.setCell (by simp; try omega) _).setCell (by simp; try omega) _).setCell (by simp; try omega) _).setCell (by simp; try omega) _)⟩
end Go.Proofs.Ytfiblhdejglpaaa

namespace Go.FL
open Go.RowKit
theorem rowFwd {w : World} {g e : Nat} {v0 v1 : Value} (h : RowV w g e [v0, v1]) : w.cell? ⟨g, 0, none⟩ = some v0 ∧ w.cell? ⟨g, 1, none⟩ = some v1 ∧ True :=
  ⟨h.at 0 (by simp), h.at 1 (by simp), trivial⟩
end Go.FL
namespace Go.Proofs.Ytfiblhdejglpaaa
open Go.RowKit Go.FL Go.ChangeShapes

theorem bgetFwd_ret {a : Act} {W : World} {g : Nat} {R : Ending → World → Prop} (v0 v1 : Value) (er : Int) (h8 : a.tmps.getD 8 undef = .pointer (some ⟨g, 0, none⟩)) (h9 : a.tmps.getD 9 undef = .int .i64 er) (hd : a.defers = [])
    (hc : RowV W g 49 [v0, v1]) (hR : R (.returned (.tuple #[.agg #[v0, v1], .int .i64 er])) W) : bodyPost Try.prog Try.f61 R .ret a W := by
  refine bodyPost_ret (v := .tuple #[.agg #[v0, v1], .int .i64 er]) ?_ hd hR
  obtain ⟨c0, c1, -⟩ := rowFwd hc
  simp only [Array.getD_eq_getD_getElem?] at h8 h9
  simp [results, Try.results61, go_sem, h8, h9, asAddr, c0, c1]

set_option maxRecDepth 100000 in
set_option maxHeartbeats 4000000 in
theorem bgetFwd_any (cum : Nat) (pg : Option Addr) (ng cg : Nat) (kc fc : UInt8) (s : Value) (bc : List UInt8) (may : Bool) (w : World) (hs : Rd w s bc) (dc : Chk)
    (hput : ∀ wx, Below w.heap.size w wx → Calls Try.prog 29 #[.agg #[.int .u32 (cum : Int), .slice pg ng cg]] wx (RetChk wx 5 dc)) :
    Calls Try.prog 61 #[.agg #[.int .u8 (kc.toNat : Int), .int .u8 (fc.toNat : Int), s], .agg #[.int .u32 (cum : Int), .slice pg ng cg], .bool may, .func (.func 29) #[] #[]] w
      fun e w' => e = .returned (if may = true ∧ dc = ⟨kc, fc, bc⟩ then .tuple #[.agg #[.int .u32 (cum : Int), .slice pg ng cg], .int .i64 0] else .tuple #[.agg #[.int .u32 0, .slice none 0 0], .int .i64 7]) ∧ Below w.heap.size w w' := by
  have HV := hid hs
  have HP := hid hput
  obtain ⟨p, c, rfl, hlc, hcm, hpn, hcell⟩ := hs
  unfold maxLen at hcm
  clear hcell hput
  obtain ⟨kd, fd, bd⟩ := dc
  obtain ⟨res, hres⟩ : ∃ r, r = (if may = true ∧ (⟨kd, fd, bd⟩ : Chk) = ⟨kc, fc, bc⟩ then Value.tuple #[.agg #[.int .u32 (cum : Int), .slice pg ng cg], .int .i64 0] else .tuple #[.agg #[.int .u32 0, .slice none 0 0], .int .i64 7]) := ⟨_, rfl⟩
  rw [← hres]
  have HRES := hid hres
  clear hres
  obtain ⟨Wa, hWa⟩ : ∃ W, W = w.alloc (.cells #[.int .u8 (kc.toNat : Int), .int .u8 (fc.toNat : Int), .slice p bc.length c] 28 (0, 0)) := ⟨_, rfl⟩
  have hsa : Wa.heap.size = w.heap.size + 1 := by rw [hWa]; simp
  obtain ⟨Wb, hWb⟩ : ∃ W, W = Wa.alloc (.cells #[.int .u32 (cum : Int), .slice pg ng cg] 49 (0, 0)) := ⟨_, rfl⟩
  have hsb : Wb.heap.size = w.heap.size + 2 := by rw [hWb]; simp [hsa]
  obtain ⟨W, hW⟩ : ∃ W, W = Wb.alloc (.cells #[.int .u32 0, .slice none 0 0] 49 (0, 0)) := ⟨_, rfl⟩
  have HC := hid (show RowV W w.heap.size 28 [.int .u8 (kc.toNat : Int), .int .u8 (fc.toNat : Int), .slice p bc.length c] by rw [hW, hWb, hWa]; exact ((RowV.new w 28 _).alloc _).alloc _)
  have HX := hid (show RowV W (w.heap.size + 1) 49 [.int .u32 (cum : Int), .slice pg ng cg] by rw [hW, hWb, ← hsa]; exact (RowV.new Wa 49 _).alloc _)
  have HA := hid (show RowV W (w.heap.size + 2) 49 [.int .u32 0, .slice none 0 0] by rw [hW, ← hsb]; exact RowV.new Wb 49 _)
  have G0 := hid (show Below w.heap.size w W by rw [hW, hWb, hWa]; exact (((Below.refl _ _).alloc (Nat.le_refl _) _).alloc (by simp) _).alloc (by simp; omega) _)
  rw [hWb, hWa] at hW
  have HE := hid hW
  obtain ⟨i0, i1, -⟩ := rowFwd HX.out
  rw [hW] at i0 i1
  clear hW hWa hWb hsa hsb
  go_enter Try.func61, Try.ntmps61
  go_wp2_with fail
  rw [← HE.out]
  refine (HP.out _ G0.out).mono ?_
  rintro e w1 ⟨s1, rfl, ho1, hb1⟩
  simp only at ho1
  obtain ⟨p1, c1, rfl, hl1, hm1, -, -⟩ := ho1.rd
  unfold maxLen at hm1
  have HO1 := hid ho1
  obtain ⟨W2, hW2⟩ : ∃ W, W = w1.alloc (.cells #[.int .u8 (kd.toNat : Int), .int .u8 (fd.toNat : Int), .slice p1 bd.length c1] 28 (0, 0)) := ⟨_, rfl⟩
  have g2 : Below w1.heap.size w1 W2 := by rw [hW2]; exact (Below.refl _ _).alloc (Nat.le_refl _) _
  have HD2 := hid (show RowV W2 w1.heap.size 28 [.int .u8 (kd.toNat : Int), .int .u8 (fd.toNat : Int), .slice p1 bd.length c1] by rw [hW2]; exact RowV.new w1 28 _)
  have g12 := gr_trans hb1 g2
  have HC2 := hid (HC.out.mono g12)
  have HX2 := hid (HX.out.mono g12)
  have HA2 := hid (HA.out.mono g12)
  have G2 := hid (gr_trans G0.out g12)
  have HO2 := hid (HO1.out.mono g2)
  have HE2 := hid hW2
  obtain ⟨k0, k1, k2⟩ := HC2.out.three
  obtain ⟨l0, l1, l2⟩ := HD2.out.three
  rw [hW2] at k0 k1 k2 l0 l1 l2
  have bk := byte_lt kc
  have bk2 := byte_lt kd
  have bf := byte_lt fc
  have bf2 := byte_lt fd
  have HKE := hid (byte_eq kd kc)
  have HFE := hid (byte_eq fd fc)
  clear hb1 hW2 g2 g12 ho1 i0 i1
  cases may
  · have HCD := hid (show res = Value.tuple #[.agg #[.int .u32 0, .slice none 0 0], .int .i64 7] from by rw [HRES.out]; exact if_neg (by simp))
    obtain ⟨WZ, hWZ⟩ : ∃ W, W = W2.alloc (.cells #[.int .u32 0, .slice none 0 0] 49 (0, 0)) := ⟨_, rfl⟩
    have HZ := hid (show RowV WZ W2.heap.size 49 [.int .u32 0, .slice none 0 0] by rw [hWZ]; exact RowV.new W2 49 _)
    have gz : Below W2.heap.size W2 WZ := by rw [hWZ]; exact (Below.refl _ _).alloc (Nat.le_refl _) _
    have HAZ := hid (HA2.out.mono gz)
    have GZ := hid (gr_trans G2.out gz)
    have HEZ := hid hWZ
    obtain ⟨i0, i1, -⟩ := rowFwd HZ.out
    obtain ⟨j0, j1, -⟩ := rowFwd HAZ.out
    have y0 := HAZ.out.frozen 0; have y1 := HAZ.out.frozen 1
    rw [hWZ, HE2.out] at i0 i1 j0 j1 y0 y1

    clear hWZ gz
    go_wp2_with fail
    rw [← HE2.out, ← HEZ.out]
    refine bgetFwd_ret (.int .u32 0) (.slice none 0 0) 7 rfl rfl rfl ((HAZ.out.store 0 (.int .u32 0)).store 1 (.slice none 0 0)) ⟨by rw [HCD.out], ((GZ.out.setCell (by simp; try omega) _).setCell (by simp; try omega) _)⟩
  · by_cases hk : kd = kc
    · by_cases hf : fd = fc
      · subst hk hf
        have hkb : ((kd.toNat : Int) == (kd.toNat : Int)) = true := by simp
        have hfb : ((fd.toNat : Int) == (fd.toNat : Int)) = true := by simp
        go_wp2_with fail
        rw [← HE2.out]
        refine (sliEq_any _ _ bd bc _ HO2.out.rd (HV.out.mono G2.out)).mono ?_
        rintro e w3 ⟨rfl, hb3⟩
        have HX3 := hid (HX2.out.mono hb3)
        have HA3 := hid (HA2.out.mono hb3)
        have G3 := hid (gr_trans G2.out hb3)
        clear hb3 k0 k1 k2 l0 l1 l2
        by_cases hq : bd = bc
        · rw [decide_eq_true hq]
          have HCD := hid (show res = Value.tuple #[.agg #[.int .u32 (cum : Int), .slice pg ng cg], .int .i64 0] from by rw [HRES.out]; exact if_pos (by simp [hq]))
          obtain ⟨i0, i1, -⟩ := rowFwd HX3.out
          obtain ⟨j0, j1, -⟩ := rowFwd HA3.out
          have y0 := HA3.out.frozen 0; have y1 := HA3.out.frozen 1
          clear hq
          go_wp2_with fail
          refine bgetFwd_ret (.int .u32 (cum : Int)) (.slice pg ng cg) 0 rfl rfl rfl ((HA3.out.store 0 (.int .u32 (cum : Int))).store 1 (.slice pg ng cg)) ⟨by rw [HCD.out], ((G3.out.setCell (by simp; try omega) _).setCell (by simp; try omega) _)⟩
        · rw [decide_eq_false hq]
          have HCD := hid (show res = Value.tuple #[.agg #[.int .u32 0, .slice none 0 0], .int .i64 7] from by rw [HRES.out]; exact if_neg (fun h => hq (congrArg Chk.b h.2)))
          clear hq
          obtain ⟨WZ, hWZ⟩ : ∃ W, W = w3.alloc (.cells #[.int .u32 0, .slice none 0 0] 49 (0, 0)) := ⟨_, rfl⟩
          have HZ := hid (show RowV WZ w3.heap.size 49 [.int .u32 0, .slice none 0 0] by rw [hWZ]; exact RowV.new w3 49 _)
          have gz : Below w3.heap.size w3 WZ := by rw [hWZ]; exact (Below.refl _ _).alloc (Nat.le_refl _) _
          have HAZ := hid (HA3.out.mono gz)
          have GZ := hid (gr_trans G3.out gz)
          have HEZ := hid hWZ
          obtain ⟨i0, i1, -⟩ := rowFwd HZ.out
          obtain ⟨j0, j1, -⟩ := rowFwd HAZ.out
          have y0 := HAZ.out.frozen 0; have y1 := HAZ.out.frozen 1
          rw [hWZ] at i0 i1 j0 j1 y0 y1

          clear hWZ gz
          go_wp2_with fail
          rw [← HEZ.out]
          refine bgetFwd_ret (.int .u32 0) (.slice none 0 0) 7 rfl rfl rfl ((HAZ.out.store 0 (.int .u32 0)).store 1 (.slice none 0 0)) ⟨by rw [HCD.out], ((GZ.out.setCell (by simp; try omega) _).setCell (by simp; try omega) _)⟩
      · have hkb : ((kd.toNat : Int) == (kc.toNat : Int)) = true := by rw [beq_iff_eq, HKE.out]; exact hk
        have hfb : ((fd.toNat : Int) == (fc.toNat : Int)) = false := by rw [beq_eq_false_iff_ne, ne_eq, HFE.out]; exact hf
        have HCD := hid (show res = Value.tuple #[.agg #[.int .u32 0, .slice none 0 0], .int .i64 7] from by rw [HRES.out]; exact if_neg (fun h => hf (congrArg Chk.f h.2)))
        clear hk hf
        obtain ⟨WZ, hWZ⟩ : ∃ W, W = W2.alloc (.cells #[.int .u32 0, .slice none 0 0] 49 (0, 0)) := ⟨_, rfl⟩
        have HZ := hid (show RowV WZ W2.heap.size 49 [.int .u32 0, .slice none 0 0] by rw [hWZ]; exact RowV.new W2 49 _)
        have gz : Below W2.heap.size W2 WZ := by rw [hWZ]; exact (Below.refl _ _).alloc (Nat.le_refl _) _
        have HAZ := hid (HA2.out.mono gz)
        have GZ := hid (gr_trans G2.out gz)
        have HEZ := hid hWZ
        obtain ⟨i0, i1, -⟩ := rowFwd HZ.out
        obtain ⟨j0, j1, -⟩ := rowFwd HAZ.out
        have y0 := HAZ.out.frozen 0; have y1 := HAZ.out.frozen 1
        rw [hWZ, HE2.out] at i0 i1 j0 j1 y0 y1

        clear hWZ gz
        go_wp2_with fail
        rw [← HE2.out, ← HEZ.out]
        refine bgetFwd_ret (.int .u32 0) (.slice none 0 0) 7 rfl rfl rfl ((HAZ.out.store 0 (.int .u32 0)).store 1 (.slice none 0 0)) ⟨by rw [HCD.out], ((GZ.out.setCell (by simp; try omega) _).setCell (by simp; try omega) _)⟩
    · have hkb : ((kd.toNat : Int) == (kc.toNat : Int)) = false := by rw [beq_eq_false_iff_ne, ne_eq, HKE.out]; exact hk
      have HCD := hid (show res = Value.tuple #[.agg #[.int .u32 0, .slice none 0 0], .int .i64 7] from by rw [HRES.out]; exact if_neg (fun h => hk (congrArg Chk.k h.2)))
      clear hk
      obtain ⟨WZ, hWZ⟩ : ∃ W, W = W2.alloc (.cells #[.int .u32 0, .slice none 0 0] 49 (0, 0)) := ⟨_, rfl⟩
      have HZ := hid (show RowV WZ W2.heap.size 49 [.int .u32 0, .slice none 0 0] by rw [hWZ]; exact RowV.new W2 49 _)
      have gz : Below W2.heap.size W2 WZ := by rw [hWZ]; exact (Below.refl _ _).alloc (Nat.le_refl _) _
      have HAZ := hid (HA2.out.mono gz)
      have GZ := hid (gr_trans G2.out gz)
      have HEZ := hid hWZ
      obtain ⟨i0, i1, -⟩ := rowFwd HZ.out
      obtain ⟨j0, j1, -⟩ := rowFwd HAZ.out
      have y0 := HAZ.out.frozen 0; have y1 := HAZ.out.frozen 1
      rw [hWZ, HE2.out] at i0 i1 j0 j1 y0 y1

      clear hWZ gz
      go_wp2_with fail
      rw [← HE2.out, ← HEZ.out]
      refine bgetFwd_ret (.int .u32 0) (.slice none 0 0) 7 rfl rfl rfl ((HAZ.out.store 0 (.int .u32 0)).store 1 (.slice none 0 0)) ⟨by rw [HCD.out], ((GZ.out.setCell (by simp; try omega) _).setCell (by simp; try omega) _)⟩
end Go.Proofs.Ytfiblhdejglpaaa

namespace Go.FL
open Go.RowKit
theorem rowInit {w : World} {g e : Nat} {v0 v1 v2 v3 v4 v5 : Value} (h : RowV w g e [v0, v1, v2, v3, v4, v5]) : w.cell? ⟨g, 0, none⟩ = some v0 ∧ w.cell? ⟨g, 1, none⟩ = some v1 ∧ w.cell? ⟨g, 2, none⟩ = some v2 ∧ w.cell? ⟨g, 3, none⟩ = some v3 ∧ w.cell? ⟨g, 4, none⟩ = some v4 ∧ w.cell? ⟨g, 5, none⟩ = some v5 ∧ True :=
  ⟨h.at 0 (by simp), h.at 1 (by simp), h.at 2 (by simp), h.at 3 (by simp), h.at 4 (by simp), h.at 5 (by simp), trivial⟩
end Go.FL
namespace Go.Proofs.Ytfiblhdejglpaaa
open Go.RowKit Go.FL Go.ChangeShapes

theorem bgetInit_ret {a : Act} {W : World} {g : Nat} {R : Ending → World → Prop} (v0 v1 v2 v3 v4 v5 : Value) (er : Int) (h8 : a.tmps.getD 8 undef = .pointer (some ⟨g, 0, none⟩)) (h9 : a.tmps.getD 9 undef = .int .i64 er) (hd : a.defers = [])
    (hc : RowV W g 70 [v0, v1, v2, v3, v4, v5]) (hR : R (.returned (.tuple #[.agg #[v0, v1, v2, v3, v4, v5], .int .i64 er])) W) : bodyPost Try.prog Try.f66 R .ret a W := by
  refine bodyPost_ret (v := .tuple #[.agg #[v0, v1, v2, v3, v4, v5], .int .i64 er]) ?_ hd hR
  obtain ⟨c0, c1, c2, c3, c4, c5, -⟩ := rowInit hc
  simp only [Array.getD_eq_getD_getElem?] at h8 h9
  simp [results, Try.results66, go_sem, h8, h9, asAddr, c0, c1, c2, c3, c4, c5]

set_option maxRecDepth 100000 in
set_option maxHeartbeats 4000000 in
theorem bgetInit_any (tag rwnd out in_ tsn : Nat) (px : Option Addr) (n cx gc : Nat) (kc fc : UInt8) (s : Value) (bc : List UInt8) (may : Bool) (w : World) (hs : Rd w s bc) (dc : Chk)
    (hput : ∀ wx, Below w.heap.size w wx → Calls Try.prog 67 #[.agg #[.int .u32 (tag : Int), .int .u32 (rwnd : Int), .int .u16 (out : Int), .int .u16 (in_ : Int), .int .u32 (tsn : Int), .slice px n cx], .pointer (some ⟨gc, 0, none⟩)] wx (RetChk wx 5 dc)) :
    Calls Try.prog 66 #[.agg #[.int .u8 (kc.toNat : Int), .int .u8 (fc.toNat : Int), s], .agg #[.int .u32 (tag : Int), .int .u32 (rwnd : Int), .int .u16 (out : Int), .int .u16 (in_ : Int), .int .u32 (tsn : Int), .slice px n cx], .bool may, .func (.func 67) #[] #[.pointer (some ⟨gc, 0, none⟩)]] w
      fun e w' => e = .returned (if may = true ∧ dc = ⟨kc, fc, bc⟩ then .tuple #[.agg #[.int .u32 (tag : Int), .int .u32 (rwnd : Int), .int .u16 (out : Int), .int .u16 (in_ : Int), .int .u32 (tsn : Int), .slice px n cx], .int .i64 0] else .tuple #[.agg #[.int .u32 0, .int .u32 0, .int .u16 0, .int .u16 0, .int .u32 0, .slice none 0 0], .int .i64 7]) ∧ Below w.heap.size w w' := by
  have HV := hid hs
  have HP := hid hput
  obtain ⟨p, c, rfl, hlc, hcm, hpn, hcell⟩ := hs
  unfold maxLen at hcm
  clear hcell hput
  obtain ⟨kd, fd, bd⟩ := dc
  obtain ⟨res, hres⟩ : ∃ r, r = (if may = true ∧ (⟨kd, fd, bd⟩ : Chk) = ⟨kc, fc, bc⟩ then Value.tuple #[.agg #[.int .u32 (tag : Int), .int .u32 (rwnd : Int), .int .u16 (out : Int), .int .u16 (in_ : Int), .int .u32 (tsn : Int), .slice px n cx], .int .i64 0] else .tuple #[.agg #[.int .u32 0, .int .u32 0, .int .u16 0, .int .u16 0, .int .u32 0, .slice none 0 0], .int .i64 7]) := ⟨_, rfl⟩
  rw [← hres]
  have HRES := hid hres
  clear hres
  obtain ⟨Wa, hWa⟩ : ∃ W, W = w.alloc (.cells #[.int .u8 (kc.toNat : Int), .int .u8 (fc.toNat : Int), .slice p bc.length c] 28 (0, 0)) := ⟨_, rfl⟩
  have hsa : Wa.heap.size = w.heap.size + 1 := by rw [hWa]; simp
  obtain ⟨Wb, hWb⟩ : ∃ W, W = Wa.alloc (.cells #[.int .u32 (tag : Int), .int .u32 (rwnd : Int), .int .u16 (out : Int), .int .u16 (in_ : Int), .int .u32 (tsn : Int), .slice px n cx] 70 (0, 0)) := ⟨_, rfl⟩
  have hsb : Wb.heap.size = w.heap.size + 2 := by rw [hWb]; simp [hsa]
  obtain ⟨W, hW⟩ : ∃ W, W = Wb.alloc (.cells #[.int .u32 0, .int .u32 0, .int .u16 0, .int .u16 0, .int .u32 0, .slice none 0 0] 70 (0, 0)) := ⟨_, rfl⟩
  have HC := hid (show RowV W w.heap.size 28 [.int .u8 (kc.toNat : Int), .int .u8 (fc.toNat : Int), .slice p bc.length c] by rw [hW, hWb, hWa]; exact ((RowV.new w 28 _).alloc _).alloc _)
  have HX := hid (show RowV W (w.heap.size + 1) 70 [.int .u32 (tag : Int), .int .u32 (rwnd : Int), .int .u16 (out : Int), .int .u16 (in_ : Int), .int .u32 (tsn : Int), .slice px n cx] by rw [hW, hWb, ← hsa]; exact (RowV.new Wa 70 _).alloc _)
  have HA := hid (show RowV W (w.heap.size + 2) 70 [.int .u32 0, .int .u32 0, .int .u16 0, .int .u16 0, .int .u32 0, .slice none 0 0] by rw [hW, ← hsb]; exact RowV.new Wb 70 _)
  have G0 := hid (show Below w.heap.size w W by rw [hW, hWb, hWa]; exact (((Below.refl _ _).alloc (Nat.le_refl _) _).alloc (by simp) _).alloc (by simp; omega) _)
  rw [hWb, hWa] at hW
  have HE := hid hW
  obtain ⟨i0, i1, i2, i3, i4, i5, -⟩ := rowInit HX.out
  rw [hW] at i0 i1 i2 i3 i4 i5
  clear hW hWa hWb hsa hsb
  go_enter Try.func66, Try.ntmps66
  go_wp2_with fail
  rw [← HE.out]
  refine (HP.out _ G0.out).mono ?_
  rintro e w1 ⟨s1, rfl, ho1, hb1⟩
  simp only at ho1
  obtain ⟨p1, c1, rfl, hl1, hm1, -, -⟩ := ho1.rd
  unfold maxLen at hm1
  have HO1 := hid ho1
  obtain ⟨W2, hW2⟩ : ∃ W, W = w1.alloc (.cells #[.int .u8 (kd.toNat : Int), .int .u8 (fd.toNat : Int), .slice p1 bd.length c1] 28 (0, 0)) := ⟨_, rfl⟩
  have g2 : Below w1.heap.size w1 W2 := by rw [hW2]; exact (Below.refl _ _).alloc (Nat.le_refl _) _
  have HD2 := hid (show RowV W2 w1.heap.size 28 [.int .u8 (kd.toNat : Int), .int .u8 (fd.toNat : Int), .slice p1 bd.length c1] by rw [hW2]; exact RowV.new w1 28 _)
  have g12 := gr_trans hb1 g2
  have HC2 := hid (HC.out.mono g12)
  have HX2 := hid (HX.out.mono g12)
  have HA2 := hid (HA.out.mono g12)
  have G2 := hid (gr_trans G0.out g12)
  have HO2 := hid (HO1.out.mono g2)
  have HE2 := hid hW2
  obtain ⟨k0, k1, k2⟩ := HC2.out.three
  obtain ⟨l0, l1, l2⟩ := HD2.out.three
  rw [hW2] at k0 k1 k2 l0 l1 l2
  have bk := byte_lt kc
  have bk2 := byte_lt kd
  have bf := byte_lt fc
  have bf2 := byte_lt fd
  have HKE := hid (byte_eq kd kc)
  have HFE := hid (byte_eq fd fc)
  clear hb1 hW2 g2 g12 ho1 i0 i1 i2 i3 i4 i5
  cases may
  · have HCD := hid (show res = Value.tuple #[.agg #[.int .u32 0, .int .u32 0, .int .u16 0, .int .u16 0, .int .u32 0, .slice none 0 0], .int .i64 7] from by rw [HRES.out]; exact if_neg (by simp))
    obtain ⟨WZ, hWZ⟩ : ∃ W, W = W2.alloc (.cells #[.int .u32 0, .int .u32 0, .int .u16 0, .int .u16 0, .int .u32 0, .slice none 0 0] 70 (0, 0)) := ⟨_, rfl⟩
    have HZ := hid (show RowV WZ W2.heap.size 70 [.int .u32 0, .int .u32 0, .int .u16 0, .int .u16 0, .int .u32 0, .slice none 0 0] by rw [hWZ]; exact RowV.new W2 70 _)
    have gz : Below W2.heap.size W2 WZ := by rw [hWZ]; exact (Below.refl _ _).alloc (Nat.le_refl _) _
    have HAZ := hid (HA2.out.mono gz)
    have GZ := hid (gr_trans G2.out gz)
    have HEZ := hid hWZ
    obtain ⟨i0, i1, i2, i3, i4, i5, -⟩ := rowInit HZ.out
    obtain ⟨j0, j1, j2, j3, j4, j5, -⟩ := rowInit HAZ.out
    have y0 := HAZ.out.frozen 0; have y1 := HAZ.out.frozen 1; have y2 := HAZ.out.frozen 2; have y3 := HAZ.out.frozen 3; have y4 := HAZ.out.frozen 4; have y5 := HAZ.out.frozen 5
    rw [hWZ, HE2.out] at i0 i1 i2 i3 i4 i5 j0 j1 j2 j3 j4 j5 y0 y1 y2 y3 y4 y5

    clear hWZ gz
    go_wp2_with fail
    rw [← HE2.out, ← HEZ.out]
    refine bgetInit_ret (.int .u32 0) (.int .u32 0) (.int .u16 0) (.int .u16 0) (.int .u32 0) (.slice none 0 0) 7 rfl rfl rfl ((((((HAZ.out.store 0 (.int .u32 0)).store 1 (.int .u32 0)).store 2 (.int .u16 0)).store 3 (.int .u16 0)).store 4 (.int .u32 0)).store 5 (.slice none 0 0)) ⟨by rw [HCD.out], ((((((GZ.out.setCell (by simp; try omega) _).setCell (by simp; try omega) _).setCell (by simp; try omega) _).setCell (by simp; try omega) _).setCell (by simp; try omega) _).setCell (by simp; try omega) _)⟩
  · by_cases hk : kd = kc
    · by_cases hf : fd = fc
      · subst hk hf
        have hkb : ((kd.toNat : Int) == (kd.toNat : Int)) = true := by simp
        have hfb : ((fd.toNat : Int) == (fd.toNat : Int)) = true := by simp
        go_wp2_with fail
        rw [← HE2.out]
        refine (sliEq_any _ _ bd bc _ HO2.out.rd (HV.out.mono G2.out)).mono ?_
        rintro e w3 ⟨rfl, hb3⟩
        have HX3 := hid (HX2.out.mono hb3)
        have HA3 := hid (HA2.out.mono hb3)
        have G3 := hid (gr_trans G2.out hb3)
        clear hb3 k0 k1 k2 l0 l1 l2
        by_cases hq : bd = bc
        · rw [decide_eq_true hq]
          have HCD := hid (show res = Value.tuple #[.agg #[.int .u32 (tag : Int), .int .u32 (rwnd : Int), .int .u16 (out : Int), .int .u16 (in_ : Int), .int .u32 (tsn : Int), .slice px n cx], .int .i64 0] from by rw [HRES.out]; exact if_pos (by simp [hq]))
          obtain ⟨i0, i1, i2, i3, i4, i5, -⟩ := rowInit HX3.out
          obtain ⟨j0, j1, j2, j3, j4, j5, -⟩ := rowInit HA3.out
          have y0 := HA3.out.frozen 0; have y1 := HA3.out.frozen 1; have y2 := HA3.out.frozen 2; have y3 := HA3.out.frozen 3; have y4 := HA3.out.frozen 4; have y5 := HA3.out.frozen 5
          clear hq
          go_wp2_with fail
          refine bgetInit_ret (.int .u32 (tag : Int)) (.int .u32 (rwnd : Int)) (.int .u16 (out : Int)) (.int .u16 (in_ : Int)) (.int .u32 (tsn : Int)) (.slice px n cx) 0 rfl rfl rfl ((((((HA3.out.store 0 (.int .u32 (tag : Int))).store 1 (.int .u32 (rwnd : Int))).store 2 (.int .u16 (out : Int))).store 3 (.int .u16 (in_ : Int))).store 4 (.int .u32 (tsn : Int))).store 5 (.slice px n cx)) ⟨by rw [HCD.out], ((((((G3.out.setCell (by simp; try omega) _).setCell (by simp; try omega) _).setCell (by simp; try omega) _).setCell (by simp; try omega) _).setCell (by simp; try omega) _).setCell (by simp; try omega) _)⟩
        · rw [decide_eq_false hq]
          have HCD := hid (show res = Value.tuple #[.agg #[.int .u32 0, .int .u32 0, .int .u16 0, .int .u16 0, .int .u32 0, .slice none 0 0], .int .i64 7] from by rw [HRES.out]; exact if_neg (fun h => hq (congrArg Chk.b h.2)))
          clear hq
          obtain ⟨WZ, hWZ⟩ : ∃ W, W = w3.alloc (.cells #[.int .u32 0, .int .u32 0, .int .u16 0, .int .u16 0, .int .u32 0, .slice none 0 0] 70 (0, 0)) := ⟨_, rfl⟩
          have HZ := hid (show RowV WZ w3.heap.size 70 [.int .u32 0, .int .u32 0, .int .u16 0, .int .u16 0, .int .u32 0, .slice none 0 0] by rw [hWZ]; exact RowV.new w3 70 _)
          have gz : Below w3.heap.size w3 WZ := by rw [hWZ]; exact (Below.refl _ _).alloc (Nat.le_refl _) _
          have HAZ := hid (HA3.out.mono gz)
          have GZ := hid (gr_trans G3.out gz)
          have HEZ := hid hWZ
          obtain ⟨i0, i1, i2, i3, i4, i5, -⟩ := rowInit HZ.out
          obtain ⟨j0, j1, j2, j3, j4, j5, -⟩ := rowInit HAZ.out
          have y0 := HAZ.out.frozen 0; have y1 := HAZ.out.frozen 1; have y2 := HAZ.out.frozen 2; have y3 := HAZ.out.frozen 3; have y4 := HAZ.out.frozen 4; have y5 := HAZ.out.frozen 5
          rw [hWZ] at i0 i1 i2 i3 i4 i5 j0 j1 j2 j3 j4 j5 y0 y1 y2 y3 y4 y5

          clear hWZ gz
          go_wp2_with fail
          rw [← HEZ.out]
          refine bgetInit_ret (.int .u32 0) (.int .u32 0) (.int .u16 0) (.int .u16 0) (.int .u32 0) (.slice none 0 0) 7 rfl rfl rfl ((((((HAZ.out.store 0 (.int .u32 0)).store 1 (.int .u32 0)).store 2 (.int .u16 0)).store 3 (.int .u16 0)).store 4 (.int .u32 0)).store 5 (.slice none 0 0)) ⟨by rw [HCD.out], ((((((GZ.out.setCell (by simp; try omega) _).setCell (by simp; try omega) _).setCell (by simp; try omega) _).setCell (by simp; try omega) _).setCell (by simp; try omega) _).setCell (by simp; try omega) _)⟩
      · have hkb : ((kd.toNat : Int) == (kc.toNat : Int)) = true := by rw [beq_iff_eq, HKE.out]; exact hk
        have hfb : ((fd.toNat : Int) == (fc.toNat : Int)) = false := by rw [beq_eq_false_iff_ne, ne_eq, HFE.out]; exact hf
        have HCD := hid (show res = Value.tuple #[.agg #[.int .u32 0, .int .u32 0, .int .u16 0, .int .u16 0, .int .u32 0, .slice none 0 0], .int .i64 7] from by rw [HRES.out]; exact if_neg (fun h => hf (congrArg Chk.f h.2)))
        clear hk hf
        obtain ⟨WZ, hWZ⟩ : ∃ W, W = W2.alloc (.cells #[.int .u32 0, .int .u32 0, .int .u16 0, .int .u16 0, .int .u32 0, .slice none 0 0] 70 (0, 0)) := ⟨_, rfl⟩
        have HZ := hid (show RowV WZ W2.heap.size 70 [.int .u32 0, .int .u32 0, .int .u16 0, .int .u16 0, .int .u32 0, .slice none 0 0] by rw [hWZ]; exact RowV.new W2 70 _)
        have gz : Below W2.heap.size W2 WZ := by rw [hWZ]; exact (Below.refl _ _).alloc (Nat.le_refl _) _
        have HAZ := hid (HA2.out.mono gz)
        have GZ := hid (gr_trans G2.out gz)
        have HEZ := hid hWZ
        obtain ⟨i0, i1, i2, i3, i4, i5, -⟩ := rowInit HZ.out
        obtain ⟨j0, j1, j2, j3, j4, j5, -⟩ := rowInit HAZ.out
        have y0 := HAZ.out.frozen 0; have y1 := HAZ.out.frozen 1; have y2 := HAZ.out.frozen 2; have y3 := HAZ.out.frozen 3; have y4 := HAZ.out.frozen 4; have y5 := HAZ.out.frozen 5
        rw [hWZ, HE2.out] at i0 i1 i2 i3 i4 i5 j0 j1 j2 j3 j4 j5 y0 y1 y2 y3 y4 y5

        clear hWZ gz
        go_wp2_with fail
        rw [← HE2.out, ← HEZ.out]
        refine bgetInit_ret (.int .u32 0) (.int .u32 0) (.int .u16 0) (.int .u16 0) (.int .u32 0) (.slice none 0 0) 7 rfl rfl rfl ((((((HAZ.out.store 0 (.int .u32 0)).store 1 (.int .u32 0)).store 2 (.int .u16 0)).store 3 (.int .u16 0)).store 4 (.int .u32 0)).store 5 (.slice none 0 0)) ⟨by rw [HCD.out], ((((((GZ.out.setCell (by simp; try omega) _).setCell (by simp; try omega) _).setCell (by simp; try omega) _).setCell (by simp; try omega) _).setCell (by simp; try omega) _).setCell (by simp; try omega) _)⟩
    · have hkb : ((kd.toNat : Int) == (kc.toNat : Int)) = false := by rw [beq_eq_false_iff_ne, ne_eq, HKE.out]; exact hk
      have HCD := hid (show res = Value.tuple #[.agg #[.int .u32 0, .int .u32 0, .int .u16 0, .int .u16 0, .int .u32 0, .slice none 0 0], .int .i64 7] from by rw [HRES.out]; exact if_neg (fun h => hk (congrArg Chk.k h.2)))
      clear hk
      obtain ⟨WZ, hWZ⟩ : ∃ W, W = W2.alloc (.cells #[.int .u32 0, .int .u32 0, .int .u16 0, .int .u16 0, .int .u32 0, .slice none 0 0] 70 (0, 0)) := ⟨_, rfl⟩
      have HZ := hid (show RowV WZ W2.heap.size 70 [.int .u32 0, .int .u32 0, .int .u16 0, .int .u16 0, .int .u32 0, .slice none 0 0] by rw [hWZ]; exact RowV.new W2 70 _)
      have gz : Below W2.heap.size W2 WZ := by rw [hWZ]; exact (Below.refl _ _).alloc (Nat.le_refl _) _
      have HAZ := hid (HA2.out.mono gz)
      have GZ := hid (gr_trans G2.out gz)
      have HEZ := hid hWZ
      obtain ⟨i0, i1, i2, i3, i4, i5, -⟩ := rowInit HZ.out
      obtain ⟨j0, j1, j2, j3, j4, j5, -⟩ := rowInit HAZ.out
      have y0 := HAZ.out.frozen 0; have y1 := HAZ.out.frozen 1; have y2 := HAZ.out.frozen 2; have y3 := HAZ.out.frozen 3; have y4 := HAZ.out.frozen 4; have y5 := HAZ.out.frozen 5
      rw [hWZ, HE2.out] at i0 i1 i2 i3 i4 i5 j0 j1 j2 j3 j4 j5 y0 y1 y2 y3 y4 y5

      clear hWZ gz
      go_wp2_with fail
      rw [← HE2.out, ← HEZ.out]
      refine bgetInit_ret (.int .u32 0) (.int .u32 0) (.int .u16 0) (.int .u16 0) (.int .u32 0) (.slice none 0 0) 7 rfl rfl rfl ((((((HAZ.out.store 0 (.int .u32 0)).store 1 (.int .u32 0)).store 2 (.int .u16 0)).store 3 (.int .u16 0)).store 4 (.int .u32 0)).store 5 (.slice none 0 0)) ⟨by rw [HCD.out], ((((((GZ.out.setCell (by simp; try omega) _).setCell (by simp; try omega) _).setCell (by simp; try omega) _).setCell (by simp; try omega) _).setCell (by simp; try omega) _).setCell (by simp; try omega) _)⟩
end Go.Proofs.Ytfiblhdejglpaaa

namespace Go.Proofs.Ytfiblhdejglpaaa
open Go.RowKit Go.FL Go.ChangeShapes

set_option maxRecDepth 100000 in
set_option maxHeartbeats 4000000 in
theorem bgetTime_any (at_ : Int) (gc : Nat) (kc fc : UInt8) (s : Value) (bc : List UInt8) (may : Bool) (w : World) (hs : Rd w s bc) (dc : Chk)
    (hput : ∀ wx, Below w.heap.size w wx → Calls Try.prog 63 #[.int .i64 at_, .pointer (some ⟨gc, 0, none⟩)] wx (RetChk wx 5 dc)) :
    Calls Try.prog 62 #[.agg #[.int .u8 (kc.toNat : Int), .int .u8 (fc.toNat : Int), s], .int .i64 at_, .bool may, .func (.func 63) #[] #[.pointer (some ⟨gc, 0, none⟩)]] w
      fun e w' => e = .returned (if may = true ∧ dc = ⟨kc, fc, bc⟩ then .tuple #[.int .i64 at_, .int .i64 0] else .tuple #[.int .i64 0, .int .i64 7]) ∧ Below w.heap.size w w' := by
  have HV := hid hs
  have HP := hid hput
  obtain ⟨p, c, rfl, hlc, hcm, hpn, hcell⟩ := hs
  unfold maxLen at hcm
  clear hcell hput
  obtain ⟨kd, fd, bd⟩ := dc
  obtain ⟨res, hres⟩ : ∃ r, r = (if may = true ∧ (⟨kd, fd, bd⟩ : Chk) = ⟨kc, fc, bc⟩ then Value.tuple #[.int .i64 at_, .int .i64 0] else .tuple #[.int .i64 0, .int .i64 7]) := ⟨_, rfl⟩
  rw [← hres]
  have HRES := hid hres
  clear hres
  obtain ⟨W, hW⟩ : ∃ W, W = w.alloc (.cells #[.int .u8 (kc.toNat : Int), .int .u8 (fc.toNat : Int), .slice p bc.length c] 28 (0, 0)) := ⟨_, rfl⟩
  have HC := hid (show RowV W w.heap.size 28 [.int .u8 (kc.toNat : Int), .int .u8 (fc.toNat : Int), .slice p bc.length c] by rw [hW]; exact RowV.new w 28 _)
  have G0 := hid (show Below w.heap.size w W by rw [hW]; exact (Below.refl _ _).alloc (Nat.le_refl _) _)
  have HE := hid hW
  clear hW
  go_enter Try.func62, Try.ntmps62
  go_wp2_with fail
  rw [← HE.out]
  refine (HP.out _ G0.out).mono ?_
  rintro e w1 ⟨s1, rfl, ho1, hb1⟩
  simp only at ho1
  obtain ⟨p1, c1, rfl, hl1, hm1, -, -⟩ := ho1.rd
  unfold maxLen at hm1
  have HO1 := hid ho1
  obtain ⟨W2, hW2⟩ : ∃ W, W = w1.alloc (.cells #[.int .u8 (kd.toNat : Int), .int .u8 (fd.toNat : Int), .slice p1 bd.length c1] 28 (0, 0)) := ⟨_, rfl⟩
  have g2 : Below w1.heap.size w1 W2 := by rw [hW2]; exact (Below.refl _ _).alloc (Nat.le_refl _) _
  have HD2 := hid (show RowV W2 w1.heap.size 28 [.int .u8 (kd.toNat : Int), .int .u8 (fd.toNat : Int), .slice p1 bd.length c1] by rw [hW2]; exact RowV.new w1 28 _)
  have g12 := gr_trans hb1 g2
  have HC2 := hid (HC.out.mono g12)
  have G2 := hid (gr_trans G0.out g12)
  have HO2 := hid (HO1.out.mono g2)
  have HE2 := hid hW2
  obtain ⟨k0, k1, k2⟩ := HC2.out.three
  obtain ⟨l0, l1, l2⟩ := HD2.out.three
  rw [hW2] at k0 k1 k2 l0 l1 l2
  have bk := byte_lt kc
  have bk2 := byte_lt kd
  have bf := byte_lt fc
  have bf2 := byte_lt fd
  have HKE := hid (byte_eq kd kc)
  have HFE := hid (byte_eq fd fc)
  clear hb1 hW2 g2 g12 ho1
  cases may
  · have HCD := hid (show res = Value.tuple #[.int .i64 0, .int .i64 7] from by rw [HRES.out]; exact if_neg (by simp))
    go_wp2_with fail
    rw [← HE2.out]
    go_ret2
    exact ⟨by rw [HCD.out]; rfl, G2.out⟩
  · by_cases hk : kd = kc
    · by_cases hf : fd = fc
      · subst hk hf
        have hkb : ((kd.toNat : Int) == (kd.toNat : Int)) = true := by simp
        have hfb : ((fd.toNat : Int) == (fd.toNat : Int)) = true := by simp
        go_wp2_with fail
        rw [← HE2.out]
        refine (sliEq_any _ _ bd bc _ HO2.out.rd (HV.out.mono G2.out)).mono ?_
        rintro e w3 ⟨rfl, hb3⟩
        have G3 := hid (gr_trans G2.out hb3)
        clear hb3 k0 k1 k2 l0 l1 l2
        by_cases hq : bd = bc
        · rw [decide_eq_true hq]
          have HCD := hid (show res = Value.tuple #[.int .i64 at_, .int .i64 0] from by rw [HRES.out]; exact if_pos (by simp [hq]))
          clear hq
          go_wp2_with fail
          go_ret2
          exact ⟨by rw [HCD.out]; rfl, G3.out⟩
        · rw [decide_eq_false hq]
          have HCD := hid (show res = Value.tuple #[.int .i64 0, .int .i64 7] from by rw [HRES.out]; exact if_neg (fun h => hq (congrArg Chk.b h.2)))
          clear hq
          go_wp2_with fail
          go_ret2
          exact ⟨by rw [HCD.out]; rfl, G3.out⟩
      · have hkb : ((kd.toNat : Int) == (kc.toNat : Int)) = true := by rw [beq_iff_eq, HKE.out]; exact hk
        have hfb : ((fd.toNat : Int) == (fc.toNat : Int)) = false := by rw [beq_eq_false_iff_ne, ne_eq, HFE.out]; exact hf
        have HCD := hid (show res = Value.tuple #[.int .i64 0, .int .i64 7] from by rw [HRES.out]; exact if_neg (fun h => hf (congrArg Chk.f h.2)))
        clear hk hf
        go_wp2_with fail
        rw [← HE2.out]
        go_ret2
        exact ⟨by rw [HCD.out]; rfl, G2.out⟩
    · have hkb : ((kd.toNat : Int) == (kc.toNat : Int)) = false := by rw [beq_eq_false_iff_ne, ne_eq, HKE.out]; exact hk
      have HCD := hid (show res = Value.tuple #[.int .i64 0, .int .i64 7] from by rw [HRES.out]; exact if_neg (fun h => hk (congrArg Chk.k h.2)))
      clear hk
      go_wp2_with fail
      rw [← HE2.out]
      go_ret2
      exact ⟨by rw [HCD.out]; rfl, G2.out⟩
end Go.Proofs.Ytfiblhdejglpaaa

namespace Go.Proofs.Ytfiblhdejglpaaa
open Go.RowKit Go.FL Go.ChangeShapes

set_option maxRecDepth 100000 in
set_option maxHeartbeats 4000000 in
theorem bgetCum_any (cum : Nat) (kc fc : UInt8) (s : Value) (bc : List UInt8) (may : Bool) (w : World) (hs : Rd w s bc) (dc : Chk)
    (hput : ∀ wx, Below w.heap.size w wx → Calls Try.prog 40 #[.int .u32 (cum : Int)] wx (RetChk wx 5 dc)) :
    Calls Try.prog 64 #[.agg #[.int .u8 (kc.toNat : Int), .int .u8 (fc.toNat : Int), s], .int .u32 (cum : Int), .bool may, .func (.func 40) #[] #[]] w
      fun e w' => e = .returned (if may = true ∧ dc = ⟨kc, fc, bc⟩ then .tuple #[.int .u32 (cum : Int), .int .i64 0] else .tuple #[.int .u32 0, .int .i64 7]) ∧ Below w.heap.size w w' := by
  have HV := hid hs
  have HP := hid hput
  obtain ⟨p, c, rfl, hlc, hcm, hpn, hcell⟩ := hs
  unfold maxLen at hcm
  clear hcell hput
  obtain ⟨kd, fd, bd⟩ := dc
  obtain ⟨res, hres⟩ : ∃ r, r = (if may = true ∧ (⟨kd, fd, bd⟩ : Chk) = ⟨kc, fc, bc⟩ then Value.tuple #[.int .u32 (cum : Int), .int .i64 0] else .tuple #[.int .u32 0, .int .i64 7]) := ⟨_, rfl⟩
  rw [← hres]
  have HRES := hid hres
  clear hres
  obtain ⟨W, hW⟩ : ∃ W, W = w.alloc (.cells #[.int .u8 (kc.toNat : Int), .int .u8 (fc.toNat : Int), .slice p bc.length c] 28 (0, 0)) := ⟨_, rfl⟩
  have HC := hid (show RowV W w.heap.size 28 [.int .u8 (kc.toNat : Int), .int .u8 (fc.toNat : Int), .slice p bc.length c] by rw [hW]; exact RowV.new w 28 _)
  have G0 := hid (show Below w.heap.size w W by rw [hW]; exact (Below.refl _ _).alloc (Nat.le_refl _) _)
  have HE := hid hW
  clear hW
  go_enter Try.func64, Try.ntmps64
  go_wp2_with fail
  rw [← HE.out]
  refine (HP.out _ G0.out).mono ?_
  rintro e w1 ⟨s1, rfl, ho1, hb1⟩
  simp only at ho1
  obtain ⟨p1, c1, rfl, hl1, hm1, -, -⟩ := ho1.rd
  unfold maxLen at hm1
  have HO1 := hid ho1
  obtain ⟨W2, hW2⟩ : ∃ W, W = w1.alloc (.cells #[.int .u8 (kd.toNat : Int), .int .u8 (fd.toNat : Int), .slice p1 bd.length c1] 28 (0, 0)) := ⟨_, rfl⟩
  have g2 : Below w1.heap.size w1 W2 := by rw [hW2]; exact (Below.refl _ _).alloc (Nat.le_refl _) _
  have HD2 := hid (show RowV W2 w1.heap.size 28 [.int .u8 (kd.toNat : Int), .int .u8 (fd.toNat : Int), .slice p1 bd.length c1] by rw [hW2]; exact RowV.new w1 28 _)
  have g12 := gr_trans hb1 g2
  have HC2 := hid (HC.out.mono g12)
  have G2 := hid (gr_trans G0.out g12)
  have HO2 := hid (HO1.out.mono g2)
  have HE2 := hid hW2
  obtain ⟨k0, k1, k2⟩ := HC2.out.three
  obtain ⟨l0, l1, l2⟩ := HD2.out.three
  rw [hW2] at k0 k1 k2 l0 l1 l2
  have bk := byte_lt kc
  have bk2 := byte_lt kd
  have bf := byte_lt fc
  have bf2 := byte_lt fd
  have HKE := hid (byte_eq kd kc)
  have HFE := hid (byte_eq fd fc)
  clear hb1 hW2 g2 g12 ho1
  cases may
  · have HCD := hid (show res = Value.tuple #[.int .u32 0, .int .i64 7] from by rw [HRES.out]; exact if_neg (by simp))
    go_wp2_with fail
    rw [← HE2.out]
    go_ret2
    exact ⟨by rw [HCD.out]; rfl, G2.out⟩
  · by_cases hk : kd = kc
    · by_cases hf : fd = fc
      · subst hk hf
        have hkb : ((kd.toNat : Int) == (kd.toNat : Int)) = true := by simp
        have hfb : ((fd.toNat : Int) == (fd.toNat : Int)) = true := by simp
        go_wp2_with fail
        rw [← HE2.out]
        refine (sliEq_any _ _ bd bc _ HO2.out.rd (HV.out.mono G2.out)).mono ?_
        rintro e w3 ⟨rfl, hb3⟩
        have G3 := hid (gr_trans G2.out hb3)
        clear hb3 k0 k1 k2 l0 l1 l2
        by_cases hq : bd = bc
        · rw [decide_eq_true hq]
          have HCD := hid (show res = Value.tuple #[.int .u32 (cum : Int), .int .i64 0] from by rw [HRES.out]; exact if_pos (by simp [hq]))
          clear hq
          go_wp2_with fail
          go_ret2
          exact ⟨by rw [HCD.out]; rfl, G3.out⟩
        · rw [decide_eq_false hq]
          have HCD := hid (show res = Value.tuple #[.int .u32 0, .int .i64 7] from by rw [HRES.out]; exact if_neg (fun h => hq (congrArg Chk.b h.2)))
          clear hq
          go_wp2_with fail
          go_ret2
          exact ⟨by rw [HCD.out]; rfl, G3.out⟩
      · have hkb : ((kd.toNat : Int) == (kc.toNat : Int)) = true := by rw [beq_iff_eq, HKE.out]; exact hk
        have hfb : ((fd.toNat : Int) == (fc.toNat : Int)) = false := by rw [beq_eq_false_iff_ne, ne_eq, HFE.out]; exact hf
        have HCD := hid (show res = Value.tuple #[.int .u32 0, .int .i64 7] from by rw [HRES.out]; exact if_neg (fun h => hf (congrArg Chk.f h.2)))
        clear hk hf
        go_wp2_with fail
        rw [← HE2.out]
        go_ret2
        exact ⟨by rw [HCD.out]; rfl, G2.out⟩
    · have hkb : ((kd.toNat : Int) == (kc.toNat : Int)) = false := by rw [beq_eq_false_iff_ne, ne_eq, HKE.out]; exact hk
      have HCD := hid (show res = Value.tuple #[.int .u32 0, .int .i64 7] from by rw [HRES.out]; exact if_neg (fun h => hk (congrArg Chk.k h.2)))
      clear hk
      go_wp2_with fail
      rw [← HE2.out]
      go_ret2
      exact ⟨by rw [HCD.out]; rfl, G2.out⟩
end Go.Proofs.Ytfiblhdejglpaaa

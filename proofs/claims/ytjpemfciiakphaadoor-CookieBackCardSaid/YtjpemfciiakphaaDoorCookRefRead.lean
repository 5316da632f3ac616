/- The document's Read of cookies. Conditions: what comes in reads as it should. -/
import Derived.Test.YtjpemfciiakphaaDoorCookWrite
import Derived.Test.YtjpemfciiakphaaDoorChg
namespace Go.FL
open Go.RowKit
def CookRead (w : World) (key l : List UInt8) (e : Ending) (w' : World) : Prop :=
  e = .returned (.tuple #[(cookTells key l).2.val, .int .i64 (cookTells key l).1]) ∧ Below w.heap.size w w'
theorem RowV.put8 {w : World} {g e : Nat} {u0 u1 u2 u3 u4 u5 u6 u7 : Value} (h : RowV w g e [u0, u1, u2, u3, u4, u5, u6, u7]) (v0 v1 v2 v3 v4 v5 v6 v7 : Value) :
    RowV ((((((((w.setCell ⟨g, 0, none⟩ v0).setCell ⟨g, 1, none⟩ v1).setCell ⟨g, 2, none⟩ v2).setCell ⟨g, 3, none⟩ v3).setCell ⟨g, 4, none⟩ v4).setCell ⟨g, 5, none⟩ v5).setCell ⟨g, 6, none⟩ v6).setCell ⟨g, 7, none⟩ v7) g e [v0, v1, v2, v3, v4, v5, v6, v7] :=
  (((((((h.store 0 v0).store 1 v1).store 2 v2).store 3 v3).store 4 v4).store 5 v5).store 6 v6).store 7 v7
theorem run_slice_from32 {P : Program} (t e : TypeId) (ht : P.underlying t = some (.slice e)) (hz : (P.info? e).map (·.size) = some 1) (p : Option Addr) (n c i : Nat) (hi : i ≤ n) (k : IntKind) (w : World) :
    (Instr.slice t (.slice p n c) (some (.int k (i : Int))) none none).run P w = .ok (sliced p i n c 1) w := by
  cases hq : P.info? e with
  | none => simp [hq] at hz
  | some inf =>
    have hs : inf.size = 1 := by simpa [hq] using hz
    simp [Instr.slice, run_underlying ht, Instr.sliceBounds, run_sliceBound, sizeOf, typeInfo, hq, hs, hi, sliced]
theorem below_put8 {B g : Nat} {a w : World} (h : Below B a w) (hg : B ≤ g) (v0 v1 v2 v3 v4 v5 v6 v7 : Value) :
    Below B a ((((((((w.setCell ⟨g, 0, none⟩ v0).setCell ⟨g, 1, none⟩ v1).setCell ⟨g, 2, none⟩ v2).setCell ⟨g, 3, none⟩ v3).setCell ⟨g, 4, none⟩ v4).setCell ⟨g, 5, none⟩ v5).setCell ⟨g, 6, none⟩ v6).setCell ⟨g, 7, none⟩ v7) :=
  (((((((h.setCell (by exact hg) _).setCell (by exact hg) _).setCell (by exact hg) _).setCell (by exact hg) _).setCell (by exact hg) _).setCell (by exact hg) _).setCell (by exact hg) _).setCell (by exact hg) _
end Go.FL
namespace Go.Proofs.YtjpemfciiakphaaDoor
open Go.RowKit Go.FL

theorem cookRr_ret {a : Act} {W : World} {g : Nat} {R : Ending → World → Prop} (v0 v1 v2 v3 v4 v5 v6 v7 : Value) (er : Int) (h4 : a.tmps.getD 4 undef = .pointer (some ⟨g, 0, none⟩)) (h5 : a.tmps.getD 5 undef = .int .i64 er) (hd : a.defers = [])
    (hc : RowV W g 26 [v0, v1, v2, v3, v4, v5, v6, v7]) (hR : R (.returned (.tuple #[.agg #[v0, v1, v2, v3, v4, v5, v6, v7], .int .i64 er])) W) : bodyPost Tryd.prog Tryd.f15 R .ret a W := by
  refine bodyPost_ret (v := .tuple #[.agg #[v0, v1, v2, v3, v4, v5, v6, v7], .int .i64 er]) ?_ hd hR
  obtain ⟨c0, c1, c2, c3, c4, c5, c6, c7⟩ := RowV.eight hc
  simp only [Array.getD_eq_getD_getElem?] at h4 h5
  simp [results, Tryd.results15, go_sem, h4, h5, asAddr, c0, c1, c2, c3, c4, c5, c6, c7]

set_option maxRecDepth 100000 in
set_option maxHeartbeats 600000 in
theorem cookRefRead_any (v u : Value) (key l : List UInt8) (w : World) (hv : Rd w v key) (hu : Rd w u l) (hk : key.length ≤ 1047000) (hl : l.length ≤ 1047000) :
    Calls Tryd.prog 15 #[v, u] w (CookRead w key l) := by
  have HV := hid hv
  have HU := hid hu
  have HK := hid hk
  obtain ⟨p, cp, rfl, hlc, hcm, hpn, hcell⟩ := hv
  obtain ⟨q, c, rfl, hlq, hcq, hqn, hcelq⟩ := hu
  unfold maxLen at hcm hcq
  clear hcell hk
  obtain ⟨W, hW⟩ : ∃ W, W = (w.alloc (.cells #[.int .i64 0, .int .u32 0, .int .u32 0, .int .u32 0, .int .u32 0, .int .u32 0, .int .u16 0, .int .u16 0] 26 (0, 0))).alloc (.cells #[.int .i64 0, .int .u32 0, .int .u32 0, .int .u32 0, .int .u32 0, .int .u32 0, .int .u16 0, .int .u16 0] 26 (0, 0)) := ⟨_, rfl⟩
  have HA := hid (show RowV W w.heap.size 26 [.int .i64 0, .int .u32 0, .int .u32 0, .int .u32 0, .int .u32 0, .int .u32 0, .int .u16 0, .int .u16 0] by rw [hW]; exact (RowV.new w 26 _).alloc _)
  have HB := hid (show RowV W (w.heap.size + 1) 26 [.int .i64 0, .int .u32 0, .int .u32 0, .int .u32 0, .int .u32 0, .int .u32 0, .int .u16 0, .int .u16 0] by rw [hW]; simpa using RowV.new (w.alloc (.cells #[.int .i64 0, .int .u32 0, .int .u32 0, .int .u32 0, .int .u32 0, .int .u32 0, .int .u16 0, .int .u16 0] 26 (0, 0))) 26 [.int .i64 0, .int .u32 0, .int .u32 0, .int .u32 0, .int .u32 0, .int .u32 0, .int .u16 0, .int .u16 0])
  have HW := hid (show Below w.heap.size w W by rw [hW]; exact ((Below.refl _ _).alloc (Nat.le_refl _) _).alloc (by simp) _)
  have HE := hid hW
  clear hW
  by_cases h64 : l.length = 64
  · obtain ⟨b0, off, rfl, -⟩ := hcelq 0 (by omega)
    clear hcelq
    obtain ⟨p3, c3, hs3⟩ : ∃ p3 c3, sliced (some ⟨b0, off, none⟩) 32 l.length c 1 = .slice p3 (l.length - 32) c3 := ⟨_, _, rfl⟩
    have HSL2 := hid (show ∀ wx, (Instr.slice 22 (.slice (some ⟨b0, off, none⟩) l.length c) (some (.int .i64 32)) none none).run Tryd.prog wx = .ok (.slice p3 32 c3) wx from fun wx => by
      have hh := run_slice_from32 (P := Tryd.prog) 22 5 Tryd.underlying22 (by kernel_rfl) (some ⟨b0, off, none⟩) l.length c 32 (by omega) .i64 wx
      rw [hs3, show l.length - 32 = 32 by omega] at hh
      exact hh)
    have hcut := HU.out.cut 32 l.length (by omega) (Nat.le_refl _)
    rw [hs3, List.take_of_length_le (by simp), show l.length - 32 = 32 by omega] at hcut
    have HCUT := hid hcut
    have htk := HU.out.take 32 (by omega)
    have HTK := hid htk
    have HTL := hid (show (l.take 32).length = 32 by rw [List.length_take]; omega)
    obtain ⟨md, hmd⟩ : ∃ md, md = macSum key (l.take 32) := ⟨_, rfl⟩
    have HDL := hid (show (bytesV md).length = 32 by rw [bytesV_length, hmd, macSum_length])
    have HML := hid (show md.length = 32 by rw [hmd, macSum_length])
    have HMD := hid hmd
    obtain ⟨x, hx⟩ : ∃ x, x = strOfNums (md.map fun b => (b.toNat : Int)) := ⟨_, rfl⟩
    obtain ⟨y, hy⟩ : ∃ y, y = strOfNums ((l.drop 32).map fun b => (b.toNat : Int)) := ⟨_, rfl⟩
    have HNQ := hid (show (x.toList == y.toList) = decide (md = l.drop 32) by
      rw [hx, hy, strNums_list, strNums_list, Bool.eq_iff_iff]
      simp only [decide_eq_true_eq, beq_iff_eq])
    have HX := hid hx
    have HY := hid hy
    have hzo := zeroOut
    clear hs3 hcut htk hmd hx hy
    have hb1 : (32 : Int) ≤ (c : Int) := by omega
    have hb2 : 32 ≤ c := by omega
    have heq : ((l.length : Int) != 64) = false := by simp; omega
    have H64 := hid h64
    clear h64
    go_enter Tryd.func15, Tryd.ntmps15
    go_wp2_with fail
    rw [← HE.out]
    refine (macRef_any _ _ key (l.take 32) _ (HV.out.mono HW.out) (HTK.out.mono HW.out) HK.out (by rw [HTL.out]; omega)).mono ?_
    rw [← HMD.out]
    rintro e w4 ⟨rfl, hb4⟩
    have HA4 := hid (HA.out.mono hb4)
    have HB4 := hid (HB.out.mono hb4)
    have G4 := hid (gr_trans HW.out hb4)
    clear hb4
    go_wp2_with (refine wpList_store_rowV rfl 46 (.tmp 7) (.tmp 16) rfl w4.heap.size (bytesV md) zeros32 46 rfl rfl (RowV.new w4 46 zeros32) ?hi ?ho (bytesV_oneCell md) ?_)
    case hi => rw [HDL.out]; kernel_rfl
    case ho => rw [HDL.out, zeros32_length]
    intro w5 hr5 hg5
    have HRD5 := hid (show Rd w5 (.slice (some ⟨w4.heap.size, 0, none⟩) 32 32) md by
      have := hr5.out.to_row.rd 32 32 (by rw [HML.out]; exact Nat.le_refl _) (Nat.le_refl _) (by unfold maxLen; omega)
      rwa [List.take_of_length_le (by rw [HML.out]; exact Nat.le_refl _)] at this)
    have hgr : Below w4.heap.size w4 w5 := ((Below.refl _ _).alloc (Nat.le_refl _) _).trans (gb_below (B := w4.heap.size) hg5.out (Nat.le_refl _) (by simp))
    have G5 := hid (gr_trans G4.out hgr)
    have HA5 := hid (HA4.out.mono hgr)
    have HB5 := hid (HB4.out.mono hgr)
    have HCUT5 := hid (HCUT.out.mono G5.out)
    clear hr5 hg5 hgr hzo
    go_wp2_with fail
    refine wp_region_gr [Is (.slice (some ⟨w4.heap.size, 0, none⟩) 32 32), Is (.string x), Is (.slice (some ⟨b0, off, none⟩) l.length c), Is (.slice p3 32 c3), Is (.string y), Is (.bool (!decide (md = l.drop 32)))] (by kernel_rfl) (by kernel_rfl) (by kernel_rfl) ?_ ?_ ?_
    · simp only [StabAll, Is.gr, RdF.gr, OwnF.gr, AnyF.gr, and_self]
    · rename_i Kk hKk; clear hKk Kk
      simp only [AllOps, List.map_cons, List.map_nil, depsOf, List.filterMap_cons, List.filterMap_nil, Region.binds, depFacts, guardF, reduceIte, List.getD_eq_getElem?_getD, List.getElem?_cons_succ, List.getElem?_cons_zero, Option.getD_some, factAt, and_true]
      refine ⟨?_, ?_, ?_, ?_, ?_, ?_⟩
      all_goals intro ρ wv hρ hR hd
      all_goals try simp only [Is] at hd
      · exact opOk_val (v := .slice (some ⟨w4.heap.size, 0, none⟩) 32 32) (w' := wv) (by simp [execOp, go_sem, (hρ.2 7 rfl), hd]) ⟨rfl, GrR.refl _⟩
      · exact opOk_val (v := .string x) (w' := wv) (by simp only [execOp, Sem.run_bind, hd, run_convert_rd (P := Tryd.prog) wv 22 5 9 Tryd.underlying22 Tryd.underlying5 Tryd.underlying9 _ _ (HRD5.out.mono hR), strOf, ← HX.out]; rfl) ⟨rfl, GrR.refl _⟩
      · exact opOk_move (.inl rfl) ⟨by simp only [Is]; (first | exact hρ.2 1 rfl | exact hd | exact hd.1 | exact hd.2 | simp [hd]), GrR.refl _⟩
      · exact opOk_val (v := .slice p3 32 c3) (w' := wv) (by simp [execOp, go_sem, hρ.1.const, hρ.1.func, hd, HSL2.out]) ⟨rfl, GrR.refl _⟩
      · exact opOk_val (v := .string y) (w' := wv) (by simp only [execOp, Sem.run_bind, hd, run_convert_rd (P := Tryd.prog) wv 22 5 9 Tryd.underlying22 Tryd.underlying5 Tryd.underlying9 _ _ (HCUT5.out.mono hR), strOf, ← HY.out]; rfl) ⟨rfl, GrR.refl _⟩
      · exact opOk_val (v := .bool (!decide (md = l.drop 32))) (w' := wv) (by simp [execOp, go_sem, hρ.1.const, hρ.1.func, hd, HNQ.out]) ⟨rfl, GrR.refl _⟩
    · intro vals wv hR hall
      have hend := hall 5 (by simp)
      simp only [factAt, Is, List.getD_eq_getElem?_getD, List.getElem?_cons_succ, List.getElem?_cons_zero, Option.getD_some] at hend
      clear hall
      simp only [fillFrom, Act.put, hend, List.setIfInBounds_toArray, List.set_cons_zero, List.set_cons_succ]
      rename_i Kk hKk
      refine hKk _ _ ?_
      clear hKk Kk
      have HA6 := hid (HA5.out.mono hR)
      have HB6 := hid (HB5.out.mono hR)
      have G6 := hid (gr_trans G5.out hR)
      have HU6 := hid (HU.out.mono G6.out)
      clear hR
      by_cases hq : md = l.drop 32
      · rw [decide_eq_true hq]
        have hn0 := numAt_lt l 0 8
        obtain ⟨x0, hx0⟩ : ∃ x0, x0 = numAt l 0 8 := ⟨_, rfl⟩
        rw [← hx0] at hn0
        have HX0 := hid hx0
        clear hx0
        have hn1 := numAt_lt l 8 4
        obtain ⟨x1, hx1⟩ : ∃ x1, x1 = numAt l 8 4 := ⟨_, rfl⟩
        rw [← hx1] at hn1
        have HX1 := hid hx1
        clear hx1
        have hn2 := numAt_lt l 12 4
        obtain ⟨x2, hx2⟩ : ∃ x2, x2 = numAt l 12 4 := ⟨_, rfl⟩
        rw [← hx2] at hn2
        have HX2 := hid hx2
        clear hx2
        have hn3 := numAt_lt l 16 4
        obtain ⟨x3, hx3⟩ : ∃ x3, x3 = numAt l 16 4 := ⟨_, rfl⟩
        rw [← hx3] at hn3
        have HX3 := hid hx3
        clear hx3
        have hn4 := numAt_lt l 20 4
        obtain ⟨x4, hx4⟩ : ∃ x4, x4 = numAt l 20 4 := ⟨_, rfl⟩
        rw [← hx4] at hn4
        have HX4 := hid hx4
        clear hx4
        have hn5 := numAt_lt l 24 4
        obtain ⟨x5, hx5⟩ : ∃ x5, x5 = numAt l 24 4 := ⟨_, rfl⟩
        rw [← hx5] at hn5
        have HX5 := hid hx5
        clear hx5
        have hn6 := numAt_lt l 28 2
        obtain ⟨x6, hx6⟩ : ∃ x6, x6 = numAt l 28 2 := ⟨_, rfl⟩
        rw [← hx6] at hn6
        have HX6 := hid hx6
        clear hx6
        have hn7 := numAt_lt l 30 2
        obtain ⟨x7, hx7⟩ : ∃ x7, x7 = numAt l 30 2 := ⟨_, rfl⟩
        rw [← hx7] at hn7
        have HX7 := hid hx7
        clear hx7
        have HOF := hid (show cookOf l = ⟨bornI x0, x1, x2, x3, x4, x5, x6, x7⟩ by rw [cookOf, ← HX0.out, ← HX1.out, ← HX2.out, ← HX3.out, ← HX4.out, ← HX5.out, ← HX6.out, ← HX7.out])
        go_wp2_with fail
        refine (number_any _ l 0 8 _ _ rfl rfl (by omega) _ HU6.out (by omega)).mono ?_
        rw [← HX0.out]
        rintro e w7 ⟨rfl, hb⟩
        have HU7 := hid (HU6.out.mono hb)
        have HA7 := hid (HA6.out.mono hb)
        have HB7 := hid (HB6.out.mono hb)
        have G7 := hid (gr_trans G6.out hb)
        clear hb
        go_wp2_with fail
        refine (number_any _ l 8 4 _ _ rfl rfl (by omega) _ HU7.out (by omega)).mono ?_
        rw [← HX1.out]
        rintro e w8 ⟨rfl, hb⟩
        have HU8 := hid (HU7.out.mono hb)
        have HA8 := hid (HA7.out.mono hb)
        have HB8 := hid (HB7.out.mono hb)
        have G8 := hid (gr_trans G7.out hb)
        clear hb
        go_wp2_with fail
        refine (number_any _ l 12 4 _ _ rfl rfl (by omega) _ HU8.out (by omega)).mono ?_
        rw [← HX2.out]
        rintro e w9 ⟨rfl, hb⟩
        have HU9 := hid (HU8.out.mono hb)
        have HA9 := hid (HA8.out.mono hb)
        have HB9 := hid (HB8.out.mono hb)
        have G9 := hid (gr_trans G8.out hb)
        clear hb
        go_wp2_with fail
        refine (number_any _ l 16 4 _ _ rfl rfl (by omega) _ HU9.out (by omega)).mono ?_
        rw [← HX3.out]
        rintro e w10 ⟨rfl, hb⟩
        have HU10 := hid (HU9.out.mono hb)
        have HA10 := hid (HA9.out.mono hb)
        have HB10 := hid (HB9.out.mono hb)
        have G10 := hid (gr_trans G9.out hb)
        clear hb
        go_wp2_with fail
        refine (number_any _ l 20 4 _ _ rfl rfl (by omega) _ HU10.out (by omega)).mono ?_
        rw [← HX4.out]
        rintro e w11 ⟨rfl, hb⟩
        have HU11 := hid (HU10.out.mono hb)
        have HA11 := hid (HA10.out.mono hb)
        have HB11 := hid (HB10.out.mono hb)
        have G11 := hid (gr_trans G10.out hb)
        clear hb
        go_wp2_with fail
        refine (number_any _ l 24 4 _ _ rfl rfl (by omega) _ HU11.out (by omega)).mono ?_
        rw [← HX5.out]
        rintro e w12 ⟨rfl, hb⟩
        have HU12 := hid (HU11.out.mono hb)
        have HA12 := hid (HA11.out.mono hb)
        have HB12 := hid (HB11.out.mono hb)
        have G12 := hid (gr_trans G11.out hb)
        clear hb
        go_wp2_with fail
        refine (number_any _ l 28 2 _ _ rfl rfl (by omega) _ HU12.out (by omega)).mono ?_
        rw [← HX6.out]
        rintro e w13 ⟨rfl, hb⟩
        have HU13 := hid (HU12.out.mono hb)
        have HA13 := hid (HA12.out.mono hb)
        have HB13 := hid (HB12.out.mono hb)
        have G13 := hid (gr_trans G12.out hb)
        clear hb
        go_wp2_with fail
        refine (number_any _ l 30 2 _ _ rfl rfl (by omega) _ HU13.out (by omega)).mono ?_
        rw [← HX7.out]
        rintro e w14 ⟨rfl, hb⟩
        have HU14 := hid (HU13.out.mono hb)
        have HA14 := hid (HA13.out.mono hb)
        have HB14 := hid (HB13.out.mono hb)
        have G14 := hid (gr_trans G13.out hb)
        clear hb
        go_wp2_with fail
        have hw64 : wrap64 (x0 : Int) = bornI x0 := by
          unfold wrap64 bornI
          split <;> omega
        rw [hw64]
        refine (refMay_walk ⟨bornI x0, x1, x2, x3, x4, x5, x6, x7⟩ _).mono ?_
        rintro e we ⟨rfl, hbe⟩
        have hal : Below w14.heap.size w14 (w14.alloc (.cells #[.int .i64 (bornI x0), .int .u32 (x1 : Int), .int .u32 (x2 : Int), .int .u32 (x3 : Int), .int .u32 (x4 : Int), .int .u32 (x5 : Int), .int .u16 (x6 : Int), .int .u16 (x7 : Int)] 26 (0, 0))) := (Below.refl _ _).alloc (Nat.le_refl _) _
        have HAe := hid ((HA14.out.mono hal).mono hbe)
        have HBe := hid ((HB14.out.mono hal).mono hbe)
        have HCe := hid ((show RowV (w14.alloc (.cells #[.int .i64 (bornI x0), .int .u32 (x1 : Int), .int .u32 (x2 : Int), .int .u32 (x3 : Int), .int .u32 (x4 : Int), .int .u32 (x5 : Int), .int .u16 (x6 : Int), .int .u16 (x7 : Int)] 26 (0, 0))) w14.heap.size 26 [.int .i64 (bornI x0), .int .u32 (x1 : Int), .int .u32 (x2 : Int), .int .u32 (x3 : Int), .int .u32 (x4 : Int), .int .u32 (x5 : Int), .int .u16 (x6 : Int), .int .u16 (x7 : Int)] from RowV.new w14 26 _).mono hbe)
        have Ge := hid (gr_trans G14.out (gr_trans hal hbe))
        clear hal hbe
        obtain ⟨i0, i1, i2, i3, i4, i5, i6, i7⟩ := HCe.out.eight
        obtain ⟨k0, k1, k2, k3, k4, k5, k6, k7⟩ := HBe.out.eight
        obtain ⟨j0, j1, j2, j3, j4, j5, j6, j7⟩ := HAe.out.eight
        have y0 := HAe.out.frozen 0
        have y1 := HAe.out.frozen 1
        have y2 := HAe.out.frozen 2
        have y3 := HAe.out.frozen 3
        have y4 := HAe.out.frozen 4
        have y5 := HAe.out.frozen 5
        have y6 := HAe.out.frozen 6
        have y7 := HAe.out.frozen 7
        by_cases hmay : (⟨bornI x0, x1, x2, x3, x4, x5, x6, x7⟩ : CookD).may
        · have HT := hid (show cookTells key l = (0, ⟨bornI x0, x1, x2, x3, x4, x5, x6, x7⟩) by rw [cookTells, if_neg (by rw [H64.out]; simp), ← HMD.out, if_neg (by simpa using hq), HOF.out, if_pos hmay])
          rw [decide_eq_true hmay]
          clear hmay
          go_wp2_with fail
          refine cookRr_ret (.int .i64 (bornI x0)) (.int .u32 (x1 : Int)) (.int .u32 (x2 : Int)) (.int .u32 (x3 : Int)) (.int .u32 (x4 : Int)) (.int .u32 (x5 : Int)) (.int .u16 (x6 : Int)) (.int .u16 (x7 : Int)) 0 rfl rfl rfl (HAe.out.put8 (.int .i64 (bornI x0)) (.int .u32 (x1 : Int)) (.int .u32 (x2 : Int)) (.int .u32 (x3 : Int)) (.int .u32 (x4 : Int)) (.int .u32 (x5 : Int)) (.int .u16 (x6 : Int)) (.int .u16 (x7 : Int))) ⟨by rw [HT.out]; rfl, below_put8 Ge.out (Nat.le_refl _) _ _ _ _ _ _ _ _⟩
        · have HT := hid (show cookTells key l = (7, .zero) by rw [cookTells, if_neg (by rw [H64.out]; simp), ← HMD.out, if_neg (by simpa using hq), HOF.out, if_neg hmay])
          rw [decide_eq_false hmay]
          clear hmay
          go_wp2_with fail
          refine cookRr_ret (.int .i64 0) (.int .u32 0) (.int .u32 0) (.int .u32 0) (.int .u32 0) (.int .u32 0) (.int .u16 0) (.int .u16 0) 7 rfl rfl rfl (HAe.out.put8 (.int .i64 0) (.int .u32 0) (.int .u32 0) (.int .u32 0) (.int .u32 0) (.int .u32 0) (.int .u16 0) (.int .u16 0)) ⟨by rw [HT.out]; rfl, below_put8 Ge.out (Nat.le_refl _) _ _ _ _ _ _ _ _⟩
      · have HT := hid (show cookTells key l = (10, .zero) by rw [cookTells, if_neg (by rw [H64.out]; simp), ← HMD.out, if_pos hq])
        rw [decide_eq_false hq]
        obtain ⟨k0, k1, k2, k3, k4, k5, k6, k7⟩ := HB6.out.eight
        obtain ⟨j0, j1, j2, j3, j4, j5, j6, j7⟩ := HA6.out.eight
        have y0 := HA6.out.frozen 0
        have y1 := HA6.out.frozen 1
        have y2 := HA6.out.frozen 2
        have y3 := HA6.out.frozen 3
        have y4 := HA6.out.frozen 4
        have y5 := HA6.out.frozen 5
        have y6 := HA6.out.frozen 6
        have y7 := HA6.out.frozen 7
        go_wp2_with fail
        refine cookRr_ret (.int .i64 0) (.int .u32 0) (.int .u32 0) (.int .u32 0) (.int .u32 0) (.int .u32 0) (.int .u16 0) (.int .u16 0) 10 rfl rfl rfl (HA6.out.put8 (.int .i64 0) (.int .u32 0) (.int .u32 0) (.int .u32 0) (.int .u32 0) (.int .u32 0) (.int .u16 0) (.int .u16 0)) ⟨by rw [HT.out]; rfl, below_put8 G6.out (Nat.le_refl _) _ _ _ _ _ _ _ _⟩
  · have HT := hid (show cookTells key l = (7, .zero) by rw [cookTells, if_pos h64])
    have hne : ((l.length : Int) != 64) = true := by simp; omega
    clear hcelq
    go_enter Tryd.func15, Tryd.ntmps15
    go_wp2_with fail
    rw [← HE.out]
    refine cookRr_ret (.int .i64 0) (.int .u32 0) (.int .u32 0) (.int .u32 0) (.int .u32 0) (.int .u32 0) (.int .u16 0) (.int .u16 0) 7 rfl rfl rfl HA.out ⟨by rw [HT.out]; rfl, HW.out⟩
end Go.Proofs.YtjpemfciiakphaaDoor

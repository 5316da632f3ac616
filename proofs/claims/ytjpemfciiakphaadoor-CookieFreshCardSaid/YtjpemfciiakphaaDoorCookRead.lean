/- cookie.Read: which cookie bytes are. Conditions: what comes in reads as it should; the tables of sha hold what its text says. -/
import Derived.Test.YtjpemfciiakphaaDoorCookRefRead
import Derived.Test.YtjpemfciiakphaaDoorCookNext
import Derived.Test.YtjpemfciiakphaaDoorMacSameK
import Derived.RegionTactic
namespace Go.FL


end Go.FL
namespace Go.FL
open Go.RowKit
def cookRow (b : Int) (xs : List Nat) (j : Nat) : List Value := .int .i64 b :: ((xs.take j ++ List.replicate (5 - j) 0).map fun x : Nat => Value.int .u32 (x : Int)) ++ [.int .u16 0, .int .u16 0]
theorem cookRow_set (b : Int) (x1 x2 x3 x4 x5 : Nat) (j : Nat) (hj : j < 5) : (cookRow b [x1, x2, x3, x4, x5] j).set (j + 1) (.int .u32 ((([x1, x2, x3, x4, x5][j]'hj : Nat)) : Int)) = cookRow b [x1, x2, x3, x4, x5] (j + 1) := by
  match j, hj with
  | 0, _ => rfl
  | 1, _ => rfl
  | 2, _ => rfl
  | 3, _ => rfl
  | 4, _ => rfl
end Go.FL
namespace Go.Proofs.YtjpemfciiakphaaDoor
open Go.RowKit Go.FL Go.ChangeShapes

theorem cookRd_ret {a : Act} {W : World} {g : Nat} {R : Ending → World → Prop} (v0 v1 v2 v3 v4 v5 v6 v7 : Value) (er : Int) (h4 : a.tmps.getD 4 undef = .pointer (some ⟨g, 0, none⟩)) (h5 : a.tmps.getD 5 undef = .int .i64 er) (hd : a.defers = [])
    (hc : RowV W g 26 [v0, v1, v2, v3, v4, v5, v6, v7]) (hR : R (.returned (.tuple #[.agg #[v0, v1, v2, v3, v4, v5, v6, v7], .int .i64 er])) W) : bodyPost Tryd.prog Tryd.f14 R .ret a W := by
  refine bodyPost_ret (v := .tuple #[.agg #[v0, v1, v2, v3, v4, v5, v6, v7], .int .i64 er]) ?_ hd hR
  obtain ⟨c0, c1, c2, c3, c4, c5, c6, c7⟩ := RowV.eight hc
  simp only [Array.getD_eq_getD_getElem?] at h4 h5
  simp [results, Tryd.results14, go_sem, h4, h5, asAddr, c0, c1, c2, c3, c4, c5, c6, c7]

set_option maxRecDepth 100000 in
set_option maxHeartbeats 1000000 in
theorem cookRead_any (v u : Value) (key l : List UInt8) (w : World) (hv : Rd w v key) (hu : Rd w u l) (hlaid : ShaLaid w) (hk : key.length ≤ 1047000) (hl : l.length ≤ 1000000) :
    Calls Tryd.prog 14 #[v, u] w (CookRead w key l) := by
  have HV := hid hv
  have HU := hid hu
  have HK := hid hk
  have HL := hid hlaid
  obtain ⟨p, cp, rfl, hlc, hcm, hpn, hcell⟩ := hv
  obtain ⟨q, c, rfl, hlq, hcq, hqn, hcelq⟩ := hu
  unfold maxLen at hcm hcq
  clear hcell hk hlaid
  obtain ⟨W, hW⟩ : ∃ W, W = w.alloc (.cells #[.int .i64 0, .int .u32 0, .int .u32 0, .int .u32 0, .int .u32 0, .int .u32 0, .int .u16 0, .int .u16 0] 26 (0, 0)) := ⟨_, rfl⟩
  have HA := hid (show RowV W w.heap.size 26 [.int .i64 0, .int .u32 0, .int .u32 0, .int .u32 0, .int .u32 0, .int .u32 0, .int .u16 0, .int .u16 0] by rw [hW]; exact RowV.new w 26 _)
  have HW := hid (show Below w.heap.size w W by rw [hW]; exact (Below.refl _ _).alloc (Nat.le_refl _) _)
  have HE := hid hW
  have HSZ := hid (show W.heap.size = w.heap.size + 1 by rw [hW]; simp)
  clear hW
  by_cases h64 : l.length = 64
  · obtain ⟨b0, off, rfl, -⟩ := hcelq 0 (by omega)
    clear hcelq
    obtain ⟨p3, c3, hs3⟩ : ∃ p3 c3, sliced (some ⟨b0, off, none⟩) 32 l.length c 1 = .slice p3 (l.length - 32) c3 := ⟨_, _, rfl⟩
    have hsl2 : ∀ wx, (Instr.slice 22 (.slice (some ⟨b0, off, none⟩) l.length c) (some (.int .i64 32)) none none).run Tryd.prog wx = .ok (.slice p3 32 c3) wx := fun wx => by
      have hh := run_slice_from32 (P := Tryd.prog) 22 5 Tryd.underlying22 (by kernel_rfl) (some ⟨b0, off, none⟩) l.length c 32 (by omega) .i64 wx
      rw [hs3, show l.length - 32 = 32 by omega] at hh
      exact hh
    have hcut := HU.out.cut 32 l.length (by omega) (Nat.le_refl _)
    rw [hs3, List.take_of_length_le (by simp), show l.length - 32 = 32 by omega] at hcut
    have HCUT := hid hcut
    have HTK := hid (HU.out.take 32 (by omega))
    have HTL := hid (show (l.take 32).length = 32 by rw [List.length_take]; omega)
    obtain ⟨md, hmd⟩ : ∃ md, md = macSum key (l.take 32) := ⟨_, rfl⟩
    have HDL := hid (show (bytesV md).length = 32 by rw [bytesV_length, hmd, macSum_length])
    have HML := hid (show md.length = 32 by rw [hmd, macSum_length])
    have HMD := hid hmd
    have hzo := zeroOut
    clear hs3 hcut hmd
    have hb1 : (32 : Int) ≤ (c : Int) := by omega
    have hb2 : 32 ≤ c := by omega
    have heq : ((l.length : Int) != 64) = false := by simp; omega
    have H64 := hid h64
    clear h64
    go_enter Tryd.func14, Tryd.ntmps14
    go_wp2_with fail
    go_region
    rw [← HE.out]
    obtain ⟨W3, hW3⟩ : ∃ W3, W3 = (W.alloc (.cells #[.slice (some ⟨b0, off, none⟩) 32 c] 22 (0, 0))).drew := ⟨_, rfl⟩
    have g3 : Below W.heap.size W W3 := by rw [hW3]; exact ((Below.refl _ _).alloc (Nat.le_refl _) _).drew
    have HS3 := hid (show RowV W3 (w.heap.size + 1) 22 [.slice (some ⟨b0, off, none⟩) 32 c] by rw [hW3, ← HSZ.out]; exact (RowV.new W 22 _).drew)
    have HA3 := hid (HA.out.mono g3)
    have G3 := hid (gr_trans HW.out g3)
    rw [← hW3]
    clear hW3 g3 hsl2
    have s0 : W3.cell? ⟨w.heap.size + 1, 0, none⟩ = some (.slice (some ⟨b0, off, none⟩) 32 c) := HS3.out.at 0 (by simp)
    go_wp2_with fail
    refine (macOf_any _ _ key (l.take 32) _ (HV.out.mono G3.out) (HTK.out.mono G3.out) (HL.out.mono G3.out) (by have := HK.out; omega) (by rw [HTL.out]; omega)).mono ?_
    rw [← HMD.out]
    rintro e w4 ⟨rfl, hb4⟩
    have HA4 := hid (HA3.out.mono hb4)
    have HS4 := hid (HS3.out.mono hb4)
    have G4 := hid (gr_trans G3.out hb4)
    clear hb4 s0
    go_wp2_with (refine wpList_store_rowV rfl 46 (.tmp 8) (.tmp 24) rfl w4.heap.size (bytesV md) zeros32 46 rfl rfl (RowV.new w4 46 zeros32) ?hi ?ho (bytesV_oneCell md) ?_)
    case hi => rw [HDL.out]; kernel_rfl
    case ho => rw [HDL.out, zeros32_length]
    intro w5 hr5 hg5
    have HRD5 := hid (show Rd w5 (.slice (some ⟨w4.heap.size, 0, none⟩) 32 32) md by
      have := hr5.out.to_row.rd 32 32 (by rw [HML.out]; exact Nat.le_refl _) (Nat.le_refl _) (by unfold maxLen; omega)
      rwa [List.take_of_length_le (by rw [HML.out]; exact Nat.le_refl _)] at this)
    have hgr : Below w4.heap.size w4 w5 := ((Below.refl _ _).alloc (Nat.le_refl _) _).trans (gb_below (B := w4.heap.size) hg5.out (Nat.le_refl _) (by simp))
    have G5 := hid (gr_trans G4.out hgr)
    have HA5 := hid (HA4.out.mono hgr)
    have HS5 := hid (HS4.out.mono hgr)
    clear hr5 hg5 hgr hzo
    go_wp2_with fail
    refine (same_any _ _ md (l.drop 32) _ HRD5.out (HCUT.out.mono G5.out)).mono ?_
    rintro e w6 ⟨rfl, hb6⟩
    have HA6 := hid (HA5.out.mono hb6)
    have HS6 := hid (HS5.out.mono hb6)
    have G6 := hid (gr_trans G5.out hb6)
    clear hb6
    by_cases hq : md = l.drop 32
    · rw [decide_eq_true hq]
      have hl64 := H64.out
      have hn0 := numAt_lt l 0 8
      obtain ⟨x0, hx0⟩ : ∃ x0, x0 = numAt l 0 8 := ⟨_, rfl⟩
      rw [← hx0] at hn0
      have HX0 := hid hx0
      have HY0 := hid (show numAt (l.take 32) 0 8 = x0 by rw [hx0]; exact numAt_take l 0 8 32 (by omega) (by omega))
      clear hx0
      have hn1 := numAt_lt l 8 4
      obtain ⟨x1, hx1⟩ : ∃ x1, x1 = numAt l 8 4 := ⟨_, rfl⟩
      rw [← hx1] at hn1
      have HX1 := hid hx1
      have HY1 := hid (show numAt (l.take 32) 8 4 = x1 by rw [hx1]; exact numAt_take l 8 4 32 (by omega) (by omega))
      clear hx1
      have hn2 := numAt_lt l 12 4
      obtain ⟨x2, hx2⟩ : ∃ x2, x2 = numAt l 12 4 := ⟨_, rfl⟩
      rw [← hx2] at hn2
      have HX2 := hid hx2
      have HY2 := hid (show numAt (l.take 32) 12 4 = x2 by rw [hx2]; exact numAt_take l 12 4 32 (by omega) (by omega))
      clear hx2
      have hn3 := numAt_lt l 16 4
      obtain ⟨x3, hx3⟩ : ∃ x3, x3 = numAt l 16 4 := ⟨_, rfl⟩
      rw [← hx3] at hn3
      have HX3 := hid hx3
      have HY3 := hid (show numAt (l.take 32) 16 4 = x3 by rw [hx3]; exact numAt_take l 16 4 32 (by omega) (by omega))
      clear hx3
      have hn4 := numAt_lt l 20 4
      obtain ⟨x4, hx4⟩ : ∃ x4, x4 = numAt l 20 4 := ⟨_, rfl⟩
      rw [← hx4] at hn4
      have HX4 := hid hx4
      have HY4 := hid (show numAt (l.take 32) 20 4 = x4 by rw [hx4]; exact numAt_take l 20 4 32 (by omega) (by omega))
      clear hx4
      have hn5 := numAt_lt l 24 4
      obtain ⟨x5, hx5⟩ : ∃ x5, x5 = numAt l 24 4 := ⟨_, rfl⟩
      rw [← hx5] at hn5
      have HX5 := hid hx5
      have HY5 := hid (show numAt (l.take 32) 24 4 = x5 by rw [hx5]; exact numAt_take l 24 4 32 (by omega) (by omega))
      clear hx5
      have hn6 := numAt_lt l 28 2
      obtain ⟨x6, hx6⟩ : ∃ x6, x6 = numAt l 28 2 := ⟨_, rfl⟩
      rw [← hx6] at hn6
      have HX6 := hid hx6
      have HY6 := hid (show numAt (l.take 32) 28 2 = x6 by rw [hx6]; exact numAt_take l 28 2 32 (by omega) (by omega))
      clear hx6
      have hn7 := numAt_lt l 30 2
      obtain ⟨x7, hx7⟩ : ∃ x7, x7 = numAt l 30 2 := ⟨_, rfl⟩
      rw [← hx7] at hn7
      have HX7 := hid hx7
      have HY7 := hid (show numAt (l.take 32) 30 2 = x7 by rw [hx7]; exact numAt_take l 30 2 32 (by omega) (by omega))
      clear hx7
      clear hl64
      have HOF := hid (show cookOf l = ⟨bornI x0, x1, x2, x3, x4, x5, x6, x7⟩ by rw [cookOf, ← HX0.out, ← HX1.out, ← HX2.out, ← HX3.out, ← HX4.out, ← HX5.out, ← HX6.out, ← HX7.out])
      have hw64 : wrap64 (x0 : Int) = bornI x0 := by
        unfold wrap64 bornI
        split <;> omega
      obtain ⟨w7, hw7⟩ : ∃ w7, w7 = w6.alloc (.cells #[.int .i64 0] 3 (0, 0)) := ⟨_, rfl⟩
      have g7 : Below w6.heap.size w6 w7 := by rw [hw7]; exact (Below.refl _ _).alloc (Nat.le_refl _) _
      have HP7 := hid (show RowV w7 w6.heap.size 3 [.int .i64 ((0 : Nat) : Int)] by rw [hw7]; exact RowV.new w6 3 [.int .i64 0])
      have HA7 := hid (HA6.out.mono g7)
      have HS7 := hid (HS6.out.mono g7)
      have G7 := hid (gr_trans G6.out g7)
      have HE7 := hid hw7
      have hA6 : w.heap.size < w6.heap.size := HA6.out.lt
      have hS6 : w.heap.size + 1 < w6.heap.size := HS6.out.lt
      clear hw7 g7
      go_wp2_with fail
      rw [← HE7.out]
      refine (next_any _ _ _ (l.take 32) 0 8 _ rfl (by omega) _ (HS7.out.at 0 (by simp)) (HTK.out.mono G7.out) HP7.out (by rw [HTL.out]; omega) (by rw [HTL.out]; omega)).mono ?_
      rw [HY0.out]
      rintro e w8 ⟨rfl, hp8, hg8⟩
      have HP8 := hid hp8
      have HA8 := hid (HA7.out.grown hg8 (fun e => by simp at e; omega))
      have HS8 := hid (HS7.out.grown hg8 (fun e => by simp at e; omega))
      have G8 := hid (show Below w.heap.size w w8 from G7.out.trans (gb_below hg8 (Nat.le_of_lt hA6) G7.out.size))
      have hP8 : w6.heap.size < w8.heap.size := hp8.lt
      clear hp8 hg8
      obtain ⟨w9, hw9⟩ : ∃ w9, w9 = w8.alloc (.cells #[.int .i64 (bornI x0), .int .u32 0, .int .u32 0, .int .u32 0, .int .u32 0, .int .u32 0, .int .u16 0, .int .u16 0] 26 (0, 0)) := ⟨_, rfl⟩
      obtain ⟨wA, hwA⟩ : ∃ wA, wA = w9.alloc (.cells #[.pointer (some ⟨w8.heap.size, 1, none⟩), .pointer (some ⟨w8.heap.size, 2, none⟩), .pointer (some ⟨w8.heap.size, 3, none⟩), .pointer (some ⟨w8.heap.size, 4, none⟩), .pointer (some ⟨w8.heap.size, 5, none⟩)] 52 (0, 0)) := ⟨_, rfl⟩
      have s9 : w9.heap.size = w8.heap.size + 1 := by rw [hw9]; simp
      have g9 : Below w8.heap.size w8 w9 := by rw [hw9]; exact (Below.refl _ _).alloc (Nat.le_refl _) _
      have gA : Below w8.heap.size w8 wA := by rw [hwA]; exact g9.alloc (by omega) _
      have HCA := hid (show RowV wA w8.heap.size 26 (cookRow (bornI x0) [x1, x2, x3, x4, x5] 0) by rw [hwA, hw9]; exact (RowV.new w8 26 _).alloc _)
      have HTA := hid (show RowV wA (w8.heap.size + 1) 52 [.pointer (some ⟨w8.heap.size, 1, none⟩), .pointer (some ⟨w8.heap.size, 2, none⟩), .pointer (some ⟨w8.heap.size, 3, none⟩), .pointer (some ⟨w8.heap.size, 4, none⟩), .pointer (some ⟨w8.heap.size, 5, none⟩)] by rw [hwA, ← s9]; exact RowV.new w9 52 _)
      have HPA := hid (HP8.out.mono gA)
      have HAA := hid (HA8.out.mono gA)
      have HSA := hid (HS8.out.mono gA)
      have GA := hid (gr_trans G8.out gA)
      have HEA := hid (show wA = (w8.alloc (.cells #[.int .i64 (bornI x0), .int .u32 0, .int .u32 0, .int .u32 0, .int .u32 0, .int .u32 0, .int .u16 0, .int .u16 0] 26 (0, 0))).alloc (.cells #[.pointer (some ⟨w8.heap.size, 1, none⟩), .pointer (some ⟨w8.heap.size, 2, none⟩), .pointer (some ⟨w8.heap.size, 3, none⟩), .pointer (some ⟨w8.heap.size, 4, none⟩), .pointer (some ⟨w8.heap.size, 5, none⟩)] 52 (0, 0)) by rw [hwA, hw9])
      have hsA : wA.heap.size = w8.heap.size + 2 := by rw [hwA]; simp [s9]
      have hw8 := G8.out.size
      clear hw9 hwA s9 g9 gA
      obtain ⟨gC, hgC⟩ : ∃ gC, gC = w8.heap.size := ⟨_, rfl⟩
      obtain ⟨gP, hgP⟩ : ∃ gP, gP = w6.heap.size := ⟨_, rfl⟩
      have HTS := hid (show Hid (∀ j (hj : j < 5), [x1, x2, x3, x4, x5][j]'hj < 4294967296) from fun j hj => by
        match j, hj with
        | 0, _ => exact hn1
        | 1, _ => exact hn2
        | 2, _ => exact hn3
        | 3, _ => exact hn4
        | 4, _ => exact hn5)
      have HNX := hid (show ∀ j (hj : j < 5), numAt (l.take 32) (8 + 4 * j) 4 = [x1, x2, x3, x4, x5][j]'hj from fun j hj => by
        match j, hj with
        | 0, _ => exact HY1.out
        | 1, _ => exact HY2.out
        | 2, _ => exact HY3.out
        | 3, _ => exact HY4.out
        | 4, _ => exact HY5.out)
      go_wp2_with fail
      rw [hw64, ← HEA.out]
      go_loopw [13, 42] (fun o y wr => ∃ (j : Nat), j ≤ 5 ∧ y = .int .i64 (j : Int) ∧ o = o ∧ Hid (RowV wr w8.heap.size 26 (cookRow (bornI x0) [x1, x2, x3, x4, x5] j)) ∧ Hid (RowV wr w6.heap.size 3 [.int .i64 ((8 + 4 * j : Nat) : Int)]) ∧ Hid (Chg (fun k => k = w8.heap.size ∨ k = w6.heap.size) wA wr)) (fun _ y _ => 5 - (intOf y).toNat)
      case atStart => exact ⟨0, Nat.zero_le _, rfl, rfl, HCA, HPA, hid (Chg.refl _ _)⟩
      case round =>
        obtain ⟨j, hj, rfl, -, HC, HP, HG⟩ := hrel
        have GB := hid (GA.out.trans (HG.out.below (B := w.heap.size) GA.out.size (fun k hk => by omega)))
        have HSB := hid (HSA.out.chg HG.out (by omega))
        have HAB := hid (HAA.out.chg HG.out (by omega))
        by_cases hlt : j < 5
        · have hps : ([.pointer (some ⟨w8.heap.size, 1, none⟩), .pointer (some ⟨w8.heap.size, 2, none⟩), .pointer (some ⟨w8.heap.size, 3, none⟩), .pointer (some ⟨w8.heap.size, 4, none⟩), .pointer (some ⟨w8.heap.size, 5, none⟩)] : List Value)[j]'(by simpa using hlt) = .pointer (some ⟨w8.heap.size, j + 1, none⟩) := by
            match j, hlt with
            | 0, _ => rfl
            | 1, _ => rfl
            | 2, _ => rfl
            | 3, _ => rfl
            | 4, _ => rfl
          have ct := (HTA.out.chg HG.out (by omega)).at j (by simpa using hlt)
          rw [hps] at ct
          have HXJ := hid (HNX.out j hlt)
          have hxb := HTS.out.out j hlt
          have HST := hid (cookRow_set (bornI x0) x1 x2 x3 x4 x5 j hlt)
          generalize [x1, x2, x3, x4, x5][j]'hlt = xj at *
          clear hps
          go_wp2_with fail
          refine (next_any _ _ _ (l.take 32) (8 + 4 * j) 4 _ rfl (by omega) _ (HSB.out.at 0 (by simp)) (HTK.out.mono GB.out) HP.out (by rw [HTL.out]; omega) (by rw [HTL.out]; omega)).mono ?_
          rw [HXJ.out]
          rintro e wC ⟨rfl, hpC, hgC⟩
          have HPC := hid hpC
          have HCC := hid (HC.out.grown hgC (fun e => by simp at e; omega))
          have HGC := hid (HG.out.then (Chg.of_grown hgC) (fun i hi h => .inr (by simpa using h.symm)))
          have cc := HCC.out.at (j + 1) (by simp [cookRow]; omega)
          have ff := HCC.out.frozen (j + 1)
          clear hpC hgC ct
          go_wp2_with fail
          go_roundw
          case rel => exact ⟨j + 1, by omega, by go_num, trivial, hid (by rw [← HST.out]; exact HCC.out.store (j + 1) _), hid (HPC.out.other _ _ (by simp; omega)), hid (HGC.out.set _ _ (.inl (.inl rfl)))⟩
          case measure => simp [intOf]; omega
        · obtain rfl : j = 5 := by omega
          clear hlt
          have HCE := hid (show RowV wr w8.heap.size 26 [.int .i64 (bornI x0), .int .u32 (x1 : Int), .int .u32 (x2 : Int), .int .u32 (x3 : Int), .int .u32 (x4 : Int), .int .u32 (x5 : Int), .int .u16 0, .int .u16 0] from HC.out)
          go_wp2_with fail
          refine (next_any _ _ _ (l.take 32) 28 2 _ rfl (by omega) _ (HSB.out.at 0 (by simp)) (HTK.out.mono GB.out) HP.out (by rw [HTL.out]; omega) (by rw [HTL.out]; omega)).mono ?_
          rw [HY6.out]
          rintro e wD ⟨rfl, hpD, hgD⟩
          have HPD := hid hpD
          have HSD := hid (HSB.out.grown hgD (fun e => by simp at e; omega))
          have HAD := hid (HAB.out.grown hgD (fun e => by simp at e; omega))
          have HCD := hid (HCE.out.grown hgD (fun e => by simp at e; omega))
          have GD := hid (show Below w.heap.size w wD from GB.out.trans (gb_below hgD (Nat.le_of_lt hA6) GB.out.size))
          clear hpD hgD
          go_wp2_with fail
          refine (next_any _ _ _ (l.take 32) 30 2 _ rfl (by omega) _ (HSD.out.at 0 (by simp)) (HTK.out.mono GD.out) HPD.out (by rw [HTL.out]; omega) (by rw [HTL.out]; omega)).mono ?_
          rw [HY7.out]
          rintro e wE ⟨rfl, hpE, hgE⟩
          have HAE := hid (HAD.out.grown hgE (fun e => by simp at e; omega))
          have HCE2 := hid (HCD.out.grown hgE (fun e => by simp at e; omega))
          have GE := hid (show Below w.heap.size w wE from GD.out.trans (gb_below hgE (Nat.le_of_lt hA6) GD.out.size))
          clear hpE hgE
          obtain ⟨k0, k1, k2, k3, k4, k5, k6, k7⟩ := HCE2.out.eight
          have f6 := HCE2.out.frozen 6
          have f7 := HCE2.out.frozen 7
          obtain ⟨wF, hwF⟩ : ∃ wF, wF = (wE.setCell ⟨w8.heap.size, 6, none⟩ (.int .u16 (x6 : Int))).setCell ⟨w8.heap.size, 7, none⟩ (.int .u16 (x7 : Int)) := ⟨_, rfl⟩
          have HCF := hid (show RowV wF w8.heap.size 26 [.int .i64 (bornI x0), .int .u32 (x1 : Int), .int .u32 (x2 : Int), .int .u32 (x3 : Int), .int .u32 (x4 : Int), .int .u32 (x5 : Int), .int .u16 (x6 : Int), .int .u16 (x7 : Int)] by rw [hwF]; exact (HCE2.out.store 6 _).store 7 _)
          have HAF := hid (show RowV wF w.heap.size 26 [.int .i64 0, .int .u32 0, .int .u32 0, .int .u32 0, .int .u32 0, .int .u32 0, .int .u16 0, .int .u16 0] by rw [hwF]; exact (HAE.out.other _ _ (by simp; omega)).other _ _ (by simp; omega))
          have GF := hid (show Below w.heap.size w wF by rw [hwF]; exact (GE.out.setCell (by simp; omega) _).setCell (by simp; omega) _)
          have HEF := hid hwF
          clear hwF
          go_wp2_with fail
          rw [← HEF.out]
          refine (may_walk ⟨bornI x0, x1, x2, x3, x4, x5, x6, x7⟩ _).mono ?_
          rintro e we ⟨rfl, hbe⟩
          have HAe := hid (HAF.out.mono hbe)
          have HCe := hid (HCF.out.mono hbe)
          have Ge := hid (gr_trans GF.out hbe)
          clear hbe k0 k1 k2 k3 k4 k5 k6 k7 f6 f7
          obtain ⟨i0, i1, i2, i3, i4, i5, i6, i7⟩ := HCe.out.eight
          obtain ⟨j0, j1, j2, j3, j4, j5, j6, j7⟩ := HAe.out.eight
          have y0 := HAe.out.frozen 0
          have y1 := HAe.out.frozen 1
          have y2 := HAe.out.frozen 2
          have y3 := HAe.out.frozen 3
          have y4 := HAe.out.frozen 4
          have y5 := HAe.out.frozen 5
          have y6 := HAe.out.frozen 6
          have y7 := HAe.out.frozen 7
          by_cases hmay : (⟨bornI x0, x1, x2, x3, x4, x5, x6, x7⟩ : CookD).may
          · have HT := hid (show cookTells key l = (0, ⟨bornI x0, x1, x2, x3, x4, x5, x6, x7⟩) by rw [cookTells, if_neg (by rw [H64.out]; simp), ← HMD.out, if_neg (by simpa using hq), HOF.out, if_pos hmay])
            rw [decide_eq_true hmay]
            clear hmay
            go_wp2_with fail
            refine cookRd_ret (.int .i64 (bornI x0)) (.int .u32 (x1 : Int)) (.int .u32 (x2 : Int)) (.int .u32 (x3 : Int)) (.int .u32 (x4 : Int)) (.int .u32 (x5 : Int)) (.int .u16 (x6 : Int)) (.int .u16 (x7 : Int)) 0 rfl rfl rfl (HAe.out.put8 (.int .i64 (bornI x0)) (.int .u32 (x1 : Int)) (.int .u32 (x2 : Int)) (.int .u32 (x3 : Int)) (.int .u32 (x4 : Int)) (.int .u32 (x5 : Int)) (.int .u16 (x6 : Int)) (.int .u16 (x7 : Int))) ⟨by rw [HT.out]; rfl, below_put8 Ge.out (Nat.le_refl _) _ _ _ _ _ _ _ _⟩
          · have HT := hid (show cookTells key l = (7, .zero) by rw [cookTells, if_neg (by rw [H64.out]; simp), ← HMD.out, if_neg (by simpa using hq), HOF.out, if_neg hmay])
            rw [decide_eq_false hmay]
            clear hmay
            go_wp2_with fail
            refine cookRd_ret (.int .i64 0) (.int .u32 0) (.int .u32 0) (.int .u32 0) (.int .u32 0) (.int .u32 0) (.int .u16 0) (.int .u16 0) 7 rfl rfl rfl (HAe.out.put8 (.int .i64 0) (.int .u32 0) (.int .u32 0) (.int .u32 0) (.int .u32 0) (.int .u32 0) (.int .u16 0) (.int .u16 0)) ⟨by rw [HT.out]; rfl, below_put8 Ge.out (Nat.le_refl _) _ _ _ _ _ _ _ _⟩
    · have HT := hid (show cookTells key l = (10, .zero) by rw [cookTells, if_neg (by rw [H64.out]; simp), ← HMD.out, if_pos hq])
      rw [decide_eq_false hq]
      obtain ⟨j0, j1, j2, j3, j4, j5, j6, j7⟩ := HA6.out.eight
      have y0 := HA6.out.frozen 0
      have y1 := HA6.out.frozen 1
      have y2 := HA6.out.frozen 2
      have y3 := HA6.out.frozen 3
      have y4 := HA6.out.frozen 4
      have y5 := HA6.out.frozen 5
      have y6 := HA6.out.frozen 6
      have y7 := HA6.out.frozen 7
      go_wp2_with fail
      refine cookRd_ret (.int .i64 0) (.int .u32 0) (.int .u32 0) (.int .u32 0) (.int .u32 0) (.int .u32 0) (.int .u16 0) (.int .u16 0) 10 rfl rfl rfl (HA6.out.put8 (.int .i64 0) (.int .u32 0) (.int .u32 0) (.int .u32 0) (.int .u32 0) (.int .u32 0) (.int .u16 0) (.int .u16 0)) ⟨by rw [HT.out]; rfl, below_put8 G6.out (Nat.le_refl _) _ _ _ _ _ _ _ _⟩
  · have HT := hid (show cookTells key l = (7, .zero) by rw [cookTells, if_pos h64])
    have hne : ((l.length : Int) != 64) = true := by simp; omega
    clear hcelq
    go_enter Tryd.func14, Tryd.ntmps14
    go_wp2_with fail
    rw [← HE.out]
    refine cookRd_ret (.int .i64 0) (.int .u32 0) (.int .u32 0) (.int .u32 0) (.int .u32 0) (.int .u32 0) (.int .u16 0) (.int .u16 0) 7 rfl rfl rfl HA.out ⟨by rw [HT.out]; rfl, HW.out⟩
end Go.Proofs.YtjpemfciiakphaaDoor

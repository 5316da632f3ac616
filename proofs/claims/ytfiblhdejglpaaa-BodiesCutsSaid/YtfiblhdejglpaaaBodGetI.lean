/- bodies.GetInit: a beginning. Conditions: what comes in reads as it should. -/
import Derived.Test.YtfiblhdejglpaaaGetsA
import Derived.Test.YtfiblhdejglpaaaBodGetD
import Derived.Test.YtfiblhdejglpaaaPutsB
import Derived.Deep.Cut
namespace Go.FL
open Go.RowKit
def InitD.vals (d : InitD) (s : Value) : Value := .agg #[.int .u32 (d.tag : Int), .int .u32 (d.rwnd : Int), .int .u16 (d.out : Int), .int .u16 (d.in_ : Int), .int .u32 (d.tsn : Int), s]
def initB (i : InitD) : Bool := decide (i.tag ≠ 0) && decide (i.out ≠ 0) && decide (i.in_ ≠ 0)
def initMay (c : Chk) : Bool := initB (initOf c) && (decide (c.k = 1) || (decide (c.k = 2) && decide (0 < (initOf c).ck.length)))
def initGet (c : Chk) : InitD × Int := if initMay c = true ∧ (initOf c).chk c.k = c then (initOf c, 0) else (.zero, 7)
theorem int_ne (n : Nat) : ((n : Int) != 0) = decide (n ≠ 0) := by
  rw [Bool.eq_iff_iff]
  simp
end Go.FL
namespace Go.Proofs.Ytfiblhdejglpaaa
open Go.RowKit Go.FL Go.ChangeShapes

theorem getInit_ret {a : Act} {W : World} {g : Nat} {R : Ending → World → Prop} (v0 v1 v2 v3 v4 v5 : Value) (er : Int) (h2 : a.tmps.getD 2 undef = .pointer (some ⟨g, 0, none⟩)) (h3 : a.tmps.getD 3 undef = .int .i64 er) (hd : a.defers = [])
    (hc : RowV W g 70 [v0, v1, v2, v3, v4, v5]) (hR : R (.returned (.tuple #[.agg #[v0, v1, v2, v3, v4, v5], .int .i64 er])) W) : bodyPost Try.prog Try.f43 R .ret a W := by
  refine bodyPost_ret (v := .tuple #[.agg #[v0, v1, v2, v3, v4, v5], .int .i64 er]) ?_ hd hR
  obtain ⟨c0, c1, c2, c3, c4, c5, -⟩ := rowInit hc
  simp only [Array.getD_eq_getD_getElem?] at h2 h3
  simp [results, Try.results43, go_sem, h2, h3, asAddr, c0, c1, c2, c3, c4, c5]

set_option maxRecDepth 100000 in
set_option maxHeartbeats 8000000 in
theorem getInit_any (v : Value) (ch : Chk) (w : World) (h : ChkV w v ch) (hl : ch.b.length ≤ 1000000) :
    Calls Try.prog 43 #[v] w fun e w' => ∃ s, e = .returned (.tuple #[(initGet ch).1.vals s, .int .i64 (initGet ch).2]) ∧ Own w' w.heap.size 5 s (initGet ch).1.ck ∧ Below w.heap.size w w' := by
  obtain ⟨s, rfl, hrd⟩ := h
  have HV := hid hrd
  obtain ⟨p, c, rfl, hlc, hcm, hpn, hcell⟩ := hrd
  unfold maxLen at hcm
  clear hcell
  obtain ⟨kc, fc, bc⟩ := ch
  simp only at *
  have hn0 := numAt_lt bc 0 4
  have hn1 := numAt_lt bc 4 4
  have hn2 := numAt_lt bc 8 2
  have hn3 := numAt_lt bc 10 2
  have hn4 := numAt_lt bc 12 4
  have hn6 := numAt_lt bc 18 2
  have HDO0 := hid (show initOf ⟨kc, fc, bc⟩ = ⟨numAt bc 0 4, numAt bc 4 4, numAt bc 8 2, numAt bc 10 2, numAt bc 12 4, if kc = 2 then cutAt bc 20 ((numAt bc 18 2 : Int) - 4) else []⟩ from rfl)
  obtain ⟨x0, hx0⟩ : ∃ x, x = numAt bc 0 4 := ⟨_, rfl⟩
  obtain ⟨x1, hx1⟩ : ∃ x, x = numAt bc 4 4 := ⟨_, rfl⟩
  obtain ⟨x2, hx2⟩ : ∃ x, x = numAt bc 8 2 := ⟨_, rfl⟩
  obtain ⟨x3, hx3⟩ : ∃ x, x = numAt bc 10 2 := ⟨_, rfl⟩
  obtain ⟨x4, hx4⟩ : ∃ x, x = numAt bc 12 4 := ⟨_, rfl⟩
  obtain ⟨x6, hx6⟩ : ∃ x, x = numAt bc 18 2 := ⟨_, rfl⟩
  rw [← hx0, ← hx1, ← hx2, ← hx3, ← hx4, ← hx6] at HDO0
  rw [← hx0] at hn0
  rw [← hx1] at hn1
  rw [← hx2] at hn2
  rw [← hx3] at hn3
  rw [← hx4] at hn4
  rw [← hx6] at hn6
  have HX0 := hid hx0
  have HX1 := hid hx1
  have HX2 := hid hx2
  have HX3 := hid hx3
  have HX4 := hid hx4
  have HX6 := hid hx6
  obtain ⟨res, hres⟩ : ∃ r, r = initGet ⟨kc, fc, bc⟩ := ⟨_, rfl⟩
  rw [← hres]
  have HRES := hid hres
  clear hx0 hx1 hx2 hx3 hx4 hx6 hres
  have hw0 : IntKind.u32.wrap (x0 : Int) = (x0 : Int) := by rw [wrap_u32_lt]; omega
  have hw1 : IntKind.u32.wrap (x1 : Int) = (x1 : Int) := by rw [wrap_u32_lt]; omega
  have hw2 : IntKind.u16.wrap (x2 : Int) = (x2 : Int) := by rw [IntKind.wrap_u16]; omega
  have hw3 : IntKind.u16.wrap (x3 : Int) = (x3 : Int) := by rw [IntKind.wrap_u16]; omega
  have hw4 : IntKind.u32.wrap (x4 : Int) = (x4 : Int) := by rw [wrap_u32_lt]; omega
  have hw6 : IntKind.i64.wrap (x6 : Int) = (x6 : Int) := by rw [IntKind.wrap_i64]; omega
  obtain ⟨Wa, hWa⟩ : ∃ W0, W0 = w.alloc (.cells #[.int .u8 (kc.toNat : Int), .int .u8 (fc.toNat : Int), .slice p bc.length c] 28 (0, 0)) := ⟨_, rfl⟩
  have hsa : Wa.heap.size = w.heap.size + 1 := by rw [hWa]; simp
  obtain ⟨Wb, hWb⟩ : ∃ W0, W0 = Wa.alloc (.cells #[.int .u32 0, .int .u32 0, .int .u16 0, .int .u16 0, .int .u32 0, .slice none 0 0] 70 (0, 0)) := ⟨_, rfl⟩
  have hsb : Wb.heap.size = w.heap.size + 2 := by rw [hWb]; simp [hsa]
  obtain ⟨W, hW⟩ : ∃ W, W = Wb.alloc (.cells #[(.slice p bc.length c), .int .i64 0] 90 (0, 0)) := ⟨_, rfl⟩
  have HC0 := hid (show RowV W w.heap.size 28 [.int .u8 (kc.toNat : Int), .int .u8 (fc.toNat : Int), .slice p bc.length c] by rw [hW, hWb, hWa]; exact ((RowV.new w 28 _).alloc _).alloc _)
  have HT0 := hid (show RowV W (w.heap.size + 1) 70 [.int .u32 0, .int .u32 0, .int .u16 0, .int .u16 0, .int .u32 0, .slice none 0 0] by rw [hW, hWb, ← hsa]; exact (RowV.new Wa 70 _).alloc _)
  have HJ0 := hid (show RdrAt (w.heap.size + 2) (.slice p bc.length c) 0 W by rw [hW, ← hsb]; exact RowV.new Wb 90 _)
  have G0 := hid (show Below w.heap.size w W by rw [hW, hWb, hWa]; exact (((Below.refl _ _).alloc (Nat.le_refl _) _).alloc (by simp) _).alloc (by simp; omega) _)
  have hs1 : W.heap.size = w.heap.size + 3 := by rw [hW]; simp [hsb]
  rw [hWb, hWa] at hW
  have HE := hid hW
  clear hW hWa hWb hsa hsb
  have hkb := byte_lt kc
  have hfb := byte_lt fc
  have hk1 := kind_eq kc 1 1 rfl
  have hk2 := kind_eq kc 2 2 rfl
  go_enter Try.func43, Try.ntmps43
  go_wp2_with fail
  rw [← HE.out]
  refine (btake_any _ _ bc 0 4 _ rfl (by omega) _ HJ0.out (HV.out.mono G0.out) (by omega)).mono ?_
  rw [← HX0.out]
  rintro e w1 ⟨rfl, hj, hg⟩
  have HC1 := hid (HC0.out.grown hg (fun e => by simp at e))
  have HT1 := hid (HT0.out.grown hg (fun e => by simp at e))
  have HJ1 := hid hj
  have G1 := hid (show Below w.heap.size w w1 from G0.out.trans (gb_below hg (by omega) (by omega)))
  have hsz1 := hg.size
  clear hj hg
  go_wp2_with fail
  refine (btake_any _ _ bc 4 4 _ rfl (by omega) _ HJ1.out (HV.out.mono G1.out) (by omega)).mono ?_
  rw [← HX1.out]
  rintro e w2 ⟨rfl, hj, hg⟩
  have HC2 := hid (HC1.out.grown hg (fun e => by simp at e))
  have HT2 := hid (HT1.out.grown hg (fun e => by simp at e))
  have HJ2 := hid hj
  have G2 := hid (show Below w.heap.size w w2 from G1.out.trans (gb_below hg (by omega) (by omega)))
  have hsz2 := hg.size
  clear hj hg
  go_wp2_with fail
  refine (btake_any _ _ bc 8 2 _ rfl (by omega) _ HJ2.out (HV.out.mono G2.out) (by omega)).mono ?_
  rw [← HX2.out]
  rintro e w3 ⟨rfl, hj, hg⟩
  have HC3 := hid (HC2.out.grown hg (fun e => by simp at e))
  have HT3 := hid (HT2.out.grown hg (fun e => by simp at e))
  have HJ3 := hid hj
  have G3 := hid (show Below w.heap.size w w3 from G2.out.trans (gb_below hg (by omega) (by omega)))
  have hsz3 := hg.size
  clear hj hg
  go_wp2_with fail
  refine (btake_any _ _ bc 10 2 _ rfl (by omega) _ HJ3.out (HV.out.mono G3.out) (by omega)).mono ?_
  rw [← HX3.out]
  rintro e w4 ⟨rfl, hj, hg⟩
  have HC4 := hid (HC3.out.grown hg (fun e => by simp at e))
  have HT4 := hid (HT3.out.grown hg (fun e => by simp at e))
  have HJ4 := hid hj
  have G4 := hid (show Below w.heap.size w w4 from G3.out.trans (gb_below hg (by omega) (by omega)))
  have hsz4 := hg.size
  clear hj hg
  go_wp2_with fail
  refine (btake_any _ _ bc 12 4 _ rfl (by omega) _ HJ4.out (HV.out.mono G4.out) (by omega)).mono ?_
  rw [← HX4.out]
  rintro e w5 ⟨rfl, hj, hg⟩
  have HC5 := hid (HC4.out.grown hg (fun e => by simp at e))
  have HT5 := hid (HT4.out.grown hg (fun e => by simp at e))
  have HJ5 := hid hj
  have G5 := hid (show Below w.heap.size w w5 from G4.out.trans (gb_below hg (by omega) (by omega)))
  have hsz5 := hg.size
  clear hj hg
  obtain ⟨W6, hW6⟩ : ∃ W3, W3 = w5.alloc (.cells #[.int .u32 (x0 : Int), .int .u32 (x1 : Int), .int .u16 (x2 : Int), .int .u16 (x3 : Int), .int .u32 (x4 : Int), .slice none 0 0] 70 (0, 0)) := ⟨_, rfl⟩
  have g6 : Below w5.heap.size w5 W6 := by rw [hW6]; exact (Below.refl _ _).alloc (Nat.le_refl _) _
  have hs6 : W6.heap.size = w5.heap.size + 1 := by rw [hW6]; simp
  have HC6 := hid (HC5.out.mono g6)
  have HT6 := hid (HT5.out.mono g6)
  have HJ6 := hid (show RdrAt (w.heap.size + 2) (.slice p bc.length c) 16 W6 from RowV.mono HJ5.out g6)
  have HF6 := hid (show RowV W6 w5.heap.size 70 [.int .u32 (x0 : Int), .int .u32 (x1 : Int), .int .u16 (x2 : Int), .int .u16 (x3 : Int), .int .u32 (x4 : Int), .slice none 0 0] by rw [hW6]; exact RowV.new w5 70 _)
  have G6 := hid (gr_trans G5.out g6)
  have HE6 := hid hW6
  obtain ⟨h, hh⟩ : ∃ h, h = w5.heap.size := ⟨_, rfl⟩
  obtain ⟨mb, hmb⟩ : ∃ b, b = (decide (x0 ≠ 0) && decide (x2 ≠ 0) && decide (x3 ≠ 0)) := ⟨_, rfl⟩
  have HMB := hid hmb
  have hi0 := int_ne x0
  have hi2 := int_ne x2
  have hi3 := int_ne x3
  obtain ⟨k0, k1, k2⟩ := HC6.out.three
  rw [hW6] at k0 k1 k2
  clear hmb hW6 g6
  go_upto_region 3 with fail
  go_cut [6] from 27 (fun s6 wx => s6 = .bool mb ∧ wx = w5.alloc (.cells #[.int .u32 (x0 : Int), .int .u32 (x1 : Int), .int .u16 (x2 : Int), .int .u16 (x3 : Int), .int .u32 (x4 : Int), .slice none 0 0] 70 (0, 0)))
  case first =>
    by_cases q0 : x0 = 0
    · rw [show decide (x0 ≠ 0) = false by simp [q0]] at hi0
      clear q0
      go_wp2_with fail
      go_meet
      exact ⟨by rw [HMB.out]; simp_all, rfl⟩
    · rw [show decide (x0 ≠ 0) = true by simp [q0]] at hi0
      by_cases q2 : x2 = 0
      · rw [show decide (x2 ≠ 0) = false by simp [q2]] at hi2
        clear q0 q2
        go_wp2_with fail
        go_meet
        exact ⟨by rw [HMB.out]; simp_all, rfl⟩
      · rw [show decide (x2 ≠ 0) = true by simp [q2]] at hi2
        have HQ0 := hid q0
        have HQ2 := hid q2
        clear q0 q2
        go_wp2_with fail
        go_meet
        exact ⟨by rw [HMB.out, decide_eq_true HQ0.out, decide_eq_true HQ2.out]; simp, rfl⟩
  case rest =>
    obtain ⟨rfl, rfl⟩ := hcut
    clear k0 k1 k2 hi0 hi2 hi3
    by_cases e1 : kc = 1
    · have e2 : kc ≠ 2 := by rw [e1]; decide
      rw [decide_eq_true e1] at hk1
      have HDO := hid (show initOf ⟨kc, fc, bc⟩ = ⟨x0, x1, x2, x3, x4, []⟩ by rw [HDO0.out, if_neg e2])
      have HMAY := hid (show initMay ⟨kc, fc, bc⟩ = mb by unfold initMay; rw [HDO.out, HMB.out]; simp [initB, e1])
      have HC9 := hid HC6.out
      have HT9 := hid HT6.out
      have HF9 := hid HF6.out
      have G9 := hid G6.out
      clear hk2 e1 e2
      obtain ⟨k0, k1, k2⟩ := HC9.out.three
      obtain ⟨i0, i1, i2, i3, i4, i5, -⟩ := rowInit HF9.out
      rw [HE6.out] at k0 k1 k2 i0 i1 i2 i3 i4 i5
      go_wp2_with fail
      clear k0 k1 k2 i0 i1 i2 i3 i4 i5
      rw [← HE6.out]
      refine (bgetInit_any x0 x1 x2 x3 x4 none 0 0 w.heap.size kc fc _ bc mb _ (HV.out.mono G9.out) (InitD.chk kc ⟨x0, x1, x2, x3, x4, []⟩) (fun wx hbx => getInit1_any kc fc _ _ ⟨x0, x1, x2, x3, x4, []⟩ ⟨hn0, hn1, hn2, hn3, hn4⟩ w.heap.size wx ⟨_, rfl, Rd.nil _⟩ (by show List.length ([] : List UInt8) ≤ _; simp) (HC9.out.mono hbx))).mono ?_
      rintro e wA ⟨rfl, hbA⟩
      have HTA := hid (HT9.out.mono hbA)
      have GA := hid (gr_trans G9.out hbA)
      clear hbA
      obtain ⟨jj0, jj1, jj2, jj3, jj4, jj5, -⟩ := rowInit HTA.out
      have y0 := HTA.out.frozen 0
      have y1 := HTA.out.frozen 1
      have y2 := HTA.out.frozen 2
      have y3 := HTA.out.frozen 3
      have y4 := HTA.out.frozen 4
      have y5 := HTA.out.frozen 5
      by_cases hq : mb = true ∧ InitD.chk kc ⟨x0, x1, x2, x3, x4, []⟩ = ⟨kc, fc, bc⟩
      · have HRS := hid (show res = (⟨x0, x1, x2, x3, x4, []⟩, 0) by rw [HRES.out, initGet, HDO.out, HMAY.out]; exact if_pos hq)
        rw [if_pos hq]
        clear hq
        go_wp2_with fail
        refine getInit_ret (.int .u32 (x0 : Int)) (.int .u32 (x1 : Int)) (.int .u16 (x2 : Int)) (.int .u16 (x3 : Int)) (.int .u32 (x4 : Int)) (.slice none 0 0) 0 rfl rfl rfl ((((((HTA.out.store 0 (.int .u32 (x0 : Int))).store 1 (.int .u32 (x1 : Int))).store 2 (.int .u16 (x2 : Int))).store 3 (.int .u16 (x3 : Int))).store 4 (.int .u32 (x4 : Int))).store 5 (.slice none 0 0)) ⟨.slice none 0 0, by rw [HRS.out]; rfl, ?_, ((((((GA.out.setCell (by simp; try omega) _).setCell (by simp; try omega) _).setCell (by simp; try omega) _).setCell (by simp; try omega) _).setCell (by simp; try omega) _).setCell (by simp; try omega) _)⟩
        rw [HRS.out]
        exact Own.nil _ _ _
      · have HRS := hid (show res = (.zero, 7) by rw [HRES.out, initGet, HDO.out, HMAY.out]; exact if_neg hq)
        rw [if_neg hq]
        clear hq
        go_wp2_with fail
        refine getInit_ret (.int .u32 0) (.int .u32 0) (.int .u16 0) (.int .u16 0) (.int .u32 0) (.slice none 0 0) 7 rfl rfl rfl ((((((HTA.out.store 0 (.int .u32 0)).store 1 (.int .u32 0)).store 2 (.int .u16 0)).store 3 (.int .u16 0)).store 4 (.int .u32 0)).store 5 (.slice none 0 0)) ⟨.slice none 0 0, by rw [HRS.out]; rfl, ?_, ((((((GA.out.setCell (by simp; try omega) _).setCell (by simp; try omega) _).setCell (by simp; try omega) _).setCell (by simp; try omega) _).setCell (by simp; try omega) _).setCell (by simp; try omega) _)⟩
        rw [HRS.out]
        exact Own.nil _ _ _
    · rw [decide_eq_false e1] at hk1
      by_cases e2 : kc = 2
      · rw [decide_eq_true e2] at hk2
        obtain ⟨ck, hck⟩ : ∃ l, l = cutAt bc 20 ((x6 : Int) - 4) := ⟨_, rfl⟩
        have HCK := hid hck
        have HDO := hid (show initOf ⟨kc, fc, bc⟩ = ⟨x0, x1, x2, x3, x4, ck⟩ by rw [HDO0.out, if_pos e2, hck])
        have HCL0 := hid (show ck.length ≤ bc.length by rw [hck]; exact cutAt_len _ _ _)
        obtain ⟨nck, hnc⟩ : ∃ n, n = ck.length := ⟨_, rfl⟩
        have HCL := hid (show ck.length = nck from hnc.symm)
        have hnck : nck ≤ 1000000 := by rw [hnc]; have := HCL0.out; omega
        have HMAY0 := hid (show initMay ⟨kc, fc, bc⟩ = (mb && decide (0 < nck)) by unfold initMay; rw [HDO.out, HMB.out, hnc]; simp [initB, e2])
        clear hck hnc e1 e2
        obtain ⟨k0, k1, k2⟩ := HC6.out.three
        rw [HE6.out] at k0 k1 k2
        rw [← hh] at HF6 ⊢
        have hhl : w.heap.size + 3 ≤ h := by omega
        have hhu : h < W6.heap.size := by omega
        clear hh
        go_wp2_with fail
        rw [← HE6.out]
        clear k0 k1 k2
        refine (btake_any _ _ bc 16 2 _ rfl (by omega) _ HJ6.out (HV.out.mono G6.out) (by omega)).mono ?_
        rintro e w7 ⟨rfl, hj7, hg7⟩
        have HC7 := hid (HC6.out.grown hg7 (fun e => by simp at e))
        have HT7 := hid (HT6.out.grown hg7 (fun e => by simp at e))
        have HF7 := hid (HF6.out.grown hg7 (fun e => by simp at e; omega))
        have HJ7 := hid hj7
        have G7 := hid (show Below w.heap.size w w7 from G6.out.trans (gb_below hg7 (by omega) (by omega)))
        have hsz7 := hg7.size
        generalize numAt bc 16 2 = xj at *
        clear hj7 hg7
        go_wp2_with fail
        refine (btake_any _ _ bc 18 2 _ rfl (by omega) _ HJ7.out (HV.out.mono G7.out) (by omega)).mono ?_
        rw [← HX6.out]
        rintro e w8 ⟨rfl, hj8, hg8⟩
        have HC8 := hid (HC7.out.grown hg8 (fun e => by simp at e))
        have HT8 := hid (HT7.out.grown hg8 (fun e => by simp at e))
        have HF8 := hid (HF7.out.grown hg8 (fun e => by simp at e; omega))
        have HJ8 := hid hj8
        have G8 := hid (show Below w.heap.size w w8 from G7.out.trans (gb_below hg8 (by omega) (by omega)))
        have hsz8 := hg8.size
        clear hj8 hg8
        go_wp2_with fail
        refine (brest_any _ _ bc 20 ((x6 : Int) - 4) (wf_i64 (by omega) (by omega)) _ HJ8.out (HV.out.mono G8.out) (by omega) (by omega)).mono ?_
        rw [← HCK.out]
        rintro e wr ⟨vr, rfl, hor, hjr, hgr⟩
        have HCr := hid (HC8.out.grown hgr (fun e => by simp at e))
        have HTr := hid (HT8.out.grown hgr (fun e => by simp at e))
        have HFr := hid (HF8.out.grown hgr (fun e => by simp at e; omega))
        have hltf := HF8.out.lt
        have Gr := hid (show Below w.heap.size w wr from G8.out.trans (gb_below hgr (by omega) (by omega)))
        have hszr := hgr.size
        obtain ⟨pr, cr, rfl, hlr, hmr, -, -⟩ := hor.rd
        unfold maxLen at hmr
        have HOr := hid hor
        rw [HCL.out] at HOr hlr ⊢
        clear hor hjr hgr
        have t5 := HFr.out.at 5 (by simp)
        have u5 := HFr.out.frozen 5
        simp only [List.getElem_cons_succ, List.getElem_cons_zero] at t5
        obtain ⟨w9, hw9⟩ : ∃ x, x = wr.setCell ⟨h, 5, none⟩ (.slice pr nck cr) := ⟨_, rfl⟩
        have HF9 := hid (show RowV w9 h 70 [.int .u32 (x0 : Int), .int .u32 (x1 : Int), .int .u16 (x2 : Int), .int .u16 (x3 : Int), .int .u32 (x4 : Int), .slice pr nck cr] by rw [hw9]; exact HFr.out.store 5 _)
        have g9 : wr.grownBy w9 (some h) := by rw [hw9]; exact gb_set (gb_refl _ _) 5 _
        have HC9 := hid (HCr.out.grown g9 (fun e => by simp at e; omega))
        have HT9 := hid (HTr.out.grown g9 (fun e => by simp at e; omega))
        have HI9 := hid (HOr.out.keep g9 (fun k hk e => by have := HOr.out.ge k hk; simp at e; omega))
        have G9 := hid (show Below w.heap.size w w9 from Gr.out.trans (gb_below g9 (by omega) Gr.out.size))
        have HE9 := hid hw9
        clear g9 hw9
        cases mb
        · have HMAY := hid (show initMay ⟨kc, fc, bc⟩ = false by rw [HMAY0.out]; rfl)
          obtain ⟨k0, k1, k2⟩ := HC9.out.three
          obtain ⟨i0, i1, i2, i3, i4, i5, -⟩ := rowInit HF9.out
          rw [HE9.out] at k0 k1 k2 i0 i1 i2 i3 i4 i5
          go_wp2_with fail
          clear k0 k1 k2 i0 i1 i2 i3 i4 i5
          rw [← HE9.out]
          refine (bgetInit_any x0 x1 x2 x3 x4 pr nck cr w.heap.size kc fc _ bc false _ (HV.out.mono G9.out) (InitD.chk kc ⟨x0, x1, x2, x3, x4, ck⟩) (fun wx hbx => getInit1_any kc fc _ _ ⟨x0, x1, x2, x3, x4, ck⟩ ⟨hn0, hn1, hn2, hn3, hn4⟩ w.heap.size wx ⟨_, rfl, HI9.out.rd.mono hbx⟩ (by show List.length (ck : List UInt8) ≤ _; rw [HCL.out]; omega) (HC9.out.mono hbx))).mono ?_
          rintro e wA ⟨rfl, hbA⟩
          have HTA := hid (HT9.out.mono hbA)
          have HIA := hid (HI9.out.mono hbA)
          have GA := hid (gr_trans G9.out hbA)
          clear hbA
          obtain ⟨jj0, jj1, jj2, jj3, jj4, jj5, -⟩ := rowInit HTA.out
          have y0 := HTA.out.frozen 0
          have y1 := HTA.out.frozen 1
          have y2 := HTA.out.frozen 2
          have y3 := HTA.out.frozen 3
          have y4 := HTA.out.frozen 4
          have y5 := HTA.out.frozen 5
          by_cases hq : false = true ∧ InitD.chk kc ⟨x0, x1, x2, x3, x4, ck⟩ = ⟨kc, fc, bc⟩
          · have HRS := hid (show res = (⟨x0, x1, x2, x3, x4, ck⟩, 0) by rw [HRES.out, initGet, HDO.out, HMAY.out]; exact if_pos hq)
            rw [if_pos hq]
            clear hq
            go_wp2_with fail
            refine getInit_ret (.int .u32 (x0 : Int)) (.int .u32 (x1 : Int)) (.int .u16 (x2 : Int)) (.int .u16 (x3 : Int)) (.int .u32 (x4 : Int)) (.slice pr nck cr) 0 rfl rfl rfl ((((((HTA.out.store 0 (.int .u32 (x0 : Int))).store 1 (.int .u32 (x1 : Int))).store 2 (.int .u16 (x2 : Int))).store 3 (.int .u16 (x3 : Int))).store 4 (.int .u32 (x4 : Int))).store 5 (.slice pr nck cr)) ⟨.slice pr nck cr, by rw [HRS.out]; rfl, ?_, ((((((GA.out.setCell (by simp; try omega) _).setCell (by simp; try omega) _).setCell (by simp; try omega) _).setCell (by simp; try omega) _).setCell (by simp; try omega) _).setCell (by simp; try omega) _)⟩
            rw [HRS.out]
            exact (HIA.out.keep (r := some (w.heap.size + 1)) (gb_set (gb_set (gb_set (gb_set (gb_set (gb_set (gb_refl _ _) 0 _) 1 _) 2 _) 3 _) 4 _) 5 _) (fun k hk e => by have := HIA.out.ge k hk; simp at e; omega)).base (show w.heap.size ≤ w8.heap.size by omega)
          · have HRS := hid (show res = (.zero, 7) by rw [HRES.out, initGet, HDO.out, HMAY.out]; exact if_neg hq)
            rw [if_neg hq]
            clear hq
            go_wp2_with fail
            refine getInit_ret (.int .u32 0) (.int .u32 0) (.int .u16 0) (.int .u16 0) (.int .u32 0) (.slice none 0 0) 7 rfl rfl rfl ((((((HTA.out.store 0 (.int .u32 0)).store 1 (.int .u32 0)).store 2 (.int .u16 0)).store 3 (.int .u16 0)).store 4 (.int .u32 0)).store 5 (.slice none 0 0)) ⟨.slice none 0 0, by rw [HRS.out]; rfl, ?_, ((((((GA.out.setCell (by simp; try omega) _).setCell (by simp; try omega) _).setCell (by simp; try omega) _).setCell (by simp; try omega) _).setCell (by simp; try omega) _).setCell (by simp; try omega) _)⟩
            rw [HRS.out]
            exact Own.nil _ _ _
        · have HMAY := hid (show initMay ⟨kc, fc, bc⟩ = decide (0 < nck) by rw [HMAY0.out]; rfl)
          obtain ⟨k0, k1, k2⟩ := HC9.out.three
          obtain ⟨i0, i1, i2, i3, i4, i5, -⟩ := rowInit HF9.out
          rw [HE9.out] at k0 k1 k2 i0 i1 i2 i3 i4 i5
          go_wp2_with fail
          clear k0 k1 k2 i0 i1 i2 i3 i4 i5
          rw [← HE9.out]
          refine (bgetInit_any x0 x1 x2 x3 x4 pr nck cr w.heap.size kc fc _ bc (decide (0 < nck)) _ (HV.out.mono G9.out) (InitD.chk kc ⟨x0, x1, x2, x3, x4, ck⟩) (fun wx hbx => getInit1_any kc fc _ _ ⟨x0, x1, x2, x3, x4, ck⟩ ⟨hn0, hn1, hn2, hn3, hn4⟩ w.heap.size wx ⟨_, rfl, HI9.out.rd.mono hbx⟩ (by show List.length (ck : List UInt8) ≤ _; rw [HCL.out]; omega) (HC9.out.mono hbx))).mono ?_
          rintro e wA ⟨rfl, hbA⟩
          have HTA := hid (HT9.out.mono hbA)
          have HIA := hid (HI9.out.mono hbA)
          have GA := hid (gr_trans G9.out hbA)
          clear hbA
          obtain ⟨jj0, jj1, jj2, jj3, jj4, jj5, -⟩ := rowInit HTA.out
          have y0 := HTA.out.frozen 0
          have y1 := HTA.out.frozen 1
          have y2 := HTA.out.frozen 2
          have y3 := HTA.out.frozen 3
          have y4 := HTA.out.frozen 4
          have y5 := HTA.out.frozen 5
          by_cases hq : (decide (0 < nck)) = true ∧ InitD.chk kc ⟨x0, x1, x2, x3, x4, ck⟩ = ⟨kc, fc, bc⟩
          · have HRS := hid (show res = (⟨x0, x1, x2, x3, x4, ck⟩, 0) by rw [HRES.out, initGet, HDO.out, HMAY.out]; exact if_pos hq)
            rw [if_pos hq]
            clear hq
            go_wp2_with fail
            refine getInit_ret (.int .u32 (x0 : Int)) (.int .u32 (x1 : Int)) (.int .u16 (x2 : Int)) (.int .u16 (x3 : Int)) (.int .u32 (x4 : Int)) (.slice pr nck cr) 0 rfl rfl rfl ((((((HTA.out.store 0 (.int .u32 (x0 : Int))).store 1 (.int .u32 (x1 : Int))).store 2 (.int .u16 (x2 : Int))).store 3 (.int .u16 (x3 : Int))).store 4 (.int .u32 (x4 : Int))).store 5 (.slice pr nck cr)) ⟨.slice pr nck cr, by rw [HRS.out]; rfl, ?_, ((((((GA.out.setCell (by simp; try omega) _).setCell (by simp; try omega) _).setCell (by simp; try omega) _).setCell (by simp; try omega) _).setCell (by simp; try omega) _).setCell (by simp; try omega) _)⟩
            rw [HRS.out]
            exact (HIA.out.keep (r := some (w.heap.size + 1)) (gb_set (gb_set (gb_set (gb_set (gb_set (gb_set (gb_refl _ _) 0 _) 1 _) 2 _) 3 _) 4 _) 5 _) (fun k hk e => by have := HIA.out.ge k hk; simp at e; omega)).base (show w.heap.size ≤ w8.heap.size by omega)
          · have HRS := hid (show res = (.zero, 7) by rw [HRES.out, initGet, HDO.out, HMAY.out]; exact if_neg hq)
            rw [if_neg hq]
            clear hq
            go_wp2_with fail
            refine getInit_ret (.int .u32 0) (.int .u32 0) (.int .u16 0) (.int .u16 0) (.int .u32 0) (.slice none 0 0) 7 rfl rfl rfl ((((((HTA.out.store 0 (.int .u32 0)).store 1 (.int .u32 0)).store 2 (.int .u16 0)).store 3 (.int .u16 0)).store 4 (.int .u32 0)).store 5 (.slice none 0 0)) ⟨.slice none 0 0, by rw [HRS.out]; rfl, ?_, ((((((GA.out.setCell (by simp; try omega) _).setCell (by simp; try omega) _).setCell (by simp; try omega) _).setCell (by simp; try omega) _).setCell (by simp; try omega) _).setCell (by simp; try omega) _)⟩
            rw [HRS.out]
            exact Own.nil _ _ _
      · rw [decide_eq_false e2] at hk2
        have HDO := hid (show initOf ⟨kc, fc, bc⟩ = ⟨x0, x1, x2, x3, x4, []⟩ by rw [HDO0.out, if_neg e2])
        have HMAY := hid (show initMay ⟨kc, fc, bc⟩ = false by unfold initMay; simp [e1, e2])
        have HC9 := hid HC6.out
        have HT9 := hid HT6.out
        have HF9 := hid HF6.out
        have G9 := hid G6.out
        clear e1 e2
        obtain ⟨k0, k1, k2⟩ := HC9.out.three
        obtain ⟨i0, i1, i2, i3, i4, i5, -⟩ := rowInit HF9.out
        rw [HE6.out] at k0 k1 k2 i0 i1 i2 i3 i4 i5
        go_wp2_with fail
        clear k0 k1 k2 i0 i1 i2 i3 i4 i5
        rw [← HE6.out]
        refine (bgetInit_any x0 x1 x2 x3 x4 none 0 0 w.heap.size kc fc _ bc false _ (HV.out.mono G9.out) (InitD.chk kc ⟨x0, x1, x2, x3, x4, []⟩) (fun wx hbx => getInit1_any kc fc _ _ ⟨x0, x1, x2, x3, x4, []⟩ ⟨hn0, hn1, hn2, hn3, hn4⟩ w.heap.size wx ⟨_, rfl, Rd.nil _⟩ (by show List.length ([] : List UInt8) ≤ _; simp) (HC9.out.mono hbx))).mono ?_
        rintro e wA ⟨rfl, hbA⟩
        have HTA := hid (HT9.out.mono hbA)
        have GA := hid (gr_trans G9.out hbA)
        clear hbA
        obtain ⟨jj0, jj1, jj2, jj3, jj4, jj5, -⟩ := rowInit HTA.out
        have y0 := HTA.out.frozen 0
        have y1 := HTA.out.frozen 1
        have y2 := HTA.out.frozen 2
        have y3 := HTA.out.frozen 3
        have y4 := HTA.out.frozen 4
        have y5 := HTA.out.frozen 5
        by_cases hq : false = true ∧ InitD.chk kc ⟨x0, x1, x2, x3, x4, []⟩ = ⟨kc, fc, bc⟩
        · have HRS := hid (show res = (⟨x0, x1, x2, x3, x4, []⟩, 0) by rw [HRES.out, initGet, HDO.out, HMAY.out]; exact if_pos hq)
          rw [if_pos hq]
          clear hq
          go_wp2_with fail
          refine getInit_ret (.int .u32 (x0 : Int)) (.int .u32 (x1 : Int)) (.int .u16 (x2 : Int)) (.int .u16 (x3 : Int)) (.int .u32 (x4 : Int)) (.slice none 0 0) 0 rfl rfl rfl ((((((HTA.out.store 0 (.int .u32 (x0 : Int))).store 1 (.int .u32 (x1 : Int))).store 2 (.int .u16 (x2 : Int))).store 3 (.int .u16 (x3 : Int))).store 4 (.int .u32 (x4 : Int))).store 5 (.slice none 0 0)) ⟨.slice none 0 0, by rw [HRS.out]; rfl, ?_, ((((((GA.out.setCell (by simp; try omega) _).setCell (by simp; try omega) _).setCell (by simp; try omega) _).setCell (by simp; try omega) _).setCell (by simp; try omega) _).setCell (by simp; try omega) _)⟩
          rw [HRS.out]
          exact Own.nil _ _ _
        · have HRS := hid (show res = (.zero, 7) by rw [HRES.out, initGet, HDO.out, HMAY.out]; exact if_neg hq)
          rw [if_neg hq]
          clear hq
          go_wp2_with fail
          refine getInit_ret (.int .u32 0) (.int .u32 0) (.int .u16 0) (.int .u16 0) (.int .u32 0) (.slice none 0 0) 7 rfl rfl rfl ((((((HTA.out.store 0 (.int .u32 0)).store 1 (.int .u32 0)).store 2 (.int .u16 0)).store 3 (.int .u16 0)).store 4 (.int .u32 0)).store 5 (.slice none 0 0)) ⟨.slice none 0 0, by rw [HRS.out]; rfl, ?_, ((((((GA.out.setCell (by simp; try omega) _).setCell (by simp; try omega) _).setCell (by simp; try omega) _).setCell (by simp; try omega) _).setCell (by simp; try omega) _).setCell (by simp; try omega) _)⟩
          rw [HRS.out]
          exact Own.nil _ _ _
end Go.Proofs.Ytfiblhdejglpaaa

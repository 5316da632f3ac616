/- The document's Same functions, where both are the same. Conditions: what comes in reads as it should. -/
import Derived.Test.YtfiblhdejglpaaaBodGetS
import Derived.Test.YtfiblhdejglpaaaBodGetI
import Derived.Test.YtfiblhdejglpaaaBaseE
import Derived.BigQuiet
namespace Go.Proofs.Ytfiblhdejglpaaa
open Go.RowKit Go.FL Go.ChangeShapes

set_option maxRecDepth 100000 in
set_option maxHeartbeats 2000000 in
theorem sameSack_yes (v u : Value) (d : SackD) (w : World) (h : SackAt w v d) (k : SackAt w u d) (hl : d.gaps.length ≤ 1000000) (hl2 : d.dups.length ≤ 1000000) :
    Calls Try.prog 28 #[v, u] w fun e w' => e = .returned (.bool true) ∧ Below w.heap.size w w' := by
  obtain ⟨sg, sd, rfl, hg, hd⟩ := h
  obtain ⟨sg2, sd2, rfl, hg2, hd2⟩ := k
  obtain ⟨cum, rwnd, l, m⟩ := d
  simp only at *
  have HV := hid hg
  have HV2 := hid hg2
  obtain ⟨p, c, rfl, hlc, hcm, -, -⟩ := hg
  obtain ⟨p2, c2, rfl, hlc2, hcm2, -, -⟩ := hg2
  have HU := hid hd
  have HU2 := hid hd2
  obtain ⟨q, cq, rfl, hlq, hcq, -⟩ := hd.nums
  obtain ⟨q2, cq2, rfl, hlq2, hcq2, -⟩ := hd2.nums
  unfold maxLen at *
  obtain ⟨n, hn⟩ : ∃ n, n = l.length := ⟨_, rfl⟩
  obtain ⟨nd, hnd⟩ : ∃ n, n = m.length := ⟨_, rfl⟩
  rw [← hn] at HV HV2 hl hlc hlc2 ⊢
  rw [← hnd] at HU HU2 hl2 hlq hlq2 ⊢
  have HN := hid hn
  have HND := hid hnd
  clear hd hd2 hn hnd
  obtain ⟨W0, hW0⟩ : ∃ W0, W0 = w.alloc (.cells #[.int .u32 (cum : Int), .int .u32 (rwnd : Int), .slice p n c, .slice q nd cq] 45 (0, 0)) := ⟨_, rfl⟩
  have hs0 : W0.heap.size = w.heap.size + 1 := by rw [hW0]; simp
  obtain ⟨W, hW⟩ : ∃ W, W = W0.alloc (.cells #[.int .u32 (cum : Int), .int .u32 (rwnd : Int), .slice p2 n c2, .slice q2 nd cq2] 45 (0, 0)) := ⟨_, rfl⟩
  have HRA := hid (show RowV W w.heap.size 45 [.int .u32 (cum : Int), .int .u32 (rwnd : Int), .slice p n c, .slice q nd cq] by rw [hW, hW0]; exact (RowV.new w 45 _).alloc _)
  have HRB := hid (show RowV W (w.heap.size + 1) 45 [.int .u32 (cum : Int), .int .u32 (rwnd : Int), .slice p2 n c2, .slice q2 nd cq2] by rw [hW, ← hs0]; exact RowV.new W0 45 _)
  have G0 := hid (show Below w.heap.size w W by rw [hW, hW0]; exact ((Below.refl _ _).alloc (Nat.le_refl _) _).alloc (by simp) _)
  rw [hW0] at hW
  have HE := hid hW
  obtain ⟨a0, a1, a2, a3, -⟩ := rowSack HRA.out
  obtain ⟨b0, b1, b2, b3, -⟩ := rowSack HRB.out
  rw [hW] at a0 a1 a2 a3 b0 b1 b2 b3
  clear hW hW0 hs0
  have e1 : ((cum : Int) != (cum : Int)) = false := by simp
  have e2 : ((rwnd : Int) != (rwnd : Int)) = false := by simp
  have e3 : ((n : Int) != (n : Int)) = false := by simp
  have e4 : ((nd : Int) != (nd : Int)) = false := by simp
  go_enter Try.func28, Try.ntmps28
  go_wp2_with fail
  rw [← HE.out]
  clear a0 a1 b0 b1 e1 e2 e3 e4
  go_loopw [5] (fun y wr => ∃ (j : Nat), j ≤ n ∧ y = .int .i64 (j : Int) ∧ Hid (Below W.heap.size W wr)) (fun y _ => n - (intOf y).toNat)
  case atStart => exact ⟨0, Nat.zero_le _, rfl, hid (Below.refl _ _)⟩
  case round =>
    obtain ⟨j, hj, rfl, HB⟩ := hrel
    have HA := hid (HRA.out.mono HB.out)
    have HC := hid (HRB.out.mono HB.out)
    obtain ⟨f0, f1, f2, f3, -⟩ := rowSack HA.out
    obtain ⟨g0, g1, g2, g3, -⟩ := rowSack HC.out
    by_cases hlt : j < n
    · have hlt2 : j < l.length := by rw [← HN.out]; exact hlt
      obtain ⟨pp, cc, hpe, -, -, -, hcel⟩ := HV.out.mono (gr_trans G0.out HB.out)
      simp only [Value.slice.injEq] at hpe
      obtain ⟨rfl, -, rfl⟩ := hpe
      obtain ⟨bb, off, rfl, d0, d1⟩ := hcel j hlt2
      obtain ⟨pp, cc, hpe, -, -, -, hcel2⟩ := HV2.out.mono (gr_trans G0.out HB.out)
      simp only [Value.slice.injEq] at hpe
      obtain ⟨rfl, -, rfl⟩ := hpe
      obtain ⟨bb2, off2, rfl, d2, d3⟩ := hcel2 j hlt2
      generalize l[j] = gj at *
      obtain ⟨ga, gb⟩ := gj
      simp only at d0 d1 d2 d3
      have i0 : (0 : Int) ≤ (j : Int) := by omega
      have i1 : (j : Int) < (n : Int) := by omega
      have i2 : ((j : Int)).toNat = j := by omega
      clear hcel hcel2 hlt2
      go_wp2_with fail
      go_quiet (fail)
      go_wp2_with fail
      go_roundw
      case rel => exact ⟨j + 1, by omega, by go_num, hid (gr_trans HB.out (gr_drewN _ _))⟩
      case measure => simp [intOf]; omega
    · obtain rfl : j = n := by omega
      obtain ⟨wo, hwo⟩ : ∃ x, x = wr := ⟨_, rfl⟩
      subst hwo
      go_wp2_with fail
      clear f0 f1 f2 f3 g0 g1 g2 g3
      go_loopw [6] (fun y wr => ∃ (i : Nat), i ≤ nd ∧ y = .int .i64 (i : Int) ∧ Hid (Below wo.heap.size wo wr)) (fun y _ => nd - (intOf y).toNat)
      case atStart => exact ⟨0, Nat.zero_le _, rfl, hid (Below.refl _ _)⟩
      case round =>
        obtain ⟨i, hi, rfl, HB2⟩ := hrel
        have HA2 := hid (HA.out.mono HB2.out)
        have HC2 := hid (HC.out.mono HB2.out)
        obtain ⟨f0, f1, f2, f3, -⟩ := rowSack HA2.out
        obtain ⟨g0, g1, g2, g3, -⟩ := rowSack HC2.out
        by_cases hlt2 : i < nd
        · have hlt3 : i < m.length := by rw [← HND.out]; exact hlt2
          obtain ⟨pp, cc, hpe, -, -, hcel⟩ := (HU.out.mono (gr_trans (gr_trans G0.out HB.out) HB2.out)).nums
          rw [← HND.out] at hpe
          simp only [Value.slice.injEq] at hpe
          obtain ⟨rfl, -, rfl⟩ := hpe
          obtain ⟨bb, off, rfl, d0⟩ := hcel i hlt3
          obtain ⟨pp, cc, hpe, -, -, hcel2⟩ := (HU2.out.mono (gr_trans (gr_trans G0.out HB.out) HB2.out)).nums
          rw [← HND.out] at hpe
          simp only [Value.slice.injEq] at hpe
          obtain ⟨rfl, -, rfl⟩ := hpe
          obtain ⟨bb2, off2, rfl, d2⟩ := hcel2 i hlt3
          generalize m[i] = mi at *
          have i0 : (0 : Int) ≤ (i : Int) := by omega
          have i1 : (i : Int) < (nd : Int) := by omega
          have i2 : ((i : Int)).toNat = i := by omega
          have e1 : ((mi : Int) != (mi : Int)) = false := by simp
          clear hcel hcel2 hlt3
          go_wp2_with fail
          go_quiet (fail)
          go_wp2_with fail
          go_roundw
          case rel => exact ⟨i + 1, by omega, by go_num, hid (gr_trans HB2.out (gr_drewN _ _))⟩
          case measure => simp [intOf]; omega
        · obtain rfl : i = nd := by omega
          have GF := hid (gr_trans (gr_trans G0.out HB.out) HB2.out)
          go_wp2_with fail
          go_ret
          exact ⟨rfl, GF.out⟩

set_option maxRecDepth 100000 in
set_option maxHeartbeats 2000000 in
theorem sameData_yes (v u : Value) (d : DataD) (w : World) (h : DataAt w v d) (k : DataAt w u d) :
    Calls Try.prog 21 #[v, u] w fun e w' => e = .returned (.bool true) ∧ Below w.heap.size w w' := by
  obtain ⟨s, rfl, hg⟩ := h
  obtain ⟨s2, rfl, hg2⟩ := k
  obtain ⟨tsn, st, ssn, un, fi, la, b⟩ := d
  simp only at *
  have HV := hid hg
  have HV2 := hid hg2
  obtain ⟨p, n, c, rfl⟩ := hg.form
  obtain ⟨p2, n2, c2, rfl⟩ := hg2.form
  obtain rfl : n = b.length := by obtain ⟨x, y, e, -⟩ := hg; simp at e; exact e.2.1
  obtain rfl : n2 = b.length := by obtain ⟨x, y, e, -⟩ := hg2; simp at e; exact e.2.1
  clear hg hg2
  obtain ⟨W0, hW0⟩ : ∃ W0, W0 = w.alloc (.cells #[.int .u32 (tsn : Int), .int .u16 (st : Int), .int .u16 (ssn : Int), .bool un, .bool fi, .bool la, .slice p b.length c] 26 (0, 0)) := ⟨_, rfl⟩
  have hs0 : W0.heap.size = w.heap.size + 1 := by rw [hW0]; simp
  obtain ⟨W, hW⟩ : ∃ W, W = W0.alloc (.cells #[.int .u32 (tsn : Int), .int .u16 (st : Int), .int .u16 (ssn : Int), .bool un, .bool fi, .bool la, .slice p2 b.length c2] 26 (0, 0)) := ⟨_, rfl⟩
  have HRA := hid (show RowV W w.heap.size 26 [.int .u32 (tsn : Int), .int .u16 (st : Int), .int .u16 (ssn : Int), .bool un, .bool fi, .bool la, .slice p b.length c] by rw [hW, hW0]; exact (RowV.new w 26 _).alloc _)
  have HRB := hid (show RowV W (w.heap.size + 1) 26 [.int .u32 (tsn : Int), .int .u16 (st : Int), .int .u16 (ssn : Int), .bool un, .bool fi, .bool la, .slice p2 b.length c2] by rw [hW, ← hs0]; exact RowV.new W0 26 _)
  have G0 := hid (show Below w.heap.size w W by rw [hW, hW0]; exact ((Below.refl _ _).alloc (Nat.le_refl _) _).alloc (by simp) _)
  rw [hW0] at hW
  have HE := hid hW
  obtain ⟨a0, a1, a2, a3, a4, a5, a6, -⟩ := rowData HRA.out
  obtain ⟨b0, b1, b2, b3, b4, b5, b6, -⟩ := rowData HRB.out
  rw [hW] at a0 a1 a2 a3 a4 a5 a6 b0 b1 b2 b3 b4 b5 b6
  clear hW hW0 hs0
  have e1 : ((tsn : Int) == (tsn : Int)) = true := by simp
  have e2 : ((st : Int) == (st : Int)) = true := by simp
  have e3 : ((ssn : Int) == (ssn : Int)) = true := by simp
  go_enter Try.func21, Try.ntmps21
  go_wp2_with fail
  rw [← HE.out]
  refine (eqBytes_yes _ _ b _ (HV.out.mono G0.out) (HV2.out.mono G0.out)).mono ?_
  rintro e w1 ⟨rfl, hb1⟩
  have G1 := hid (gr_trans G0.out hb1)
  go_wp2_with fail
  go_ret
  exact ⟨rfl, G1.out⟩

set_option maxRecDepth 100000 in
set_option maxHeartbeats 2000000 in
theorem sameInit_yes (v u : Value) (d : InitD) (w : World) (h : InitAt w v d) (k : InitAt w u d) :
    Calls Try.prog 46 #[v, u] w fun e w' => e = .returned (.bool true) ∧ Below w.heap.size w w' := by
  obtain ⟨s, rfl, hg⟩ := h
  obtain ⟨s2, rfl, hg2⟩ := k
  obtain ⟨tag, rwnd, out, in_, tsn, b⟩ := d
  simp only at *
  have HV := hid hg
  have HV2 := hid hg2
  obtain ⟨p, n, c, rfl⟩ := hg.form
  obtain ⟨p2, n2, c2, rfl⟩ := hg2.form
  obtain rfl : n = b.length := by obtain ⟨x, y, e, -⟩ := hg; simp at e; exact e.2.1
  obtain rfl : n2 = b.length := by obtain ⟨x, y, e, -⟩ := hg2; simp at e; exact e.2.1
  clear hg hg2
  obtain ⟨W0, hW0⟩ : ∃ W0, W0 = w.alloc (.cells #[.int .u32 (tag : Int), .int .u32 (rwnd : Int), .int .u16 (out : Int), .int .u16 (in_ : Int), .int .u32 (tsn : Int), .slice p b.length c] 70 (0, 0)) := ⟨_, rfl⟩
  have hs0 : W0.heap.size = w.heap.size + 1 := by rw [hW0]; simp
  obtain ⟨W, hW⟩ : ∃ W, W = W0.alloc (.cells #[.int .u32 (tag : Int), .int .u32 (rwnd : Int), .int .u16 (out : Int), .int .u16 (in_ : Int), .int .u32 (tsn : Int), .slice p2 b.length c2] 70 (0, 0)) := ⟨_, rfl⟩
  have HRA := hid (show RowV W w.heap.size 70 [.int .u32 (tag : Int), .int .u32 (rwnd : Int), .int .u16 (out : Int), .int .u16 (in_ : Int), .int .u32 (tsn : Int), .slice p b.length c] by rw [hW, hW0]; exact (RowV.new w 70 _).alloc _)
  have HRB := hid (show RowV W (w.heap.size + 1) 70 [.int .u32 (tag : Int), .int .u32 (rwnd : Int), .int .u16 (out : Int), .int .u16 (in_ : Int), .int .u32 (tsn : Int), .slice p2 b.length c2] by rw [hW, ← hs0]; exact RowV.new W0 70 _)
  have G0 := hid (show Below w.heap.size w W by rw [hW, hW0]; exact ((Below.refl _ _).alloc (Nat.le_refl _) _).alloc (by simp) _)
  rw [hW0] at hW
  have HE := hid hW
  obtain ⟨a0, a1, a2, a3, a4, a5, -⟩ := rowInit HRA.out
  obtain ⟨b0, b1, b2, b3, b4, b5, -⟩ := rowInit HRB.out
  rw [hW] at a0 a1 a2 a3 a4 a5 b0 b1 b2 b3 b4 b5
  clear hW hW0 hs0
  have e1 : ((tag : Int) == (tag : Int)) = true := by simp
  have e2 : ((rwnd : Int) == (rwnd : Int)) = true := by simp
  have e3 : ((out : Int) == (out : Int)) = true := by simp
  have e4 : ((in_ : Int) == (in_ : Int)) = true := by simp
  have e5 : ((tsn : Int) == (tsn : Int)) = true := by simp
  go_enter Try.func46, Try.ntmps46
  go_wp2_with fail
  rw [← HE.out]
  refine (eqBytes_yes _ _ b _ (HV.out.mono G0.out) (HV2.out.mono G0.out)).mono ?_
  rintro e w1 ⟨rfl, hb1⟩
  have G1 := hid (gr_trans G0.out hb1)
  go_wp2_with fail
  go_ret
  exact ⟨rfl, G1.out⟩

set_option maxRecDepth 100000 in
set_option maxHeartbeats 2000000 in
theorem sameFwd_yes (v u : Value) (d : FwdD) (w : World) (h : FwdAt w v d) (k : FwdAt w u d) (hl : d.skips.length ≤ 1000000) :
    Calls Try.prog 33 #[v, u] w fun e w' => e = .returned (.bool true) ∧ Below w.heap.size w w' := by
  obtain ⟨sg, rfl, hg⟩ := h
  obtain ⟨sg2, rfl, hg2⟩ := k
  obtain ⟨cum, l⟩ := d
  simp only at *
  have HV := hid hg
  have HV2 := hid hg2
  obtain ⟨p, c, rfl, hlc, hcm, -, -⟩ := hg
  obtain ⟨p2, c2, rfl, hlc2, hcm2, -, -⟩ := hg2
  unfold maxLen at *
  obtain ⟨n, hn⟩ : ∃ n, n = l.length := ⟨_, rfl⟩
  rw [← hn] at HV HV2 hl hlc hlc2 ⊢
  have HN := hid hn
  clear hn
  obtain ⟨W0, hW0⟩ : ∃ W0, W0 = w.alloc (.cells #[.int .u32 (cum : Int), .slice p n c] 49 (0, 0)) := ⟨_, rfl⟩
  have hs0 : W0.heap.size = w.heap.size + 1 := by rw [hW0]; simp
  obtain ⟨W, hW⟩ : ∃ W, W = W0.alloc (.cells #[.int .u32 (cum : Int), .slice p2 n c2] 49 (0, 0)) := ⟨_, rfl⟩
  have HRA := hid (show RowV W w.heap.size 49 [.int .u32 (cum : Int), .slice p n c] by rw [hW, hW0]; exact (RowV.new w 49 _).alloc _)
  have HRB := hid (show RowV W (w.heap.size + 1) 49 [.int .u32 (cum : Int), .slice p2 n c2] by rw [hW, ← hs0]; exact RowV.new W0 49 _)
  have G0 := hid (show Below w.heap.size w W by rw [hW, hW0]; exact ((Below.refl _ _).alloc (Nat.le_refl _) _).alloc (by simp) _)
  rw [hW0] at hW
  have HE := hid hW
  obtain ⟨a0, a1, -⟩ := rowFwd HRA.out
  obtain ⟨b0, b1, -⟩ := rowFwd HRB.out
  rw [hW] at a0 a1 b0 b1
  clear hW hW0 hs0
  have e1 : ((cum : Int) != (cum : Int)) = false := by simp
  have e3 : ((n : Int) != (n : Int)) = false := by simp
  go_enter Try.func33, Try.ntmps33
  go_wp2_with fail
  rw [← HE.out]
  clear a0 b0 e1 e3
  go_loopw [5] (fun y wr => ∃ (j : Nat), j ≤ n ∧ y = .int .i64 (j : Int) ∧ Hid (Below W.heap.size W wr)) (fun y _ => n - (intOf y).toNat)
  case atStart => exact ⟨0, Nat.zero_le _, rfl, hid (Below.refl _ _)⟩
  case round =>
    obtain ⟨j, hj, rfl, HB⟩ := hrel
    have HA := hid (HRA.out.mono HB.out)
    have HC := hid (HRB.out.mono HB.out)
    obtain ⟨f0, f1, -⟩ := rowFwd HA.out
    obtain ⟨g0, g1, -⟩ := rowFwd HC.out
    by_cases hlt : j < n
    · have hlt2 : j < l.length := by rw [← HN.out]; exact hlt
      obtain ⟨pp, cc, hpe, -, -, -, hcel⟩ := HV.out.mono (gr_trans G0.out HB.out)
      simp only [Value.slice.injEq] at hpe
      obtain ⟨rfl, -, rfl⟩ := hpe
      obtain ⟨bb, off, rfl, d0, d1⟩ := hcel j hlt2
      obtain ⟨pp, cc, hpe, -, -, -, hcel2⟩ := HV2.out.mono (gr_trans G0.out HB.out)
      simp only [Value.slice.injEq] at hpe
      obtain ⟨rfl, -, rfl⟩ := hpe
      obtain ⟨bb2, off2, rfl, d2, d3⟩ := hcel2 j hlt2
      generalize l[j] = gj at *
      obtain ⟨ga, gb⟩ := gj
      simp only at d0 d1 d2 d3
      have i0 : (0 : Int) ≤ (j : Int) := by omega
      have i1 : (j : Int) < (n : Int) := by omega
      have i2 : ((j : Int)).toNat = j := by omega
      clear hcel hcel2 hlt2
      go_wp2_with fail
      go_quiet (fail)
      go_wp2_with fail
      go_roundw
      case rel => exact ⟨j + 1, by omega, by go_num, hid (gr_trans HB.out (gr_drewN _ _))⟩
      case measure => simp [intOf]; omega
    · obtain rfl : j = n := by omega
      have GF := hid (gr_trans G0.out HB.out)
      go_wp2_with fail
      go_ret
      exact ⟨rfl, GF.out⟩
end Go.Proofs.Ytfiblhdejglpaaa

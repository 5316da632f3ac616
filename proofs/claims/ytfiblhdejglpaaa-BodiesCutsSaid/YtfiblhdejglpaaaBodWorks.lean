/- bodies' anchor is true; large, many. Conditions: none. -/
import Derived.Test.YtfiblhdejglpaaaBodSame
namespace Go.FL
open Go.RowKit
def sk0 : SackD := ⟨5, 6, [(2, 3)], [7]⟩
theorem sk0_wf : sk0.wf := ⟨by decide, by decide, by intro g hg; simp [sk0] at hg; subst hg; decide, by intro g hg; simp [sk0] at hg; subst hg; decide⟩
theorem sk0_get : sackGet sk0.chk = (sk0, 0) := by kernel_rfl
theorem sk0_data : dataGet sk0.chk = (.zero, 7) := by kernel_rfl
theorem sk0_len : sk0.body.length = 20 := by decide +kernel
/-- A sack's value with its slices written out. -/
theorem SackAt.form {w : World} {v : Value} {d : SackD} (h : SackAt w v d) : ∃ p c q cq, v = .agg #[.int .u32 (d.cum : Int), .int .u32 (d.rwnd : Int), .slice p d.gaps.length c, .slice q d.dups.length cq] ∧ d.gaps.length ≤ c ∧ c ≤ maxLen ∧ d.dups.length ≤ cq ∧ cq ≤ maxLen := by
  obtain ⟨sg, sd, rfl, hg, hd⟩ := h
  obtain ⟨p, c, rfl, h1, h2, -, -⟩ := hg
  obtain ⟨q, cq, rfl, h3, h4, -⟩ := hd.nums
  exact ⟨p, c, q, cq, rfl, h1, h2, h3, h4⟩
end Go.FL
namespace Go.Proofs.Ytfiblhdejglpaaa
open Go.RowKit Go.FL

set_option maxRecDepth 20000 in
set_option maxHeartbeats 1000000 in
theorem works_any (w : World) : Calls Try.prog 13 #[] w (Gives w (.bool true)) := by
  obtain ⟨W0, hW0⟩ : ∃ W0, W0 = w.alloc (.cells #[.int .u16 2, .int .u16 3] 80 (0, 0)) := ⟨_, rfl⟩
  have hs0 : W0.heap.size = w.heap.size + 1 := by rw [hW0]; simp
  obtain ⟨W1, hW1⟩ : ∃ W1, W1 = W0.alloc (.cells #[.int .u32 7] 22 (0, 0)) := ⟨_, rfl⟩
  have hs1 : W1.heap.size = w.heap.size + 2 := by rw [hW1]; simp [hs0]
  obtain ⟨W2, hW2⟩ : ∃ W2, W2 = W1.alloc (.cells #[.int .u32 5, .int .u32 6, .slice (some ⟨w.heap.size, 0, none⟩) 1 1, .slice (some ⟨w.heap.size + 1, 0, none⟩) 1 1] 45 (0, 0)) := ⟨_, rfl⟩
  have g12 : Below W1.heap.size W1 W2 := by rw [hW2]; exact (Below.refl _ _).alloc (Nat.le_refl _) _
  have hP := show RdP W1 (.slice (some ⟨w.heap.size, 0, none⟩) 1 1) [(2, 3)] from RdK.pairs (l := [(2, 3)]) (by rw [hW1, hW0]; exact (RowV.rdK ((RowV.new w 80 [.int .u16 2, .int .u16 3]).alloc _) rfl (by unfold maxLen; omega)))
  have hN := show RdV W1 (.slice (some ⟨w.heap.size + 1, 0, none⟩) 1 1) [.int .u32 7] by rw [hW1, ← hs0]; exact rdV_new W0 22 [.int .u32 7] 1 _ rfl rfl (by unfold maxLen; omega)
  have HS2 := hid (show SackAt W2 (.agg #[.int .u32 5, .int .u32 6, .slice (some ⟨w.heap.size, 0, none⟩) 1 1, .slice (some ⟨w.heap.size + 1, 0, none⟩) 1 1]) sk0 from ⟨_, _, rfl, hP.mono g12, hN.mono g12⟩)
  have HR2 := hid (show RowV W2 (w.heap.size + 2) 45 [.int .u32 5, .int .u32 6, .slice (some ⟨w.heap.size, 0, none⟩) 1 1, .slice (some ⟨w.heap.size + 1, 0, none⟩) 1 1] by rw [hW2, ← hs1]; exact RowV.new W1 45 _)
  have G2 := hid (show Below w.heap.size w W2 by rw [hW2, hW1, hW0]; exact (((Below.refl _ _).alloc (Nat.le_refl _) _).alloc (by simp) _).alloc (by simp; omega) _)
  rw [hW1, hW0] at hW2
  have HE2 := hid hW2
  clear hP hN g12 hW1 hW0 hs0 hs1 hW2
  go_enter Try.func13, Try.ntmps13
  go_wp2_with fail
  rw [← HE2.out]
  refine (putSack_any _ sk0 sk0_wf _ HS2.out (by decide) (by decide)).mono ?_
  rintro e w3 ⟨s3, rfl, ho3, hb3⟩
  rw [show (sk0.chk.k.toNat : Int) = 3 from rfl, show (sk0.chk.f.toNat : Int) = 0 from rfl]
  obtain ⟨p3, c3, rfl, hl3, hm3, -, -⟩ := ho3.rd
  rw [show sk0.chk.b.length = 20 from sk0_len] at ho3 hl3 ⊢
  unfold maxLen at hm3
  have HO3 := hid ho3
  have HS3 := hid (HS2.out.mono hb3)
  have HR3 := hid (HR2.out.mono hb3)
  have G3 := hid (gr_trans G2.out hb3)
  obtain ⟨W4, hW4⟩ : ∃ W4, W4 = w3.alloc (.cells #[.int .u8 3, .int .u8 0, .slice p3 20 c3] 28 (0, 0)) := ⟨_, rfl⟩
  have g4 : Below w3.heap.size w3 W4 := by rw [hW4]; exact (Below.refl _ _).alloc (Nat.le_refl _) _
  have HC4 := hid (show RowV W4 w3.heap.size 28 [.int .u8 3, .int .u8 0, .slice p3 20 c3] by rw [hW4]; exact RowV.new w3 28 _)
  have HO4 := hid (HO3.out.mono g4)
  have HS4 := hid (HS3.out.mono g4)
  have HR4 := hid (HR3.out.mono g4)
  have G4 := hid (gr_trans G3.out g4)
  have HE4 := hid hW4
  clear ho3 hb3 hW4 g4
  go_wp2_with fail
  rw [← HE4.out]
  refine (getSack_any _ sk0.chk _ ⟨_, rfl, HO4.out.rd⟩ (by rw [show sk0.chk.b.length = 20 from sk0_len]; omega)).mono ?_
  rintro e w5 ⟨s5, rfl, hs5, hb5⟩
  rw [sk0_get] at hs5 ⊢
  obtain ⟨p5, c5, q5, d5, rfl, -⟩ := hs5.form
  have HS5 := hid hs5
  have HC5 := hid (HC4.out.mono hb5)
  have HO5 := hid (HO4.out.mono hb5)
  have HT5 := hid (HS4.out.mono hb5)
  have HR5 := hid (HR4.out.mono hb5)
  have G5 := hid (gr_trans G4.out hb5)
  obtain ⟨W6, hW6⟩ : ∃ W6, W6 = w5.alloc (.cells #[.int .u32 5, .int .u32 6, .slice p5 1 c5, .slice q5 1 d5] 45 (0, 0)) := ⟨_, rfl⟩
  have g6 : Below w5.heap.size w5 W6 := by rw [hW6]; exact (Below.refl _ _).alloc (Nat.le_refl _) _
  have HV6 := hid (show RowV W6 w5.heap.size 45 [.int .u32 5, .int .u32 6, .slice p5 1 c5, .slice q5 1 d5] by rw [hW6]; exact RowV.new w5 45 _)
  have HS6 := hid (HS5.out.mono g6)
  have HC6 := hid (HC5.out.mono g6)
  have HO6 := hid (HO5.out.mono g6)
  have HT6 := hid (HT5.out.mono g6)
  have HR6 := hid (HR5.out.mono g6)
  have G6 := hid (gr_trans G5.out g6)
  have HE6 := hid hW6
  obtain ⟨k0, k1, k2⟩ := HC6.out.three
  rw [hW6] at k0 k1 k2
  clear hs5 hb5 hW6 g6
  simp only [sk0, List.length_cons, List.length_nil, Nat.zero_add]
  go_wp2_with fail
  rw [← HE6.out]
  clear k0 k1 k2
  refine (getData_any _ sk0.chk _ ⟨_, rfl, HO6.out.rd⟩ (by rw [show sk0.chk.b.length = 20 from sk0_len]; omega)).mono ?_
  rintro e w7 ⟨s7, rfl, ho7, hb7⟩
  rw [sk0_data] at ho7 ⊢
  obtain ⟨p7, c7, rfl, -, -, -, -⟩ := ho7.rd
  obtain ⟨W8, hW8⟩ : ∃ W8, W8 = w7.alloc (.cells #[.int .u32 0, .int .u16 0, .int .u16 0, .bool false, .bool false, .bool false, .slice p7 0 c7] 26 (0, 0)) := ⟨_, rfl⟩
  have g8 : Below w7.heap.size w7 W8 := by rw [hW8]; exact (Below.refl _ _).alloc (Nat.le_refl _) _
  have g78 := gr_trans hb7 g8
  have HV8 := hid (HV6.out.mono g78)
  have HS8 := hid (HS6.out.mono g78)
  have HC8 := hid (HC6.out.mono g78)
  have HT8 := hid (HT6.out.mono g78)
  have HR8 := hid (HR6.out.mono g78)
  have G8 := hid (gr_trans G6.out g78)
  have HE8 := hid hW8
  obtain ⟨k0, k1, k2⟩ := HC8.out.three
  obtain ⟨i0, i1, i2, i3, -⟩ := rowSack HR8.out
  obtain ⟨j0, j1, j2, j3, -⟩ := rowSack HV8.out
  rw [hW8] at k0 k1 k2 i0 i1 i2 i3 j0 j1 j2 j3
  clear ho7 hb7 hW8 g8 g78
  simp only [DataD.zero, DataD.vals, List.length_nil]
  go_wp2_with fail
  rw [← HE8.out]
  refine (sameSack_yes _ _ sk0 _ HT8.out HS8.out (by decide) (by decide)).mono ?_
  rintro e w9 ⟨rfl, hb9⟩
  have G9 := hid (gr_trans G8.out hb9)
  go_wp2_with fail
  go_ret
  exact ⟨rfl, G9.out⟩

theorem large_any (v : Value) (c : Chk) (w : World) (h : ChkV w v c) :
    Calls Try.prog 12 #[v] w fun e w' => e = .returned (.bool (decide (8192 < c.b.length))) ∧ Below w.heap.size w w' := by
  obtain ⟨s, rfl, hrd⟩ := h
  obtain ⟨p, cc, rfl, hlc, hcm, -, -⟩ := hrd
  unfold maxLen at hcm
  have hd : decide ((8192 : Int) < (c.b.length : Int)) = decide (8192 < c.b.length) := decide_eq_decide.2 (by omega)
  have HD := hid hd
  clear hd
  go_enter Try.func12, Try.ntmps12
  go_wp2_with fail
  go_ret
  exact ⟨by first | exact congrArg (fun b => Ending.returned (Value.bool b)) HD.out | rfl | (simp [HD.out]; done), (Below.refl _ _).alloc (Nat.le_refl _) _⟩

theorem many_any (v u : Value) (s : SackD) (f : FwdD) (w : World) (h : SackAt w v s) (k : FwdAt w u f) :
    Calls Try.prog 23 #[v, u] w fun e w' => e = .returned (.bool (decide (2048 < s.gaps.length ∨ 2048 < s.dups.length ∨ 2048 < f.skips.length))) ∧ Below w.heap.size w w' := by
  obtain ⟨p, c, q, cq, rfl, h1, h2, h3, h4⟩ := h.form
  obtain ⟨sg, rfl, p2, c2, rfl, h5, h6, -, -⟩ := k
  unfold maxLen at *
  have G := hid (show Below w.heap.size w ((w.alloc (.cells #[.int .u32 (s.cum : Int), .int .u32 (s.rwnd : Int), .slice p s.gaps.length c, .slice q s.dups.length cq] 45 (0, 0))).alloc (.cells #[.int .u32 (f.cum : Int), .slice p2 f.skips.length c2] 49 (0, 0))) from ((Below.refl _ _).alloc (Nat.le_refl _) _).alloc (by simp) _)
  obtain ⟨W, hW⟩ : ∃ W, W = (w.alloc (.cells #[.int .u32 (s.cum : Int), .int .u32 (s.rwnd : Int), .slice p s.gaps.length c, .slice q s.dups.length cq] 45 (0, 0))).alloc (.cells #[.int .u32 (f.cum : Int), .slice p2 f.skips.length c2] 49 (0, 0)) := ⟨_, rfl⟩
  have HR := hid (show RowV W w.heap.size 45 [.int .u32 (s.cum : Int), .int .u32 (s.rwnd : Int), .slice p s.gaps.length c, .slice q s.dups.length cq] by rw [hW]; exact (RowV.new w 45 _).alloc _)
  obtain ⟨a0, a1, a2, a3, -⟩ := rowSack HR.out
  rw [hW] at a0 a1 a2 a3
  clear hW
  clear h
  generalize s.gaps.length = ng at *
  generalize s.dups.length = nd at *
  generalize f.skips.length = nf at *
  by_cases e1 : 2048 < ng
  · have f1 : (2048 : Int) < (ng : Int) := by omega
    go_enter Try.func23, Try.ntmps23
    go_wp2_with fail
    go_ret
    exact ⟨by simp [e1], G.out⟩
  · have f1 : ¬ (2048 : Int) < (ng : Int) := by omega
    by_cases e2 : 2048 < nd
    · have f2 : (2048 : Int) < (nd : Int) := by omega
      go_enter Try.func23, Try.ntmps23
      go_wp2_with fail
      go_ret
      exact ⟨by simp [e1, e2], G.out⟩
    · have f2 : ¬ (2048 : Int) < (nd : Int) := by omega
      by_cases e3 : 2048 < nf
      · have f3 : (2048 : Int) < (nf : Int) := by omega
        go_enter Try.func23, Try.ntmps23
        go_wp2_with fail
        go_ret
        exact ⟨by simp [e1, e2, e3], G.out⟩
      · have f3 : ¬ (2048 : Int) < (nf : Int) := by omega
        go_enter Try.func23, Try.ntmps23
        go_wp2_with fail
        go_ret
        exact ⟨by simp [e1, e2, e3], G.out⟩
end Go.Proofs.Ytfiblhdejglpaaa

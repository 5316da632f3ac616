/- ChunkCuts: the walk of the law. Conditions: none but what the row reads. -/
import Derived.Test.YtbjmakckljjbiaaChunkWorks
namespace Go.Proofs.Ytbjmakckljjbiaa
open Go.RowKit Go.FL Go.ChangeShapes

set_option maxRecDepth 20000 in
set_option maxHeartbeats 2000000 in
theorem chunkCuts_walk {w : World} {v : Value} (x : Chk) (hx : ChkAt w v x) (cut : Int) (hcut : (Lit.int .i64 cut).wf = true) :
    Calls Try.prog 7 #[v, .int .i64 cut] w fun e w' => e = .returned (.bool true) ∧ Below w.heap.size w w' := by
  have bc := bounds_i64 hcut
  clear hcut
  have HX := hid hx
  obtain ⟨s, rfl, hrd⟩ := hx
  obtain ⟨p, cp, rfl, hlc, hcm, hpn, hcell⟩ := hrd
  unfold maxLen at hcm
  clear hcell
  obtain ⟨kk, ff, b⟩ := x
  simp only at *
  obtain ⟨W, hW⟩ : ∃ W, W = w.alloc (.cells #[.int .u8 (kk.toNat : Int), .int .u8 (ff.toNat : Int), .slice p b.length cp] 24 (0, 0)) := ⟨_, rfl⟩
  have hr : RowV W w.heap.size 24 [.int .u8 (kk.toNat : Int), .int .u8 (ff.toNat : Int), .slice p b.length cp] := by rw [hW]; exact RowV.new w 24 _
  have HW := hid (show Below w.heap.size w W by rw [hW]; exact (Below.refl _ _).alloc (Nat.le_refl _) _)
  have HE := hid hW
  have HR := hid hr
  clear hW hr
  by_cases hbig : 131072 < b.length
  · go_enter Try.func7, Try.ntmps7
    go_wp2_with fail
    rw [← HE.out]
    refine (large_yes _ ⟨kk, ff, b⟩ _ (HX.out.mono HW.out) hbig).mono ?_
    rintro e w1 ⟨rfl, hb1⟩
    go_wp2_with fail
    refine (works_any _).mono ?_
    rintro e w2 ⟨rfl, hb2⟩
    go_wp2_with fail
    go_ret
    exact ⟨rfl, gr_trans HW.out (gr_trans hb1 hb2)⟩
  · have hsm : b.length ≤ 131072 := by omega
    clear hbig
    go_enter Try.func7, Try.ntmps7
    go_wp2_with fail
    rw [← HE.out]
    refine (large_no _ ⟨kk, ff, b⟩ _ (HX.out.mono HW.out) hsm).mono ?_
    rintro e w1 ⟨rfl, hb1⟩
    have G1 := hid (gr_trans HW.out hb1)
    obtain ⟨c0, c1, c2⟩ := (HR.out.mono hb1).three
    clear hb1
    go_wp2_with fail
    refine (cwrite_any _ ⟨kk, ff, b⟩ _ (HX.out.mono G1.out) (by show b.length ≤ _; omega)).mono ?_
    rintro e w2 ⟨v2, rfl, ho2, hb2⟩
    obtain ⟨bs, hbs⟩ : ∃ bs, bs = (⟨kk, ff, b⟩ : Chk).bytes := ⟨_, rfl⟩
    rw [← hbs] at ho2
    have HBS := hid hbs
    obtain ⟨z, cc, rfl, hzc, hcc⟩ := ho2.shape
    unfold maxLen at hcc
    have HO2 := hid ho2
    have G2 := hid (gr_trans G1.out hb2)
    clear hbs ho2 hb2 c0 c1 c2
    by_cases hin : 0 ≤ cut ∧ cut < (bs.length : Int)
    · obtain ⟨n, rfl⟩ : ∃ n : Nat, cut = (n : Int) := ⟨cut.toNat, by omega⟩
      have hn : n < bs.length := by omega
      have hl : b.length ≤ 65531 := by
        by_cases h : b.length ≤ 65531
        · exact h
        · have := Chk.bytes_big ⟨kk, ff, b⟩ (by show 65531 < b.length; omega)
          rw [HBS.out, this] at hn
          simp at hn
      have HNO := hid (show chkOk (bs.take n) = false by rw [HBS.out]; exact chk_cut ⟨kk, ff, b⟩ n hl (by rw [← HBS.out]; exact hn))
      have HRT := hid (HO2.out.rd.take n (by omega))
      have hblen : bs.length ≤ 65540 := by
        have := (Chk.bytes_pos ⟨kk, ff, b⟩ hl).2.1
        rw [← HBS.out] at this
        simp only at this
        omega
      have hge : ¬ (bs.length : Int) ≤ (n : Int) := by omega
      have hsl : ∀ wx, (Instr.slice 22 (.slice z bs.length cc) none (some (.int .i64 (n : Int))) none).run Try.prog wx = .ok (.slice z n cc) wx := fun wx => run_slice_to (P := Try.prog) 22 5 Try.underlying22 z bs.length cc n (by omega) (by omega) .i64 (by kernel_rfl) wx
      clear hin
      go_wp2_with fail
      refine (cread_bad _ (bs.take n) HNO.out _ HRT.out (by simp; omega)).mono ?_
      rintro e w3 ⟨p3, c3, rfl, ho3, hb3⟩
      obtain ⟨W3, hW3⟩ : ∃ W3, W3 = w3.alloc (.cells #[.int .u8 0, .int .u8 0, .slice p3 0 c3] 24 (0, 0)) := ⟨_, rfl⟩
      have G3 := hid (gr_trans G2.out (gr_trans hb3 (show Below w3.heap.size w3 W3 by rw [hW3]; exact (Below.refl _ _).alloc (Nat.le_refl _) _)))
      have HC3 := hid (show ChkAt W3 (.agg #[.int .u8 0, .int .u8 0, .slice p3 0 c3]) Chk.zero from ⟨_, rfl, by rw [hW3]; exact (ho3.alloc _).rd⟩)
      have HE3 := hid hW3
      clear ho3 hb3 hW3 hsl
      go_wp2_with fail
      rw [← HE3.out]
      refine (chkSame_yes _ _ Chk.zero _ HC3.out (chkAt_zero _)).mono ?_
      rintro e w4 ⟨rfl, hb4⟩
      have G4 := hid (gr_trans G3.out hb4)
      clear hb4
      go_wp2_with fail
      refine (works_any _).mono ?_
      rintro e w5 ⟨rfl, hb5⟩
      go_wp2_with fail
      go_ret
      exact ⟨rfl, gr_trans G4.out hb5⟩
    · have hcase : cut < 0 ∨ (0 ≤ cut ∧ (bs.length : Int) ≤ cut) := by omega
      clear hin
      rcases hcase with h1 | ⟨h1, h2⟩
      all_goals
        go_wp2_with fail
        refine (works_any _).mono ?_
        rintro e w5 ⟨rfl, hb5⟩
        go_wp2_with fail
        go_ret
        exact ⟨rfl, gr_trans G2.out hb5⟩
end Go.Proofs.Ytbjmakckljjbiaa

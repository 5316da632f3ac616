/- ChunkReads: the walk of the law. Conditions: none but what the row reads. -/
import Derived.Test.YtbjmakckljjbiaaChunkWorks
import Derived.Test.YtbjmakckljjbiaaChunkRefR
import Derived.Test.YtbjmakckljjbiaaApart
namespace Go.Proofs.Ytbjmakckljjbiaa
open Go.RowKit Go.FL Go.ChangeShapes

/-- Two rows in two rooms, one above the other. -/
theorem apart2 {v v1 v2 : Value} {l1 l2 : List UInt8} {b1 b2 : Nat} {w w1 w2 : World} (hv : RdV w v [v2, v1])
    (h1 : Own w1 b1 5 v1 l1) (h2 : Own w2 b2 5 v2 l2) (g1 : Below w1.heap.size w1 w) (g2 : Below w2.heap.size w2 w) (e1 : w1.heap.size ≤ b2) :
    Calls Try.prog 17 #[v] w fun e w' => e = .returned (.bool true) ∧ Below w.heap.size w w' := by
  obtain ⟨r1, q1, _, y1, z1⟩ := h1.arow
  obtain ⟨r2, q2, _, y2, z2⟩ := h2.arow
  have f12 : r1.far r2 := far_of (B := b2) (fun g hg => Nat.lt_of_lt_of_le (z1 g hg).2 e1) (fun g hg => (z2 g hg).1)
  refine apart_any v [r2, r1] w (by simpa [q1, q2] using hv) (rows_lie ?_) (rows_far ?_) (by simp)
  · intro r hr
    simp at hr
    rcases hr with rfl | rfl
    · exact y2.mono g2
    · exact y1.mono g1
  · simp [f12.symm]

set_option maxRecDepth 100000 in
set_option maxHeartbeats 4000000 in
theorem chunkReads_walk {w : World} {v : Value} (l : List UInt8) (hv : Rd w v l) :
    Calls Try.prog 4 #[v] w fun e w' => e = .returned (.bool true) ∧ Below w.heap.size w w' := by
  have HV := hid hv
  obtain ⟨p, c, rfl, hlc, hcm, hpn, hcell⟩ := hv
  unfold maxLen at hcm
  clear hcell
  by_cases hbig : 131072 < l.length
  · go_enter Try.func4, Try.ntmps4
    go_wp2_with fail
    refine (works_any _).mono ?_
    rintro e w' ⟨rfl, hb⟩
    go_wp2_with fail
    go_ret
    exact ⟨rfl, hb⟩
  · obtain ⟨t, ht⟩ : ∃ t, t = chkTells l := ⟨_, rfl⟩
    have HT := hid ht
    clear ht
    obtain ⟨⟨kk, ff, b⟩, n, er⟩ := t
    have hkb := byte_lt kk
    have hfb := byte_lt ff
    go_enter Try.func4, Try.ntmps4
    go_wp2_with fail
    refine (roomy_any _ l _ HV.out (by omega)).mono ?_
    rintro e w1 ⟨v1, rfl, hr1, hb1⟩
    have HR1 := hid hr1
    have G1 := hid hb1
    clear hb1 hr1
    obtain ⟨p1, n1, c1, rfl⟩ := HR1.out.rd.form
    go_wp2_with fail
    refine (cread_any _ l _ HR1.out.rd (by omega)).mono ?_
    rw [← HT.out]
    rintro e w2 ⟨s2, rfl, ho2, hb2⟩
    simp only at ho2 ⊢
    obtain ⟨p2, c2, rfl, hlc2, hcm2⟩ := ho2.shape
    obtain ⟨W2, hW2⟩ : ∃ W2, W2 = w2.alloc (.cells #[.int .u8 (kk.toNat : Int), .int .u8 (ff.toNat : Int), .slice p2 b.length c2] 24 (0, 0)) := ⟨_, rfl⟩
    have g22 : Below w2.heap.size w2 W2 := by rw [hW2]; exact (Below.refl _ _).alloc (Nat.le_refl _) _
    have hr2 : RowV W2 w2.heap.size 24 [.int .u8 (kk.toNat : Int), .int .u8 (ff.toNat : Int), .slice p2 b.length c2] := by rw [hW2]; exact RowV.new w2 24 _
    have G2 := hid (gr_trans hb2 g22)
    have HRW2 := hid hr2
    have HO2 := hid (ho2.mono g22)
    have HE2 := hid hW2
    clear hb2 ho2 hr2 g22 hlc2 hcm2
    go_wp2_with (rw [← HE2.out])
    refine (rread_any _ l _ (HV.out.mono (gr_trans G1.out G2.out)) (by omega)).mono ?_
    rw [← HT.out]
    rintro e w3 ⟨s3, rfl, ho3, hb3⟩
    simp only at ho3 ⊢
    obtain ⟨p3, c3, rfl, hlc3, hcm3⟩ := ho3.shape
    obtain ⟨W3, hW3⟩ : ∃ W3, W3 = w3.alloc (.cells #[.int .u8 (kk.toNat : Int), .int .u8 (ff.toNat : Int), .slice p3 b.length c3] 24 (0, 0)) := ⟨_, rfl⟩
    have g33 : Below w3.heap.size w3 W3 := by rw [hW3]; exact (Below.refl _ _).alloc (Nat.le_refl _) _
    have hr3 : RowV W3 w3.heap.size 24 [.int .u8 (kk.toNat : Int), .int .u8 (ff.toNat : Int), .slice p3 b.length c3] := by rw [hW3]; exact RowV.new w3 24 _
    have G3 := hid (gr_trans hb3 g33)
    have HRW3 := hid hr3
    have HO3 := hid (ho3.mono g33)
    have HRW2b := hid (HRW2.out.mono G3.out)
    have HE3 := hid hW3
    obtain ⟨d0, d1, d2⟩ := (HRW2.out.mono hb3).three
    have hlt := (HRW2.out.mono hb3).lt
    have hnn : w3.heap.size ≠ w2.heap.size := by omega
    clear hb3 ho3 hr3 g33 hlc3 hcm3
    go_wp2_with fail
    rw [← HE3.out]
    refine (chkSame_yes _ _ ⟨kk, ff, b⟩ _ ⟨_, rfl, (HO2.out.mono G3.out).rd⟩ ⟨_, rfl, HO3.out.rd⟩).mono ?_
    rintro e w4 ⟨rfl, hb4⟩
    have G4 := hid hb4
    clear hb4 d0 d1 d2 hlt hnn
    go_wp2_with fail
    refine (kept_gr _ _ l _ _ (HR1.out.mono (gr_trans G2.out (gr_trans G3.out G4.out))) (HV.out.mono (gr_trans G1.out (gr_trans G2.out (gr_trans G3.out G4.out))))).mono ?_
    rintro e w5 ⟨rfl, hb5⟩
    have G5 := hid hb5
    have G35 := hid (gr_trans G3.out (gr_trans G4.out G5.out))
    clear hb5
    have HRW5 := hid (HRW2.out.mono G35.out)
    obtain ⟨d0, d1, d2⟩ := HRW5.out.three
    have HL := hid (rdV_new w5 22 [.slice p2 b.length c2, .slice p1 n1 c1] 2 #[.slice p2 b.length c2, .slice p1 n1 c1] rfl rfl (by unfold maxLen; omega))
    have GA := hid (show Below w5.heap.size w5 (w5.alloc (.cells #[.slice p2 b.length c2, .slice p1 n1 c1] 22 (0, 0))) from (Below.refl _ _).alloc (Nat.le_refl _) _)
    go_wp2_with fail
    refine (apart2 HL.out HR1.out.own HO2.out (gr_trans G2.out (gr_trans G35.out GA.out)) (gr_trans G35.out GA.out) (Nat.le_refl _)).mono ?_
    rintro e w6 ⟨rfl, hb6⟩
    have G6 := hid (gr_trans GA.out hb6)
    clear hb6
    go_wp2_with fail
    refine (works_any _).mono ?_
    rintro e wA ⟨rfl, hbA⟩
    go_wp2_with fail
    go_ret
    exact ⟨rfl, gr_trans G1.out (gr_trans G2.out (gr_trans G35.out (gr_trans G6.out hbA)))⟩
end Go.Proofs.Ytbjmakckljjbiaa

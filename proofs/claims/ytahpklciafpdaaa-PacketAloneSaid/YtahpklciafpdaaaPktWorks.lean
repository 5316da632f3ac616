/- The chapter's anchor is true. Conditions: none. -/
import Derived.Test.YtahpklciafpdaaaPktRead
import Derived.Test.YtahpklciafpdaaaPktSame
set_option linter.unusedSimpArgs false
set_option linter.unusedVariables false
namespace Go.FL
open Go.RowKit
def p7 : Pkt := ⟨7, [⟨11, 0, []⟩, ⟨0, 3, [1, 2]⟩]⟩
theorem p7_may : mayB p7.cs = true := by decide
theorem p7_length : p7.bytes.length = 24 := by rw [Pkt.bytes_length p7 p7_may]; decide
theorem p7_size : p7.size = 24 := by decide
theorem p7_read : readP p7.bytes = (p7, 0) := readP_bytes p7 (by decide) p7_may
theorem p7_at : p7.bytes[4]? = some 0 := by
  rw [Pkt.bytes, if_pos p7_may, Pkt.laid, List.getElem?_append_left (by rw [pktHead_length]; omega)]
  decide
theorem p7_cell : (bytesV p7.bytes)[4]? = some (.int .u8 0) := by simp [bytesV, p7_at]
theorem p7_set (sp : List UInt8) : (bytesV (p7.bytes ++ sp)).set 4 (.int .u8 1) = bytesV (p7.bytes.set 4 1 ++ sp) := by
  have e : p7.bytes.set 4 1 ++ sp = (p7.bytes ++ sp).set 4 1 := (List.set_append_left 4 1 (by rw [p7_length]; omega)).symm
  rw [e]
  simp [bytesV, List.map_set]
theorem p7_bad : ¬ numAt (p7.bytes.set 4 1) 8 4 = sumB (p7.bytes.set 4 1) := by decide +kernel
theorem p7_refused : readP (p7.bytes.set 4 1) = (.zero, 8) := by
  rw [readP, if_neg (by rw [List.length_set, p7_length]; omega), if_neg p7_bad]
theorem p7_chunks {W : World} {g g2 eB eC : Nat} (h : RowV W g2 eC [.int .u8 11, .int .u8 0, .slice none 0 0, .int .u8 0, .int .u8 3, .slice (some ⟨g, 0, none⟩) 2 2]) (k : Row W g eB [1, 2]) :
    ChunksAt W (.slice (some ⟨g2, 0, none⟩) 2 2) p7.cs := by
  refine ⟨_, _, rfl, by decide, by unfold maxLen; omega, fun i hi => ?_⟩
  have hi2 : i = 0 ∨ i = 1 := by
    simp [p7] at hi
    omega
  rcases hi2 with rfl | rfl
  · exact ⟨g2, 0, .slice none 0 0, rfl, h.at 0 (by simp), h.at 1 (by simp), h.at 2 (by simp), Rd.nil _⟩
  · exact ⟨g2, 0, _, rfl, h.at 3 (by simp), h.at 4 (by simp), h.at 5 (by simp), k.rd 2 2 (by simp) (by omega) (by unfold maxLen; omega)⟩
end Go.FL
namespace Go.Proofs.Ytahpklciafpdaaa
open Go.RowKit Go.FL Go.ChangeShapes

set_option maxRecDepth 100000 in
set_option maxHeartbeats 2000000 in
theorem works_any (w : World) : Calls Try.prog 12 #[] w (Gives w (.bool true)) := by
  obtain ⟨W1, hW1⟩ : ∃ W1, W1 = w.alloc (.cells #[.int .u8 1, .int .u8 2] 5 (0, 0)) := ⟨_, rfl⟩
  have hs1 : W1.heap.size = w.heap.size + 1 := by rw [hW1]; simp
  obtain ⟨W2, hW2⟩ : ∃ W2, W2 = W1.alloc (.cells #[.int .u8 11, .int .u8 0, .slice none 0 0, .int .u8 0, .int .u8 3, .slice (some ⟨w.heap.size, 0, none⟩) 2 2] 41 (0, 0)) := ⟨_, rfl⟩
  have hs2 : W2.heap.size = w.heap.size + 2 := by rw [hW2]; simp [hs1]
  obtain ⟨W3, hW3⟩ : ∃ W3, W3 = W2.alloc (.cells #[.int .u32 7, .slice (some ⟨w.heap.size + 1, 0, none⟩) 2 2] 25 (0, 0)) := ⟨_, rfl⟩
  have r1 : Row W1 w.heap.size 5 [1, 2] := by rw [hW1]; exact (RowV.new w 5 (bytesV [1, 2])).to_row
  have r2 : RowV W2 (w.heap.size + 1) 41 [.int .u8 11, .int .u8 0, .slice none 0 0, .int .u8 0, .int .u8 3, .slice (some ⟨w.heap.size, 0, none⟩) 2 2] := by
    have := RowV.new W1 41 [.int .u8 11, .int .u8 0, .slice none 0 0, .int .u8 0, .int .u8 3, .slice (some ⟨w.heap.size, 0, none⟩) 2 2]
    rw [hs1] at this
    rw [hW2]
    exact this
  have HR3 := hid (show RowV W3 (w.heap.size + 2) 25 [.int .u32 7, .slice (some ⟨w.heap.size + 1, 0, none⟩) 2 2] by
    have := RowV.new W2 25 [.int .u32 7, .slice (some ⟨w.heap.size + 1, 0, none⟩) 2 2]
    rw [hs2] at this
    rw [hW3]
    exact this)
  have b2 : Below W1.heap.size W1 W2 := by rw [hW2]; exact (Below.refl _ _).alloc (Nat.le_refl _) _
  have b3 : Below W2.heap.size W2 W3 := by rw [hW3]; exact (Below.refl _ _).alloc (Nat.le_refl _) _
  have HC := hid (p7_chunks (r2.mono b3) ((r1.mono b2).mono b3))
  have G3 := hid (show Below w.heap.size w W3 from gr_trans (gr_trans (by rw [hW1]; exact (Below.refl _ _).alloc (Nat.le_refl _) _) b2) b3)
  have HP := hid (show PktAt W3 (.agg #[.int .u32 7, .slice (some ⟨w.heap.size + 1, 0, none⟩) 2 2]) p7 from ⟨_, rfl, HC.out, by decide⟩)
  have HE := hid (show W3 = ((w.alloc (.cells #[.int .u8 1, .int .u8 2] 5 (0, 0))).alloc (.cells #[.int .u8 11, .int .u8 0, .slice none 0 0, .int .u8 0, .int .u8 3, .slice (some ⟨w.heap.size, 0, none⟩) 2 2] 41 (0, 0))).alloc (.cells #[.int .u32 7, .slice (some ⟨w.heap.size + 1, 0, none⟩) 2 2] 25 (0, 0)) by rw [hW3, hW2, hW1])
  have HS3 := hid (show W3.heap.size = w.heap.size + 3 by rw [hW3]; simp [hs2])
  clear r1 r2 b2 b3 hW1 hW2 hW3 hs1 hs2
  go_enter Try.func12, Try.ntmps12
  go_wp2_with fail
  rw [← HE.out]
  refine (pwrite_any p7 _ _ HP.out (by decide)).mono ?_
  rintro e w1 ⟨v1, rfl, ho1, hb1⟩
  obtain ⟨g, sp, hge, rfl, hrow, hmx⟩ : ∃ g sp, W3.heap.size ≤ g ∧ v1 = .slice (some ⟨g, 0, none⟩) 24 (24 + List.length (α := UInt8) sp) ∧ Row w1 g 5 (p7.bytes ++ sp) ∧ 24 + sp.length ≤ maxLen := by
    rcases ho1 with ⟨_, e⟩ | ⟨g, sp, h1, e, h2, h3⟩
    · have := congrArg List.length e
      rw [p7_length] at this
      simp at this
    · rw [p7_length] at e h3
      exact ⟨g, sp, h1, e, h2, h3⟩
  have HROW := hid hrow
  have HR1 := hid (HR3.out.mono hb1)
  have HP1 := hid (HP.out.mono hb1)
  have G1 := hid (gr_trans G3.out hb1)
  have hge2 : w.heap.size + 3 ≤ g := by have := HS3.out; omega
  have HV1 := hid (show Rd w1 (.slice (some ⟨g, 0, none⟩) 24 (24 + sp.length)) p7.bytes by
    have := hrow.rd 24 (24 + sp.length) (by rw [List.length_append, p7_length]; omega) (by omega) hmx
    rwa [List.take_left' p7_length] at this)
  clear ho1 hrow hb1 hge
  go_wp2_with fail
  refine (pread_any _ p7.bytes _ HV1.out (by rw [p7_length]; omega)).mono ?_
  rw [p7_read]
  rintro e w2 ⟨v2, rfl, hp2, hb2⟩
  obtain ⟨s2, rfl, hc2, ht2⟩ := hp2
  obtain ⟨up, uc, rfl⟩ : ∃ up uc, s2 = .slice up 2 uc := by
    obtain ⟨ss, q1, q2, q3⟩ := hc2
    exact q2.form
  have GA := hid (show Below w2.heap.size w2 (w2.alloc (.cells #[.int .u32 (p7.tag : Int), .slice up 2 uc] 25 (0, 0))) from (Below.refl _ _).alloc (Nat.le_refl _) _)
  have HR2 := hid ((HR1.out.mono hb2).mono GA.out)
  have HP2 := hid ((HP1.out.mono hb2).mono GA.out)
  have G2 := hid (gr_trans (gr_trans G1.out hb2) GA.out)
  have HROW2 := hid ((HROW.out.mono hb2).mono GA.out)
  have HQ2 := hid (show PktAt (w2.alloc (.cells #[.int .u32 (p7.tag : Int), .slice up 2 uc] 25 (0, 0))) (.agg #[.int .u32 (p7.tag : Int), .slice up 2 uc]) p7 from ⟨_, rfl, (hc2.at).mono GA.out, by decide⟩)
  have HRN := hid (RowV.new w2 25 [.int .u32 (p7.tag : Int), .slice up 2 uc])
  obtain ⟨W4, hW4⟩ : ∃ W4, W4 = w2.alloc (.cells #[.int .u32 (p7.tag : Int), .slice up 2 uc] 25 (0, 0)) := ⟨_, rfl⟩
  rw [← hW4] at GA HR2 HP2 G2 HROW2 HQ2
  have a0 := HR2.out.at 0 (by simp)
  have a1 := HR2.out.at 1 (by simp)
  simp only [List.getElem_cons_succ, List.getElem_cons_zero] at a0 a1
  rw [hW4] at a0 a1
  have HE4 := hid hW4
  clear hb2 hc2 hW4
  go_wp2_with fail
  rw [← HE4.out]
  clear a0 a1
  refine (rsame_yes p7 _ _ _ HP2.out HQ2.out).mono ?_
  rintro e w5 ⟨rfl, hb5⟩
  have HR5 := hid (HR2.out.mono hb5)
  have HP5 := hid (HP2.out.mono hb5)
  have G5 := hid (gr_trans G2.out hb5)
  have HROW5 := hid (HROW2.out.mono hb5)
  have a0 := HR5.out.at 0 (by simp)
  have a1 := HR5.out.at 1 (by simp)
  simp only [List.getElem_cons_succ, List.getElem_cons_zero] at a0 a1
  clear hb5
  go_wp2_with fail
  clear a0 a1
  refine (psize_any p7 _ _ HP5.out (by decide)).mono ?_
  rw [p7_size]
  rintro e w6 ⟨rfl, hb6⟩
  have G6 := hid (gr_trans G5.out hb6)
  have HROW6 := hid (RowV.of_row (HROW5.out.mono hb6))
  have c4 := HROW6.out.cell 4
  rw [bytesV_append, List.getElem?_append_left (by rw [bytesV_length, p7_length]; omega), p7_cell] at c4
  have f4 := HROW6.out.frozen 4
  clear hb6
  go_wp2_with fail
  have HROW7 := hid (HROW6.out.store 4 (.int .u8 1))
  have G7 := hid (G6.out.setCell (p := ⟨g, 4, none⟩) (by simp; omega) (.int .u8 1))
  rw [p7_set] at HROW7
  have HV7 := hid (show Rd (w6.setCell ⟨g, 4, none⟩ (.int .u8 1)) (.slice (some ⟨g, 0, none⟩) 24 (24 + sp.length)) (p7.bytes.set 4 1) by
    have := HROW7.out.to_row.rd 24 (24 + sp.length) (by rw [List.length_append, List.length_set, p7_length]; omega) (by omega) hmx
    rwa [List.take_left' (by rw [List.length_set, p7_length])] at this)
  clear c4 f4
  refine (pread_any _ _ _ HV7.out (by rw [List.length_set, p7_length]; omega)).mono ?_
  rw [p7_refused]
  rintro e w8 ⟨v8, rfl, -, hb8⟩
  have G8 := hid (gr_trans G7.out hb8)
  clear hb8
  go_wp2_with fail
  go_ret
  exact ⟨rfl, G8.out⟩
end Go.Proofs.Ytahpklciafpdaaa

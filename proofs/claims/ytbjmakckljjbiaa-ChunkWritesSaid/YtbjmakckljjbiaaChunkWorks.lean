/- The chapter's anchor is true. Conditions: none. -/
import Derived.Test.YtbjmakckljjbiaaChunkMore
namespace Go.FL
open Go.RowKit
def c10 : Chk := ⟨10, 0, [170]⟩
theorem c10_bytes : c10.bytes = [10, 0, 0, 5, 170, 0, 0, 0] := by decide +kernel
theorem c10_tells : chkTells c10.bytes = (c10, 8, 0) := by
  have := chkTells_back c10 [] (by decide)
  rw [List.append_nil] at this
  rw [this, c10_bytes]
  rfl
theorem nil_tells : chkTells [] = (Chk.zero, 0, 7) := by rw [chkTells, if_neg (by decide +kernel)]
end Go.FL
namespace Go.Proofs.Ytbjmakckljjbiaa
open Go.RowKit Go.FL

theorem c10_read (w : World) (v : Value) (hv : Rd w v c10.bytes) : Calls Try.prog 18 #[v] w fun e w' => ∃ g cap, e = .returned (.tuple #[.agg #[.int .u8 10, .int .u8 0, .slice (some ⟨g, 0, none⟩) 1 cap], .int .i64 8, .int .i64 0]) ∧ w'.cell? ⟨g, 0, none⟩ = some (.int .u8 170) ∧ Below w.heap.size w w' := by
  refine (cread_is _ c10.bytes c10 8 0 c10_tells _ hv (by rw [c10_bytes]; decide)).mono ?_
  rintro e w2 ⟨s2, rfl, ho2, hb2⟩
  rcases ho2 with ⟨_, e0⟩ | ⟨g2, sp2, hg2, rfl, hr2, hm2⟩
  · simp [c10] at e0
  · have hcell := hr2.cell 0 (by simp [c10])
    exact ⟨g2, _, rfl, hcell, hb2⟩
theorem nil_read (w : World) : Calls Try.prog 18 #[.slice none 0 0] w fun e w' => ∃ p c, e = .returned (.tuple #[.agg #[.int .u8 0, .int .u8 0, .slice p 0 c], .int .i64 0, .int .i64 7]) ∧ Below w.heap.size w w' := by
  refine (cread_is _ [] Chk.zero 0 7 nil_tells _ (Rd.nil w) (by decide)).mono ?_
  rintro e w2 ⟨s2, rfl, ho2, hb2⟩
  obtain ⟨p, c, rfl, _⟩ := ho2.rd
  exact ⟨p, c, rfl, hb2⟩

set_option maxRecDepth 20000 in
set_option maxHeartbeats 1000000 in
theorem works_any (w : World) : Calls Try.prog 11 #[] w (Gives w (.bool true)) := by
  have HN := hid (rd_new w 5 [170] 1 _ rfl rfl (by unfold maxLen; omega))
  have HA := hid (show Below w.heap.size w (w.alloc (.cells (bytesV [170]).toArray 5 (0, 0))) from (Below.refl _ _).alloc (Nat.le_refl _) _)
  go_enter Try.func11, Try.ntmps11
  go_wp2_with fail
  refine (cwrite_any _ c10 _ ⟨_, rfl, HN.out⟩ (by decide)).mono ?_
  rintro e w1 ⟨v1, rfl, ho1, hb1⟩
  obtain ⟨g1, sp1, rfl⟩ : ∃ g1 sp1, v1 = .slice (some ⟨g1, 0, none⟩) 8 (8 + List.length (α := UInt8) sp1) := by
    rcases ho1 with ⟨_, e⟩ | ⟨g, sp, _, e, _, _⟩
    · rw [c10_bytes] at e
      simp at e
    · exact ⟨g, sp, by rw [e, c10_bytes]; rfl⟩
  have HO1 := hid ho1
  have G1 := hid (gr_trans HA.out hb1)
  clear ho1 hb1
  go_wp2_with fail
  refine (c10_read _ _ HO1.out.rd).mono ?_
  rintro e w2 ⟨g2, cp2, rfl, hcell, hb2⟩
  have G2 := hid (gr_trans G1.out hb2)
  have hlt : g2 < w2.heap.size := World.block_lt_of_cell? w2 _ hcell
  obtain ⟨W2, hW2⟩ : ∃ W2, W2 = w2.alloc (.cells #[.int .u8 10, .int .u8 0, .slice (some ⟨g2, 0, none⟩) 1 cp2] 24 (0, 0)) := ⟨_, rfl⟩
  have GW := hid (show Below w2.heap.size w2 W2 by rw [hW2]; exact (Below.refl _ _).alloc (Nat.le_refl _) _)
  have hr : RowV W2 w2.heap.size 24 [.int .u8 10, .int .u8 0, .slice (some ⟨g2, 0, none⟩) 1 cp2] := by rw [hW2]; exact RowV.new w2 24 _
  have hc2 := cell?_of_below GW.out hcell
  have HW2 := hid hW2
  clear hb2 hcell hW2
  go_wp2_with fail
  rw [← HW2.out]
  refine (nil_read _).mono ?_
  rintro e w3 ⟨p3, c3, rfl, hb3⟩
  have G3 := hid (gr_trans G2.out (gr_trans GW.out hb3))
  have c0 := cell?_of_below hb3 (hr.at 0 (by simp))
  have c2 := cell?_of_below hb3 (hr.at 2 (by simp))
  have hc3 := cell?_of_below hb3 hc2
  have hsz : w2.heap.size < w3.heap.size := by have := hr.lt; have := hb3.size; omega
  simp only [List.getElem_cons_zero, List.getElem_cons_succ] at c0 c2
  have hlt3 : g2 < w3.heap.size := by have := hb3.size; have := GW.out.size; omega
  clear hr hc2 hb3
  go_wp2_with fail
  go_ret
  exact ⟨rfl, G3.out.alloc G3.out.size _⟩
end Go.Proofs.Ytbjmakckljjbiaa

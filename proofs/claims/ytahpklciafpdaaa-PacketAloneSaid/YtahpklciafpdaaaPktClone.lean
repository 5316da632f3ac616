/- slices.Clone of chunks: the same cells in a row of one's own. Conditions: not too many. -/
import Derived.Test.YtahpklciafpdaaaPktFitM
import Derived.Test.YtahpklciafpdaaaPktRead
set_option linter.unusedSimpArgs false
set_option linter.unusedVariables false
namespace Go.Proofs.Ytahpklciafpdaaa
open Go.RowKit Go.FL Go.ChangeShapes

set_option maxRecDepth 20000 in
set_option maxHeartbeats 400000 in
theorem cclone_any (cs : List Chk) (ss : List Value) (v : Value) (w : World) (h : ChunksL w v cs ss) (hn : cs.length ≤ 1000000) :
    Calls Try.prog 48 #[v] w fun e w' => ∃ v', e = .returned v' ∧ OwnK w' w.heap.size 41 3 v' cs.length (chkCells cs ss) ∧ Below w.heap.size w w' := by
  have HH := hid h
  obtain ⟨h1, ⟨h2, p, c, rfl, hle, hcm, hcell⟩, h3, h4⟩ := h
  have HONE := hid (chkCells_one cs ss h4)
  have H2 := hid h2
  obtain ⟨n, hnn⟩ : ∃ n, n = cs.length := ⟨_, rfl⟩
  have HN := hid hnn
  rw [← hnn] at hle hn ⊢
  unfold maxLen at hcm
  clear h3 h4 h2
  obtain ⟨b, hb⟩ : ∃ b, p.isNone = b := ⟨_, rfl⟩
  have hnil : ∀ wx, (binOp .eql 23 (.slice p n c) (.slice none 0 0)).run Try.prog wx = .ok (.bool b) wx := fun wx => by
    rw [Lib.run_eql_slice_nil (P := Try.prog) wx 23 41 p n c 0 0 Try.underlying23, hb]
  cases b
  · clear hcell hnn hb
    have G := hid (show Below w.heap.size w (w.alloc (.cells #[] 41 (0, 0))) from (Below.refl _ _).alloc (Nat.le_refl _) _)
    have HO := hid (show OwnK (w.alloc (.cells #[] 41 (0, 0))) w.heap.size 41 3 (.slice (some ⟨w.heap.size, 0, none⟩) 0 0) 0 [] from ⟨rfl, .inr ⟨w.heap.size, 0, [], Nat.le_refl _, rfl, rfl, heap_alloc_new w _, by unfold maxLen; omega⟩⟩)
    have HX := hid (show RdL (w.alloc (.cells #[] 41 (0, 0))) 3 (.slice p n c) n (chkCells cs ss) from by
      have := HH.out.2.1.mono G.out
      rwa [← HN.out] at this)
    go_enter Try.func48, Try.ntmps48
    go_wp2_with (at_builtin; refine wpList_append_OwnL rfl (.tmp 5) (.tmp 6) 23 rfl w.heap.size 41 (.agg #[.int .u8 0, .int .u8 0, .slice none 0 0]) 3 32 rfl (by decide) Try.underlying23 infoChkP _ _ 0 n [] (chkCells cs ss) HONE.out rfl HO.out rfl HX.out ?hlen ?hlen2 G.out.size ?_)
    case hlen => omega
    case hlen2 => omega
    intro v' w' ho hg hak
    have HO2 := hid ho
    have HB2 := hid (G.out.grown hg G.out.size (fun k e => HO.out.ge k e))
    clear ho hg hak
    go_wp2_with fail
    go_ret
    refine ⟨_, rfl, ?_, HB2.out⟩
    exact HO2.out
  · have hz := hid (show n = 0 by
      by_cases e : n = 0
      · exact e
      · obtain ⟨b, off, e2, -⟩ := hcell 0 (by rw [H2.out, ← hnn]; omega)
        rw [e2] at hb
        simp at hb)
    clear hcell hnn hb
    go_enter Try.func48, Try.ntmps48
    go_wp2_with fail
    go_ret
    exact ⟨_, rfl, ⟨by rw [H2.out, HN.out], .inl ⟨rfl, hz.out⟩⟩, Below.refl _ _⟩
end Go.Proofs.Ytahpklciafpdaaa

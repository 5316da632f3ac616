/- What the document's Write and Read of chunks answer. Conditions: what comes in reads as it should. -/
import Derived.Test.YtahpklciafpdaaaChunkMoreP
import Derived.Test.YtahpklciafpdaaaBaseD
import Derived.Test.YtahpklciafpdaaaBaseC
set_option linter.unusedSimpArgs false
set_option linter.unusedVariables false
namespace Go.Proofs.Ytahpklciafpdaaa
open Go.RowKit Go.FL

set_option maxRecDepth 20000 in
set_option maxHeartbeats 1000000 in
theorem rwrite_any (v : Value) (c : Chk) (w : World) (h : ChkAt w v c) (hs : c.b.length ≤ 140737488350000) :
    Calls Try.prog 57 #[v] w (RetOwn w 5 c.bytes) := by
  obtain ⟨s, rfl, hrd⟩ := h
  have HV := hid hrd
  obtain ⟨p, cp, rfl, hlc, hcm, hpn, hcell⟩ := hrd
  unfold maxLen at hcm
  clear hcell
  obtain ⟨kk, ff, b⟩ := c
  simp only at *
  have hbk := byte_lt kk
  have hbf := byte_lt ff
  obtain ⟨W, hW⟩ : ∃ W, W = w.alloc (.cells #[.int .u8 (kk.toNat : Int), .int .u8 (ff.toNat : Int), .slice p b.length cp] 41 (0, 0)) := ⟨_, rfl⟩
  have hr : W.heap[w.heap.size]? = some (.cells #[.int .u8 (kk.toNat : Int), .int .u8 (ff.toNat : Int), .slice p b.length cp] 41 (0, 0)) := by rw [hW]; exact heap_alloc_new w _
  have c2 : W.cell? ⟨w.heap.size, 2, none⟩ = some (.slice p b.length cp) := by simp [World.cell?, hr]
  have HW := hid (show Below w.heap.size w W by rw [hW]; exact (Below.refl _ _).alloc (Nat.le_refl _) _)
  have HVW := hid (HV.out.mono HW.out)
  have HE := hid hW
  have HSZ := hid (show W.heap.size = w.heap.size + 1 by rw [hW]; simp)
  clear hr hW
  by_cases hbig : 65531 < b.length
  · go_enter Try.func57, Try.ntmps57
    go_wp2
    go_ret
    exact ⟨_, rfl, by rw [Chk.bytes_big _ hbig]; exact Own.nil _ _ _, (Below.refl _ _).alloc (Nat.le_refl _) _⟩
  · have HBY := hid (show (⟨kk, ff, b⟩ : Chk).bytes = padded ([kk, ff] ++ beBytes 2 (4 + b.length) ++ b) by rw [Chk.bytes, if_neg hbig]; rfl)
    have HHL := hid (show ([kk, ff] ++ beBytes 2 (4 + b.length)).length = 4 by simp [beBytes_length])
    generalize hhd : [kk, ff] ++ beBytes 2 (4 + b.length) = hd at *
    have HHD := hid hhd
    clear hhd
    go_enter Try.func57, Try.ntmps57
    go_wp2_with fail
    rw [← HE.out]
    have hnew := rd_new W 5 [kk, ff] 2 _ rfl rfl (by unfold maxLen; omega)
    rw [HSZ.out] at hnew
    have HNEW := hid hnew
    clear hnew
    have HBN := hid (show Below W.heap.size W (W.alloc (.cells (bytesV [kk, ff]).toArray 5 (0, 0))) from (Below.refl _ _).alloc (Nat.le_refl _) _)
    refine (refPut_at _ [kk, ff] (4 + b.length) 2 _ _ (by omega) rfl (by omega) _ HNEW.out (by simp) (by omega)).mono ?_
    rw [HHD.out]
    rintro e w1 ⟨v1, rfl, ho1, hb1⟩
    have HO1 := hid ho1
    have G1 := hid (gr_trans HBN.out hb1)
    have d2 := cell?_of_below (gr_trans HBN.out hb1) c2
    have HS1 := hid hb1.size
    clear ho1 hb1 c2
    go_wp2_with (at_builtin; refine wpList_append_Own rfl (.tmp 20) (.tmp 22) 29 rfl _ 5 Try.underlying29 infoU8o _ _ hd b rfl HO1.out rfl (HVW.out.mono G1.out) ?hlen HS1.out ?_)
    case hlen => have := HHL.out; omega
    intro v2 w2 ho2 hg2
    have HO2 := hid ho2
    have G2 := hid (G1.out.grown hg2 (Nat.le_trans HBN.out.size HS1.out) (fun k hk => Nat.le_trans HBN.out.size (HO1.out.ge k hk)))
    have HLN := hid (show (hd ++ b).length ≤ 140737488355300 by rw [List.length_append, HHL.out]; omega)
    clear ho2 hg2
    go_wp2_with fail
    refine (refPad_any _ (hd ++ b) _ HO2.out.rd HLN.out).mono ?_
    rw [← HBY.out]
    rintro e w3 ⟨v3, rfl, ho3, hb3⟩
    have hle : w.heap.size ≤ w2.heap.size := Nat.le_trans HW.out.size G2.out.size
    go_wp2_with fail
    go_ret
    exact ⟨_, rfl, ho3.base hle, gr_trans HW.out (gr_trans G2.out hb3)⟩
end Go.Proofs.Ytahpklciafpdaaa

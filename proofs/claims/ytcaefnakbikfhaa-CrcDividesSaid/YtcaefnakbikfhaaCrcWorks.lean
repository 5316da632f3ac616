/- The anchor of the statements on crc: works answers true; all that was there stays. Conditions: none. -/
import Derived.Test.YtcaefnakbikfhaaCrcProg
import Derived.Test.YtcaefnakbikfhaaCrcRef
import Derived.Test.YtcaefnakbikfhaaRegGrow
import Derived.Test.YtcaefnakbikfhaaExt
namespace Go.Proofs.Ytcaefnakbikfhaa
open Go.RowKit Go.FL

/-- Bytes; in a block of one's own. -/
def IsNew (B : Nat) (l : List UInt8) : Value → World → Prop := fun v w => Rd w v l ∧ InOwn B w v
def IsRd (l : List UInt8) : Value → World → Prop := fun v w => Rd w v l
theorem IsRd.stab (B : Nat) (l : List UInt8) : Stab (Ext B) (IsRd l) := fun _ _ _ h k => Rd.ext h k
theorem IsNew.stab (B : Nat) (l : List UInt8) : Stab (Ext B) (IsNew B l) := fun _ _ _ h k => ⟨Rd.ext h.1 k, h.2.ext k⟩

theorem infoU8w : (Try.prog.info? 5).map (fun i => (i.zero, i.size, i.bytes)) = some (some (.int .u8 0), 1, 1) := by kernel_rfl

theorem crc_nine : (crcExt (crcExt 0#32 [49, 50, 51, 52]) [53, 54, 55, 56, 57]).toNat = 3808858755 := by decide +kernel
theorem crc_none : (crcExt 0#32 []).toNat = 0 := by decide +kernel

def worksFacts (B : Nat) : List (Value → World → Prop) := [IsRd (List.replicate 12 0), Is (.int .u32 ((crcExt 0#32 (List.replicate 12 0)).toNat : Int)), IsRd (List.replicate 12 0), Is (.int .u32 ((crcExt 0#32 (List.replicate 12 0)).toNat : Int)),
  Is (.bool true), Is (.bool true), IsNew B [49, 50, 51, 52], IsRd [49, 50, 51, 52], Is (.int .u32 ((crcExt 0#32 [49, 50, 51, 52]).toNat : Int)), IsNew B [53, 54, 55, 56, 57], IsRd [53, 54, 55, 56, 57],
  Is (.int .u32 3808858755), Is (.bool true), Is (.bool true), Is (.bool true), Is (.int .u32 0), Is (.bool true), Is (.bool true), Is (.bool true)]

set_option maxRecDepth 20000 in
set_option maxHeartbeats 400000 in
theorem works_any (w : World) : Calls Try.prog 9 #[] w (Gives w (.bool true)) := by
  go_enter Try.func9, Try.ntmps9
  go_wp2_with fail
  refine wp_region_grow (S := factAt (worksFacts w.heap.size)) (R := Ext w.heap.size) (by kernel_rfl) (by kernel_rfl) (by kernel_rfl) (Ext.refl _) (fun _ _ _ => Ext.trans) (Ext.drew _) ?_ ?_ ?_
  · refine factAt_stab ?_
    simp only [worksFacts, StabAll, Is.stab, IsRd.stab, IsNew.stab, and_self]
  · rename_i Kk hKk; clear hKk Kk
    simp only [AllOps, List.map_cons, List.map_nil, depsOf, List.filterMap_cons, List.filterMap_nil, Region.binds, depFacts, guardF, reduceIte, List.getD_eq_getElem?_getD, List.getElem?_cons_succ, List.getElem?_cons_zero, Option.getD_some, factAt, worksFacts, Is, IsRd, IsNew, and_true]
    have hmk : ∀ wx : World, (Instr.makeSlice 22 (.int .i64 12) (.int .i64 12)).run Try.prog wx = .ok (.slice (some ⟨wx.heap.size, 0, none⟩) 12 12) (wx.alloc (.cells (bytesV (List.replicate 12 0)).toArray 5 (0, 0))) := fun wx => run_make_u8 22 5 Try.underlying22 infoU8w .i64 .i64 12 (by omega) wx
    refine ⟨?_, ?_, ?_, ?_, ?_, ?_, ?_, ?_, ?_, ?_, ?_, ?_, ?_, ?_, ?_, ?_, ?_, ?_, ?_⟩
    all_goals intro ρ wv hρ hR hd
    · refine opOk_val (v := .slice (some ⟨wv.heap.size, 0, none⟩) 12 12) (by simp only [execOp, hρ.const, Sem.run_bind, hmk]; rfl) ⟨rd_new wv _ _ 12 _ rfl rfl (by unfold maxLen; omega), Ext.of_gr ((Below.refl _ _).alloc (Nat.le_refl _) _) hR.1.size⟩
    · exact opOk_call hρ rfl rfl Try.func13 (by kernel_rfl) rfl (by simp) ((crcSum_any _ _ _ hd).mono fun e w' ⟨h1, h2⟩ => ⟨_, h1, rfl, h2 ▸ Ext.refl _ _⟩)
    · refine opOk_val (v := .slice (some ⟨wv.heap.size, 0, none⟩) 12 12) (by simp only [execOp, hρ.const, Sem.run_bind, hmk]; rfl) ⟨rd_new wv _ _ 12 _ rfl rfl (by unfold maxLen; omega), Ext.of_gr ((Below.refl _ _).alloc (Nat.le_refl _) _) hR.1.size⟩
    · exact opOk_call hρ rfl rfl Try.func18 (by kernel_rfl) rfl (by simp) ((refSum_any _ _ _ hd.1).mono fun e w' ⟨h1, h2⟩ => ⟨_, h1, rfl, h2 ▸ Ext.refl _ _⟩)
    · refine opOk_val (v := .bool true) (w' := wv) (by simp [execOp, go_sem, hd]) ⟨rfl, Ext.refl _ _⟩
    · exact opOk_move (.inl rfl) ⟨hd.1, Ext.refl _ _⟩
    · refine ⟨fun _ => ?_, fun hn => absurd hd hn⟩
      have hrd := rd_new wv 5 [49, 50, 51, 52] 4 _ rfl rfl (by unfold maxLen; omega)
      refine opOk_val (v := .slice (some ⟨wv.heap.size, 0, none⟩) 4 4) (by simp [execOp, go_sem, hρ.const]; rfl) ⟨⟨hrd, InOwn.new hrd (by decide) hR.1.size⟩, Ext.of_gr ((Below.refl _ _).alloc (Nat.le_refl _) _) hR.1.size⟩
    · refine ⟨fun _ => ?_, fun hn => absurd hd.2 hn⟩
      obtain ⟨w', hr, hE⟩ := run_convert_own (P := Try.prog) w.heap.size wv 22 5 Try.underlying22 Try.underlying5 _ hd.1.2
      exact opOk_val (v := ρ (.tmp 7)) (w' := w') (by simp only [execOp, Sem.run_bind, hr]; rfl) ⟨Rd.ext hd.1.1 hE, hE⟩
    · refine ⟨fun _ => ?_, fun hn => absurd hd.2.1 hn⟩
      exact opOk_call hρ rfl rfl Try.func13 (by kernel_rfl) rfl (by simp) ((crcSum_any _ _ _ hd.1).mono fun e w' ⟨h1, h2⟩ => ⟨_, h1, rfl, h2 ▸ Ext.refl _ _⟩)
    · refine ⟨fun _ => ?_, fun hn => absurd hd hn⟩
      have hrd := rd_new wv 5 [53, 54, 55, 56, 57] 5 _ rfl rfl (by unfold maxLen; omega)
      refine opOk_val (v := .slice (some ⟨wv.heap.size, 0, none⟩) 5 5) (by simp [execOp, go_sem, hρ.const]; rfl) ⟨⟨hrd, InOwn.new hrd (by decide) hR.1.size⟩, Ext.of_gr ((Below.refl _ _).alloc (Nat.le_refl _) _) hR.1.size⟩
    · refine ⟨fun _ => ?_, fun hn => absurd hd.2 hn⟩
      obtain ⟨w', hr, hE⟩ := run_convert_own (P := Try.prog) w.heap.size wv 22 5 Try.underlying22 Try.underlying5 _ hd.1.2
      exact opOk_val (v := ρ (.tmp 10)) (w' := w') (by simp only [execOp, Sem.run_bind, hr]; rfl) ⟨Rd.ext hd.1.1 hE, hE⟩
    · refine ⟨fun _ => ?_, fun hn => absurd hd.2.2.2 hn⟩
      exact opOk_call hρ rfl rfl Try.func11 (by kernel_rfl) rfl (by simp [hd.1]) ((crcExtend_any _ _ _ _ hd.2.1).mono fun e w' ⟨h1, h2⟩ => ⟨_, h1, congrArg (fun n : Nat => Value.int .u32 (n : Int)) crc_nine, h2 ▸ Ext.refl _ _⟩)
    · refine ⟨fun _ => ?_, fun hn => absurd hd.2 hn⟩
      exact opOk_val (v := .bool true) (w' := wv) (by simp [execOp, go_sem, hρ.const, hd]) ⟨rfl, Ext.refl _ _⟩
    · exact opOk_pick rfl hd.1 ⟨hd.2, Ext.refl _ _⟩
    · exact opOk_move (.inl rfl) ⟨hd.1, Ext.refl _ _⟩
    · refine ⟨fun _ => ?_, fun hn => absurd ?_ hn⟩
      · exact opOk_call hρ rfl rfl Try.func13 (by kernel_rfl) rfl (by simp [hρ.const]) ((crcSum_any _ _ _ (Rd.nil _)).mono fun e w' ⟨h1, h2⟩ => ⟨_, h1, congrArg (fun n : Nat => Value.int .u32 (n : Int)) crc_none, h2 ▸ Ext.refl _ _⟩)
      · first | exact hd.2 | exact hd.1 | exact hd.2.1 | exact hd.2.2
    · refine ⟨fun _ => ?_, fun hn => absurd ?_ hn⟩
      · exact opOk_val (v := .bool true) (w' := wv) (by simp [execOp, go_sem, hρ.const, hd]) ⟨rfl, Ext.refl _ _⟩
      · first | exact hd.2 | exact hd.1 | exact hd.2.1 | exact hd.2.2
    · exact opOk_pick rfl hd.1 ⟨hd.2, Ext.refl _ _⟩
    · exact opOk_move (.inr rfl) ⟨hd.1, Ext.refl _ _⟩
  · intro vals wv hR hall
    rename_i Kk hKk
    have h18 := hall 18 (by simp)
    simp only [factAt, worksFacts, Is, List.getD_eq_getElem?_getD, List.getElem?_cons_succ, List.getElem?_cons_zero, Option.getD_some] at h18
    refine hKk _ _ ?_
    clear hKk Kk hall
    simp only [fillFrom, Act.put, h18, List.setIfInBounds_toArray, List.set_cons_zero, List.set_cons_succ]
    go_wp2
    go_ret
    exact ⟨rfl, hR.1⟩
end Go.Proofs.Ytcaefnakbikfhaa

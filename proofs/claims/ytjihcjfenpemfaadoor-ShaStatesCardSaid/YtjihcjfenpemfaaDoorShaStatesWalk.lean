/- ShaStates: the walk of the law. Conditions: the package's tables hold what its text says. -/
import Derived.Test.YtjihcjfenpemfaaDoorShaRef3
import Derived.Test.YtjihcjfenpemfaaDoorShaEq
namespace Go.Proofs.YtjihcjfenpemfaaDoor
open Go.RowKit Go.FL

set_option maxRecDepth 20000 in
set_option maxHeartbeats 2000000 in
theorem shaStates_walk {w : World} (hlaid : ShaLaid w) {v : Value} (ls : List (List UInt8)) (hv : RowsAt w v ls) :
    Calls Tryd.prog 4 #[v] w fun e w' => e = .returned (.bool true) ∧ Below w.heap.size w w' := by
  have HL := hid hlaid
  have HV := hid hv
  obtain ⟨p, c, rfl, hlc, hcm, hcell⟩ := hv
  unfold maxLen at hcm
  have HC := hid hcell
  clear hcell hlaid
  cases hlong : longB ls
  rotate_left
  · go_enter Tryd.func4, Tryd.ntmps4
    go_wp2_with fail
    refine (long_any _ ls _ HV.out).mono ?_
    rw [hlong]
    rintro e w1 ⟨rfl, rfl⟩
    clear hlong
    go_wp2_with fail
    refine (works_any _ HL.out).mono ?_
    rintro e w' ⟨rfl, hb⟩
    go_wp2_with fail
    go_ret
    exact ⟨rfl, hb⟩
  · have hno := longB_no hlong
    have HNO := hid hno.2
    have hn50 := hno.1
    clear hno
    go_enter Tryd.func4, Tryd.ntmps4
    go_wp2_with fail
    refine (long_any _ ls _ HV.out).mono ?_
    rw [hlong]
    rintro e w1 ⟨rfl, rfl⟩
    clear hlong
    go_wp2_with fail
    refine (new_any _).mono ?_
    rintro e w1 ⟨rfl, hs1, hb1⟩
    have HS1 := hid hs1
    have G1 := hid hb1
    have hgg : w.heap.size < w1.heap.size := hs1.lt
    obtain ⟨B, hB⟩ : ∃ B, B = w1.heap.size := ⟨_, rfl⟩
    have HBE := hid hB
    rw [← hB] at hgg
    clear hs1 hb1 hB
    go_wp2_with fail
    go_loopw [4, 5] (fun va y wr => ∃ i : Nat, i ≤ ls.length ∧ y = .int .i64 (i : Int) ∧ Hid (ShaSt wr w.heap.size 42 (catN ls i)) ∧ Hid (Own wr B 5 va (catN ls i)) ∧ Hid (B ≤ wr.heap.size) ∧ Hid (Below w.heap.size w wr)) (fun _ y _ => ls.length - (intOf y).toNat)
    case atStart => exact ⟨0, Nat.zero_le _, rfl, HS1.out, Own.nil _ _ _, Nat.le_of_eq HBE.out, G1.out⟩
    case round =>
      clear HS1 G1 HBE
      obtain ⟨i, hi, rfl, hs, ho, hBw, hb⟩ := hrel
      by_cases hlt : i < ls.length
      · obtain ⟨b, off, u, rfl, hc, hr⟩ := HC.out i hlt
        have hcw := cell?_of_below hb.out hc
        obtain ⟨pu, cu, rfl, hlcu, hcmu, hpu, h5u⟩ := hr
        have HU := hid (show Rd w (.slice pu ls[i].length cu) ls[i] from ⟨pu, cu, rfl, hlcu, hcmu, hpu, h5u⟩)
        have HCC := hid hc
        have hli := HNO.out i hlt
        have hl1 := catN_le ls HNO.out i hi
        have hl2 := catN_le ls HNO.out (i + 1) hlt
        have hnx := catN_succ ls i hlt
        obtain ⟨li, hli'⟩ : ∃ li, li = ls[i] := ⟨_, rfl⟩
        rw [← hli'] at HU hli hcw hlcu HCC hnx
        have HO1 := hid (rd_old HU.out w.heap.size (Nat.le_refl _))
        have HS := hid hs.out
        have HB := hid hb.out
        have HA := hid ho.out
        have HBW := hid hBw.out
        have HNX := hid hnx
        have hm1024 : li.length ≤ 9223372036854775807 := by omega
        have hbig1 : (catN ls i).length + li.length ≤ 140737488355328 := by omega
        have heq := eqSame (catN ls (i + 1))
        obtain ⟨d, hd⟩ : ∃ d, d = shaSum (catN ls (i + 1)) := ⟨_, rfl⟩
        rw [← hd] at heq
        have HD := hid hd
        have hk1 : (catN ls (i + 1)).length < 576460752303423488 := by omega
        have hk2 : (catN ls (i + 1)).length ≤ 1048000 := by omega
        clear hs hb ho hBw h5u hpu hli' hc hnx hd
        go_wp2_with fail
        refine (write_all w.heap.size (catN ls i) li _ _ HS.out (HU.out.mono HB.out) HO1.out (HL.out.mono HB.out) (by omega)).mono ?_
        rintro e wa ⟨rfl, hsa, hga⟩
        rw [← HNX.out] at hsa
        have HSA := hid hsa
        have HOA := hid (HA.out.keep hga (fun k hk e => by have := HA.out.ge k hk; simp at e; omega))
        have HBA := hid (HB.out.trans (gb_below hga (Nat.le_refl _) HB.out.size))
        have HBWA := hid (Nat.le_trans HBW.out hga.size)
        have hcw := cell?_of_below HBA.out HCC.out
        clear hsa hga
        go_wp2_with (at_builtin; refine wpList_append_Own2 rfl (.tmp 24) (.tmp 28) 22 rfl B 5 Tryd.underlying22 infoU8s _ _ (catN ls i) li rfl HOA.out rfl (HU.out.mono HBA.out) hbig1 HBWA.out ?_)
        intro vn wb hon hgb hwh
        rw [← HNX.out] at hon
        have HON := hid hon
        have HSB := hid (HSA.out.grown hgb (fun e => by have := HOA.out.ge _ e; omega))
        have HBB := hid (show Below w.heap.size w wb from HBA.out.grown hgb HBA.out.size (fun k hk => by have := HOA.out.ge k hk; omega))
        have HBWB := hid (Nat.le_trans HBWA.out hgb.size)
        clear hon hgb hwh hcw HS HA HB HBW HSA HOA HBA HBWA
        go_wp2_with fail
        refine (shaSum_any w.heap.size (catN ls (i + 1)) _ HSB.out (HL.out.mono HBB.out) hk1).mono ?_
        rw [← HD.out]
        rintro e wc ⟨rfl, hbc⟩
        have GC := hid hbc
        have HBC := hid (gr_trans HBB.out hbc)
        clear hbc
        go_wp2_with fail
        refine (refSum_any _ (catN ls (i + 1)) _ (HON.out.mono GC.out).rd hk2).mono ?_
        rw [← HD.out]
        rintro e wd ⟨rfl, hbd⟩
        have GD := hid (gr_trans GC.out hbd)
        have HBD := hid (gr_trans HBC.out hbd)
        have HSD := hid (HSB.out.mono GD.out)
        have HOD := hid (HON.out.mono GD.out)
        have HBWD := hid (Nat.le_trans HBWB.out GD.out.size)
        clear hbd
        go_wp2
        go_roundw
        case rel => exact ⟨i + 1, by omega, by go_num, HSD.out, HOD.out, HBWD.out, HBD.out⟩
        case measure => simp [intOf]; omega
      · obtain rfl : i = ls.length := by omega
        have hl1 := catN_le ls HNO.out ls.length (Nat.le_refl _)
        have HS := hid hs.out
        have HB := hid hb.out
        have HA := hid ho.out
        have heq := eqSame (catN ls ls.length)
        obtain ⟨d, hd⟩ : ∃ d, d = shaSum (catN ls ls.length) := ⟨_, rfl⟩
        rw [← hd] at heq
        have HD := hid hd
        have hk1 : (catN ls ls.length).length < 576460752303423488 := by omega
        have hk2 : (catN ls ls.length).length ≤ 1048000 := by omega
        clear hs hb ho hBw hd hl1
        go_wp2_with fail
        refine (shaSum_any w.heap.size (catN ls ls.length) _ HS.out (HL.out.mono HB.out) hk1).mono ?_
        rw [← HD.out]
        rintro e wa ⟨rfl, hba⟩
        have GA := hid hba
        have HBA := hid (gr_trans HB.out hba)
        clear hba
        go_wp2_with fail
        refine (refSum_any _ (catN ls ls.length) _ (HA.out.mono GA.out).rd hk2).mono ?_
        rw [← HD.out]
        rintro e wb ⟨rfl, hbb⟩
        have HBB := hid (gr_trans HBA.out hbb)
        clear hbb
        go_wp2_with fail
        refine (works_any _ (HL.out.mono HBB.out)).mono ?_
        rintro e wc ⟨rfl, hbc⟩
        go_wp2_with fail
        go_ret
        exact ⟨rfl, gr_trans HBB.out hbc⟩
end Go.Proofs.YtjihcjfenpemfaaDoor

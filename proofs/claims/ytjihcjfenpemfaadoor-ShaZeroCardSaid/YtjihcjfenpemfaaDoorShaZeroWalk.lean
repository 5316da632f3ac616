/- ShaZero: the walk of the law. Conditions: the package's tables hold what its text says. -/
import Derived.Test.YtjihcjfenpemfaaDoorShaEq
namespace Go.Proofs.YtjihcjfenpemfaaDoor
open Go.RowKit Go.FL

set_option maxRecDepth 20000 in
set_option maxHeartbeats 1000000 in
theorem shaZero_walk {w : World} (hlaid : ShaLaid w) {v : Value} (ls : List (List UInt8)) (hv : RowsAt w v ls) :
    Calls Tryd.prog 8 #[v] w fun e w' => e = .returned (.bool true) ∧ Below w.heap.size w w' := by
  have HL := hid hlaid
  have HV := hid hv
  obtain ⟨p, c, rfl, hlc, hcm, hcell⟩ := hv
  unfold maxLen at hcm
  have HC := hid hcell
  have hzs := zeroState
  clear hcell hlaid
  cases hlong : longB ls
  rotate_left
  · go_enter Tryd.func8, Tryd.ntmps8
    go_wp2_with fail
    refine (long_any _ ls _ HV.out).mono ?_
    rw [hlong]
    rintro e w1 ⟨rfl, rfl⟩
    go_wp2_with fail
    refine (works_any _ HL.out).mono ?_
    rintro e w' ⟨rfl, hb⟩
    go_wp2_with fail
    go_ret
    exact ⟨rfl, hb⟩
  · have hno := longB_no hlong
    have HNO := hid hno.2
    have hn50 := hno.1
    clear hno
    have GA := hid (show Below w.heap.size w (w.alloc (.cells zeroStL.toArray 42 (0, 0))) from (Below.refl _ _).alloc (Nat.le_refl _) _)
    have HS1 := hid (show ShaSt (w.alloc (.cells zeroStL.toArray 42 (0, 0))) w.heap.size 42 [] from ⟨false, _, _, RowV.new w 42 zeroStL, stOk_zero⟩)
    obtain ⟨d0, hd0⟩ : ∃ d0, d0 = shaSum [] := ⟨_, rfl⟩
    have heq := eqSame []
    rw [← hd0] at heq
    have HD0 := hid hd0
    clear hd0
    go_enter Tryd.func8, Tryd.ntmps8
    go_wp2_with fail
    refine (long_any _ ls _ HV.out).mono ?_
    rw [hlong]
    rintro e w1 ⟨rfl, rfl⟩
    clear hlong
    go_wp2_with fail
    refine (new_any _).mono ?_
    rintro e w1 ⟨rfl, hs2, hb1⟩
    rw [show (w.alloc (.cells zeroStL.toArray 42 (0, 0))).heap.size = w.heap.size + 1 by simp] at hs2 ⊢
    have HS11 := hid (HS1.out.mono hb1)
    have HS2 := hid hs2
    have G1 := hid (gr_trans GA.out hb1)
    clear hs2 hb1
    go_wp2_with fail
    refine (shaSum_any w.heap.size [] _ HS11.out (HL.out.mono G1.out) (by decide)).mono ?_
    rw [← HD0.out]
    rintro e w2 ⟨rfl, hb2⟩
    have HS12 := hid (HS11.out.mono hb2)
    have HS22 := hid (HS2.out.mono hb2)
    have G2 := hid (gr_trans G1.out hb2)
    clear hb2
    go_wp2_with fail
    refine (shaOf_any _ [] _ (Rd.nil _) (HL.out.mono G2.out) (by decide)).mono ?_
    rw [← HD0.out]
    rintro e w3 ⟨rfl, hb3⟩
    have HS13 := hid (HS12.out.mono hb3)
    have HS23 := hid (HS22.out.mono hb3)
    have G3 := hid (gr_trans G2.out hb3)
    clear hb3
    go_wp2_with fail
    refine (shaSum_any (w.heap.size + 1) [] _ HS23.out (HL.out.mono G3.out) (by decide)).mono ?_
    rw [← HD0.out]
    rintro e w4 ⟨rfl, hb4⟩
    have HS14 := hid (HS13.out.mono hb4)
    have HS24 := hid (HS23.out.mono hb4)
    have G4 := hid (gr_trans G3.out hb4)
    clear hb4
    go_wp2_with fail
    refine (shaOf_any _ [] _ (Rd.nil _) (HL.out.mono G4.out) (by decide)).mono ?_
    rw [← HD0.out]
    rintro e w5 ⟨rfl, hb5⟩
    have HS15 := hid (HS14.out.mono hb5)
    have HS25 := hid (HS24.out.mono hb5)
    have G5 := hid (gr_trans G4.out hb5)
    clear hb5 hzs
    go_wp2_with fail
    clear heq
    go_loopw [5] (fun y wr => ∃ i : Nat, i ≤ ls.length ∧ y = .int .i64 (i : Int) ∧ Hid (ShaSt wr w.heap.size 42 (catN ls i)) ∧ Hid (ShaSt wr (w.heap.size + 1) 42 (catN ls i)) ∧ Hid (Below w.heap.size w wr)) (fun y _ => ls.length - (intOf y).toNat)
    case atStart => exact ⟨0, Nat.zero_le _, rfl, HS15.out, HS25.out, G5.out⟩
    case round =>
      clear HS1 HS11 HS2 HS12 HS22 HS13 HS23 HS14 HS24 HS15 HS25 G5 G4 G3 G2 G1 GA
      obtain ⟨i, hi, rfl, hs1, hs2, hb⟩ := hrel
      by_cases hlt : i < ls.length
      · obtain ⟨b, off, u, rfl, hc, hr⟩ := HC.out i hlt
        have hcw := cell?_of_below hb.out hc
        have HCC := hid hc
        obtain ⟨pu, cu, rfl, hlcu, hcmu, hpu, h5u⟩ := hr
        have HU := hid (show Rd w (.slice pu ls[i].length cu) ls[i] from ⟨pu, cu, rfl, hlcu, hcmu, hpu, h5u⟩)
        clear h5u hpu
        have hli := HNO.out i hlt
        have hcl := catN_le ls HNO.out i hi
        have hsu := catN_succ ls i hlt
        obtain ⟨li, hli'⟩ : ∃ li, li = ls[i] := ⟨_, rfl⟩
        rw [← hli'] at HU hli hsu hcw hlcu HCC
        have HU' := hid (HU.out.mono hb.out)
        have ho1 := rd_old HU.out w.heap.size (Nat.le_refl _)
        have ho2 := rd_old HU.out (w.heap.size + 1) (Nat.le_succ _)
        have HSU := hid hsu
        have HS1 := hid hs1.out
        have HS2 := hid hs2.out
        have HB := hid hb.out
        have HO1 := hid ho1
        have HO2 := hid ho2
        have HLI := hid hli'
        have hlen2 : (catN ls i).length + li.length < 576460752303423488 := by omega
        obtain ⟨dn, hdn⟩ : ∃ dn, dn = shaSum (catN ls (i + 1)) := ⟨_, rfl⟩
        have heq := eqSame (catN ls (i + 1))
        rw [← hdn] at heq
        have HDN := hid hdn
        clear hdn
        have hm1024 : li.length ≤ 9223372036854775807 := by omega
        clear hs1 hs2 hb hsu ho1 ho2 hli' hc hcl
        go_wp2_with fail
        refine (write_all w.heap.size (catN ls i) li _ _ HS1.out HU'.out HO1.out (HL.out.mono HB.out) (by omega)).mono ?_
        rintro e w1 ⟨rfl, hs1, hg1⟩
        rw [← HSU.out] at hs1
        have HS11 := hid hs1
        have HS21 := hid (HS2.out.grown hg1 (by simp))
        have HB1 := hid (HB.out.trans (gb_below hg1 (Nat.le_refl _) HB.out.size))
        have hcw := cell?_of_below HB1.out HCC.out
        clear hs1 hg1
        go_wp2_with fail
        refine (write_all (w.heap.size + 1) (catN ls i) li _ _ HS21.out (HU.out.mono HB1.out) HO2.out (HL.out.mono HB1.out) (by omega)).mono ?_
        rintro e w2 ⟨rfl, hs2, hg2⟩
        rw [← HSU.out] at hs2
        have HS12 := hid (HS11.out.grown hg2 (by simp))
        have HS22 := hid hs2
        have HB2 := hid (HB1.out.trans (gb_below hg2 (Nat.le_succ _) HB1.out.size))
        clear hs2 hg2 hcw
        have hcl2 : (catN ls (i + 1)).length < 576460752303423488 := by rw [HSU.out, List.length_append]; exact hlen2
        go_wp2_with fail
        refine (shaSum_any w.heap.size (catN ls (i + 1)) _ HS12.out (HL.out.mono HB2.out) hcl2).mono ?_
        rw [← HDN.out]
        rintro e w3 ⟨rfl, hb3⟩
        have HS13 := hid (HS12.out.mono hb3)
        have HS23 := hid (HS22.out.mono hb3)
        have HB3 := hid (gr_trans HB2.out hb3)
        clear hb3
        go_wp2_with fail
        refine (shaSum_any (w.heap.size + 1) (catN ls (i + 1)) _ HS23.out (HL.out.mono HB3.out) hcl2).mono ?_
        rw [← HDN.out]
        rintro e w4 ⟨rfl, hb4⟩
        have HS14 := hid (HS13.out.mono hb4)
        have HS24 := hid (HS23.out.mono hb4)
        have HB4 := hid (gr_trans HB3.out hb4)
        clear hb4 hcl2
        go_wp2_with fail
        go_roundw
        case rel => exact ⟨i + 1, by omega, by go_num, HS14.out, HS24.out, HB4.out⟩
        case measure => simp [intOf]; omega
      · obtain rfl : i = ls.length := by omega
        have HB := hid hb.out
        clear hs1 hs2 hb
        go_wp2_with fail
        refine (works_any _ (HL.out.mono HB.out)).mono ?_
        rintro e w1 ⟨rfl, hb1⟩
        go_wp2_with fail
        go_ret
        exact ⟨rfl, gr_trans HB.out hb1⟩
end Go.Proofs.YtjihcjfenpemfaaDoor

/- ShaTwo: the walk of the law. Conditions: the package's tables hold what its text says. -/
import Derived.Test.YtjihcjfenpemfaaDoorShaEq
import Derived.Test.YtjihcjfenpemfaaDoorBoolRow
import Derived.Test.YtjihcjfenpemfaaDoorMem2
namespace Go.FL
/-- The rows that are chosen, of the first i, one behind the other. -/
def pickN (ls : List (List UInt8)) (ts : List Bool) (yes : Bool) : Nat → List UInt8
  | 0 => []
  | i + 1 => if ts.getD i false = yes then pickN ls ts yes i ++ ls.getD i [] else pickN ls ts yes i
theorem pickN_le (ls : List (List UInt8)) (ts : List Bool) (yes : Bool) (hs : ∀ i (hi : i < ls.length), ls[i].length ≤ 1024) : ∀ i, i ≤ ls.length → (pickN ls ts yes i).length ≤ 1024 * i
  | 0, _ => by simp [pickN]
  | i + 1, h => by
    have h1 := pickN_le ls ts yes hs i (by omega)
    have h2 := hs i (by omega)
    have h3 : ls.getD i [] = ls[i] := by simp [List.getD, show i < ls.length by omega]
    rw [pickN]
    split
    · rw [List.length_append, h3]; omega
    · omega
end Go.FL
namespace Go.Proofs.YtjihcjfenpemfaaDoor
open Go.RowKit Go.FL

theorem infoU8t : (Tryd.prog.info? 5).map (fun i => (i.zero, i.size, i.bytes)) = some (some (.int .u8 0), 1, 1) := by kernel_rfl

set_option maxRecDepth 20000 in
set_option maxHeartbeats 2000000 in
theorem shaTwo_walk {w : World} (hlaid : ShaLaid w) {v : Value} (ls : List (List UInt8)) (hv : RowsAt w v ls) {u : Value} (ts : List Bool) (hu : BoolsAt w u ts) :
    Calls Tryd.prog 7 #[v, u] w fun e w' => e = .returned (.bool true) ∧ Below w.heap.size w w' := by
  have HL := hid hlaid
  have HV := hid hv
  obtain ⟨p, c, rfl, hlc, hcm, hcell⟩ := hv
  unfold maxLen at hcm
  have HC := hid hcell
  obtain ⟨pt, ct, rfl, hlt0, hct, htc⟩ := hu
  unfold maxLen at hct
  have HT := hid htc
  clear hcell htc hlaid
  cases hlong : longB ls
  rotate_left
  · go_enter Tryd.func7, Tryd.ntmps7
    go_wp2_with fail
    refine (long_any _ ls _ HV.out).mono ?_
    rw [hlong]
    rintro e w1 ⟨rfl, rfl⟩
    clear hlong
    go_wp2_with fail
    refine (works_any _ HL.out).mono ?_
    rintro e w' ⟨rfl, hb⟩
    go_wp2_with fail
    go_ret
    exact ⟨rfl, hb⟩
  · have hno := longB_no hlong
    have HNO := hid hno.2
    have hn50 := hno.1
    clear hno
    by_cases ht50 : 50 < ts.length
    · go_enter Tryd.func7, Tryd.ntmps7
      go_wp2_with fail
      refine (long_any _ ls _ HV.out).mono ?_
      rw [hlong]
      rintro e w1 ⟨rfl, rfl⟩
      clear hlong
      go_wp2_with fail
      refine (works_any _ HL.out).mono ?_
      rintro e w' ⟨rfl, hb⟩
      go_wp2_with fail
      go_ret
      exact ⟨rfl, hb⟩
    · go_enter Tryd.func7, Tryd.ntmps7
      go_wp2_with fail
      refine (long_any _ ls _ HV.out).mono ?_
      rw [hlong]
      rintro e w1 ⟨rfl, rfl⟩
      clear hlong
      go_wp2_with fail
      refine (new_any _).mono ?_
      rintro e w1 ⟨rfl, hs1, hb1⟩
      have HS1 := hid hs1
      have G1 := hid hb1
      clear hs1 hb1
      go_wp2_with fail
      refine (new_any _).mono ?_
      rintro e w2 ⟨rfl, hs2, hb2⟩
      have HS12 := hid (HS1.out.mono hb2)
      have HS22 := hid hs2
      have G2 := hid (gr_trans G1.out hb2)
      have hgg : w.heap.size < w1.heap.size := HS1.out.lt
      have HG1 := hid G1.out.size
      clear hs2 hb2
      obtain ⟨g2, hg2⟩ : ∃ g2, g2 = w1.heap.size := ⟨_, rfl⟩
      rw [← hg2] at HS22 hgg HG1 ⊢
      have HGE := hid hg2
      clear hg2
      have B2 : g2 < w2.heap.size := HS22.out.lt
      obtain ⟨B, hB⟩ : ∃ B, B = w2.heap.size := ⟨_, rfl⟩
      have HBE := hid hB
      rw [← hB] at B2
      clear hB
      go_wp2_with fail
      go_loopw [7, 8, 9] (fun va vb y wr => ∃ i : Nat, i ≤ ls.length ∧ y = .int .i64 (i : Int) ∧ Hid (ShaSt wr w.heap.size 42 (pickN ls ts true i)) ∧ Hid (ShaSt wr g2 42 (pickN ls ts false i)) ∧ Hid (Own wr B 5 va (pickN ls ts true i)) ∧ Hid (Own wr B 5 vb (pickN ls ts false i)) ∧ Hid (∀ k, va.ownBlock = some k → vb.ownBlock ≠ some k) ∧ Hid (B ≤ wr.heap.size) ∧ Hid (Below w.heap.size w wr)) (fun _ _ y _ => ls.length - (intOf y).toNat)
      case atStart => exact ⟨0, Nat.zero_le _, rfl, HS12.out, HS22.out, Own.nil _ _ _, Own.nil _ _ _, fun k hk => by simp [Value.ownBlock] at hk, Nat.le_of_eq HBE.out, G2.out⟩
      case round =>
        clear HS1 HS12 HS22 G1 G2 HGE HBE
        obtain ⟨i, hi, rfl, hs1, hs2, ho1, ho2, hne, hBw, hb⟩ := hrel
        by_cases hlt : i < ls.length
        · obtain ⟨b, off, u, rfl, hc, hr⟩ := HC.out i hlt
          have hcw := cell?_of_below hb.out hc
          obtain ⟨pu, cu, rfl, hlcu, hcmu, hpu, h5u⟩ := hr
          have HU := hid (show Rd w (.slice pu ls[i].length cu) ls[i] from ⟨pu, cu, rfl, hlcu, hcmu, hpu, h5u⟩)
          have HCC := hid hc
          have hli := HNO.out i hlt
          have hl1 := pickN_le ls ts true HNO.out i hi
          have hl2 := pickN_le ls ts false HNO.out i hi
          have hgd : ls.getD i [] = ls[i] := by simp [List.getD, hlt]
          have hp1 : pickN ls ts true (i + 1) = if ts.getD i false = true then pickN ls ts true i ++ ls.getD i [] else pickN ls ts true i := rfl
          have hp2 : pickN ls ts false (i + 1) = if ts.getD i false = false then pickN ls ts false i ++ ls.getD i [] else pickN ls ts false i := rfl
          rw [hgd] at hp1 hp2
          obtain ⟨li, hli'⟩ : ∃ li, li = ls[i] := ⟨_, rfl⟩
          rw [← hli'] at HU hli hcw hlcu HCC hp1 hp2
          have ho1' := rd_old HU.out w.heap.size (Nat.le_refl _)
          have ho2' := rd_old HU.out g2 (by omega)
          have HO1 := hid ho1'
          have HO2 := hid ho2'
          have HS1 := hid hs1.out
          have HS2 := hid hs2.out
          have HB := hid hb.out
          have HA := hid ho1.out
          have HBO := hid ho2.out
          have HNE := hid hne.out
          have HBW := hid hBw.out
          have HLI := hid hli'
          have hm1024 : li.length ≤ 9223372036854775807 := by omega
          have hbig1 : (pickN ls ts true i).length + li.length ≤ 140737488355328 := by omega
          have hbig2 : (pickN ls ts false i).length + li.length ≤ 140737488355328 := by omega
          clear hs1 hs2 hb ho1 ho2 ho1' ho2' hne hBw h5u hpu hgd hli' hc
          by_cases hit : i < ts.length
          · obtain ⟨bt, offt, rfl, hct⟩ := HT.out i hit
            have hgt : ts.getD i false = ts[i] := by simp [List.getD, hit]
            rw [hgt] at hp1 hp2
            have htw := cell?_of_below HB.out hct
            clear hct hgt
            cases hti : ts[i]
            · rw [hti] at hp1 hp2 htw
              rw [if_neg (by decide)] at hp1
              rw [if_pos rfl] at hp2
              clear hti
              have HP1 := hid hp2
              have HP2 := hid hp1
              clear hp1 hp2
              go_wp2_with fail
              refine (write_all g2 (pickN ls ts false i) li _ _ HS2.out (HU.out.mono HB.out) HO2.out (HL.out.mono HB.out) (by omega)).mono ?_
              rintro e wa ⟨rfl, hsa, hga⟩
              rw [← HP1.out] at hsa
              have HSA := hid hsa
              have HSB := hid (HS1.out.grown hga (by simp; omega))
              have HOA := hid (HBO.out.keep hga (fun k hk e => by have := HBO.out.ge k hk; simp at e; omega))
              have HOB := hid (HA.out.keep hga (fun k hk e => by have := HA.out.ge k hk; simp at e; omega))
              have HBA := hid (HB.out.trans (gb_below hga (by omega) HB.out.size))
              have hsz := hga.size
              have HBWA := hid (Nat.le_trans HBW.out hsz)
              have hcw := cell?_of_below HBA.out HCC.out
              clear hsa hga hsz
              go_wp2_with (at_builtin; refine wpList_append_Own2 rfl (.tmp 60) (.tmp 64) 22 rfl B 5 Tryd.underlying22 infoU8t _ _ (pickN ls ts false i) li rfl HOA.out rfl (HU.out.mono HBA.out) hbig2 HBWA.out ?_)
              intro vn wb hon hgb hwh
              rw [← HP1.out] at hon
              have HON := hid hon
              have HOB2 := hid (HOB.out.keep hgb (fun k hk e => HNE.out k hk e))
              have HSA2 := hid (HSA.out.grown hgb (fun e => by have := HOA.out.ge _ e; omega))
              have HSB2 := hid (HSB.out.grown hgb (fun e => by have := HOA.out.ge _ e; omega))
              have HBB := hid (show Below w.heap.size w wb from HBA.out.grown hgb HBA.out.size (fun k hk => by have := HOA.out.ge k hk; omega))
              have HBWB := hid (Nat.le_trans HBWA.out hgb.size)
              have HNE2 := hid (show ∀ k, vn.ownBlock = some k → u7.ownBlock ≠ some k from fun k hk hk2 => by
                rcases hwh with h | h
                · exact HNE.out k hk2 (h ▸ hk)
                · rw [h] at hk
                  cases hk
                  have := (HOB.out).arow
                  obtain ⟨r, hr1, _, _, hr2⟩ := this
                  have hrr : r.g = some wa.heap.size := by rw [← hr1] at hk2; obtain ⟨g, l, s⟩ := r; cases g <;> simp [ARow.val, Value.ownBlock] at hk2 ⊢; exact hk2
                  have := (hr2 _ hrr).2
                  omega)
              clear hon hgb hwh hcw
              go_wp2
              go_roundw
              case rel => exact ⟨i + 1, by omega, by go_num, by rw [HP2.out]; exact HSB2.out, HSA2.out, by rw [HP2.out]; exact HOB2.out, HON.out, fun k hk hk2 => HNE2.out k hk2 hk, HBWB.out, HBB.out⟩
              case measure => simp [intOf]; omega
            · rw [hti] at hp1 hp2 htw
              rw [if_neg (by decide)] at hp2
              rw [if_pos rfl] at hp1
              clear hti
              have HP1 := hid hp1
              have HP2 := hid hp2
              clear hp1 hp2
              go_wp2_with fail
              refine (write_all w.heap.size (pickN ls ts true i) li _ _ HS1.out (HU.out.mono HB.out) HO1.out (HL.out.mono HB.out) (by omega)).mono ?_
              rintro e wa ⟨rfl, hsa, hga⟩
              rw [← HP1.out] at hsa
              have HSA := hid hsa
              have HSB := hid (HS2.out.grown hga (by simp; omega))
              have HOA := hid (HA.out.keep hga (fun k hk e => by have := HA.out.ge k hk; simp at e; omega))
              have HOB := hid (HBO.out.keep hga (fun k hk e => by have := HBO.out.ge k hk; simp at e; omega))
              have HBA := hid (HB.out.trans (gb_below hga (Nat.le_refl _) HB.out.size))
              have hsz := hga.size
              have HBWA := hid (Nat.le_trans HBW.out hsz)
              have hcw := cell?_of_below HBA.out HCC.out
              clear hsa hga hsz
              go_wp2_with (at_builtin; refine wpList_append_Own2 rfl (.tmp 48) (.tmp 52) 22 rfl B 5 Tryd.underlying22 infoU8t _ _ (pickN ls ts true i) li rfl HOA.out rfl (HU.out.mono HBA.out) hbig1 HBWA.out ?_)
              intro vn wb hon hgb hwh
              rw [← HP1.out] at hon
              have HON := hid hon
              have HOB2 := hid (HOB.out.keep hgb (fun k hk e => HNE.out k e hk))
              have HSA2 := hid (HSA.out.grown hgb (fun e => by have := HOA.out.ge _ e; omega))
              have HSB2 := hid (HSB.out.grown hgb (fun e => by have := HOA.out.ge _ e; omega))
              have HBB := hid (show Below w.heap.size w wb from HBA.out.grown hgb HBA.out.size (fun k hk => by have := HOA.out.ge k hk; omega))
              have HBWB := hid (Nat.le_trans HBWA.out hgb.size)
              have HNE2 := hid (show ∀ k, vn.ownBlock = some k → u8.ownBlock ≠ some k from fun k hk hk2 => by
                rcases hwh with h | h
                · exact HNE.out k (h ▸ hk) hk2
                · rw [h] at hk
                  cases hk
                  have := (HOB.out).arow
                  obtain ⟨r, hr1, _, _, hr2⟩ := this
                  have hrr : r.g = some wa.heap.size := by rw [← hr1] at hk2; obtain ⟨g, l, s⟩ := r; cases g <;> simp [ARow.val, Value.ownBlock] at hk2 ⊢; exact hk2
                  have := (hr2 _ hrr).2
                  omega)
              clear hon hgb hwh hcw
              go_wp2
              go_roundw
              case rel => exact ⟨i + 1, by omega, by go_num, HSA2.out, by rw [HP2.out]; exact HSB2.out, HON.out, by rw [HP2.out]; exact HOB2.out, HNE2.out, HBWB.out, HBB.out⟩
              case measure => simp [intOf]; omega
          · have hgt : ts.getD i false = false := by simp [List.getD, hit]
            rw [hgt] at hp1 hp2
            rw [if_neg (by decide)] at hp1
            rw [if_pos rfl] at hp2
            clear hgt
            have HP1 := hid hp2
            have HP2 := hid hp1
            clear hp1 hp2
            go_wp2_with fail
            refine (write_all g2 (pickN ls ts false i) li _ _ HS2.out (HU.out.mono HB.out) HO2.out (HL.out.mono HB.out) (by omega)).mono ?_
            rintro e wa ⟨rfl, hsa, hga⟩
            rw [← HP1.out] at hsa
            have HSA := hid hsa
            have HSB := hid (HS1.out.grown hga (by simp; omega))
            have HOA := hid (HBO.out.keep hga (fun k hk e => by have := HBO.out.ge k hk; simp at e; omega))
            have HOB := hid (HA.out.keep hga (fun k hk e => by have := HA.out.ge k hk; simp at e; omega))
            have HBA := hid (HB.out.trans (gb_below hga (by omega) HB.out.size))
            have hsz := hga.size
            have HBWA := hid (Nat.le_trans HBW.out hsz)
            have hcw := cell?_of_below HBA.out HCC.out
            clear hsa hga hsz
            go_wp2_with (at_builtin; refine wpList_append_Own2 rfl (.tmp 60) (.tmp 64) 22 rfl B 5 Tryd.underlying22 infoU8t _ _ (pickN ls ts false i) li rfl HOA.out rfl (HU.out.mono HBA.out) hbig2 HBWA.out ?_)
            intro vn wb hon hgb hwh
            rw [← HP1.out] at hon
            have HON := hid hon
            have HOB2 := hid (HOB.out.keep hgb (fun k hk e => HNE.out k hk e))
            have HSA2 := hid (HSA.out.grown hgb (fun e => by have := HOA.out.ge _ e; omega))
            have HSB2 := hid (HSB.out.grown hgb (fun e => by have := HOA.out.ge _ e; omega))
            have HBB := hid (show Below w.heap.size w wb from HBA.out.grown hgb HBA.out.size (fun k hk => by have := HOA.out.ge k hk; omega))
            have HBWB := hid (Nat.le_trans HBWA.out hgb.size)
            have HNE2 := hid (show ∀ k, vn.ownBlock = some k → u7.ownBlock ≠ some k from fun k hk hk2 => by
              rcases hwh with h | h
              · exact HNE.out k hk2 (h ▸ hk)
              · rw [h] at hk
                cases hk
                have := (HOB.out).arow
                obtain ⟨r, hr1, _, _, hr2⟩ := this
                have hrr : r.g = some wa.heap.size := by rw [← hr1] at hk2; obtain ⟨g, l, s⟩ := r; cases g <;> simp [ARow.val, Value.ownBlock] at hk2 ⊢; exact hk2
                have := (hr2 _ hrr).2
                omega)
            clear hon hgb hwh hcw
            go_wp2
            go_roundw
            case rel => exact ⟨i + 1, by omega, by go_num, by rw [HP2.out]; exact HSB2.out, HSA2.out, by rw [HP2.out]; exact HOB2.out, HON.out, fun k hk hk2 => HNE2.out k hk2 hk, HBWB.out, HBB.out⟩
            case measure => simp [intOf]; omega
        · obtain rfl : i = ls.length := by omega
          have hl1 := pickN_le ls ts true HNO.out ls.length (Nat.le_refl _)
          have hl2 := pickN_le ls ts false HNO.out ls.length (Nat.le_refl _)
          have HS1 := hid hs1.out
          have HS2 := hid hs2.out
          have HB := hid hb.out
          have HA := hid ho1.out
          have HBO := hid ho2.out
          have k1 : (pickN ls ts true ls.length).length < 576460752303423488 := by omega
          have k2 : (pickN ls ts false ls.length).length < 576460752303423488 := by omega
          have heq1 := eqSame (pickN ls ts true ls.length)
          have heq2 := eqSame (pickN ls ts false ls.length)
          obtain ⟨d1, hd1⟩ : ∃ d1, d1 = shaSum (pickN ls ts true ls.length) := ⟨_, rfl⟩
          obtain ⟨d2, hd2⟩ : ∃ d2, d2 = shaSum (pickN ls ts false ls.length) := ⟨_, rfl⟩
          rw [← hd1] at heq1
          rw [← hd2] at heq2
          have HD1 := hid hd1
          have HD2 := hid hd2
          clear hs1 hs2 hb ho1 ho2 hne hBw hl1 hl2 hd1 hd2
          go_wp2_with fail
          refine (shaSum_any w.heap.size (pickN ls ts true ls.length) _ HS1.out (HL.out.mono HB.out) k1).mono ?_
          rw [← HD1.out]
          rintro e wa ⟨rfl, hba⟩
          have GA := hid hba
          clear hba
          go_wp2_with fail
          refine (shaOf_any _ (pickN ls ts true ls.length) _ (HA.out.mono GA.out).rd (HL.out.mono (gr_trans HB.out GA.out)) k1).mono ?_
          rw [← HD1.out]
          rintro e wb ⟨rfl, hbb⟩
          have GB := hid (gr_trans GA.out hbb)
          clear hbb
          go_wp2_with fail
          refine (shaSum_any g2 (pickN ls ts false ls.length) _ (HS2.out.mono GB.out) (HL.out.mono (gr_trans HB.out GB.out)) k2).mono ?_
          rw [← HD2.out]
          rintro e wc ⟨rfl, hbc⟩
          have GC := hid (gr_trans GB.out hbc)
          clear hbc
          go_wp2_with fail
          refine (shaOf_any _ (pickN ls ts false ls.length) _ (HBO.out.mono GC.out).rd (HL.out.mono (gr_trans HB.out GC.out)) k2).mono ?_
          rw [← HD2.out]
          rintro e wd ⟨rfl, hbd⟩
          have GD := hid (gr_trans HB.out (gr_trans GC.out hbd))
          clear hbd
          go_wp2_with fail
          refine (works_any _ (HL.out.mono GD.out)).mono ?_
          rintro e we ⟨rfl, hbe⟩
          go_wp2_with fail
          go_ret
          exact ⟨rfl, gr_trans GD.out hbe⟩
end Go.Proofs.YtjihcjfenpemfaaDoor

/- MacKeys: the walk of the law. Conditions: the tables of sha hold what its text says. -/
import Derived.Test.YtcjkhhhinjknhaaDoorMacWorks
import Derived.Test.YtcjkhhhinjknhaaDoorRegGr
import Derived.Test.YtcjkhhhinjknhaaDoorCopy
import Derived.OpenShut
namespace Go.Proofs.YtcjkhhhinjknhaaDoor
open Go.RowKit Go.FL Go.ChangeShapes

set_option maxRecDepth 100000 in
set_option maxHeartbeats 4000000 in
theorem macKeys_walk {w : World} (hlaid : ShaLaid w) {v : Value} (key : List UInt8) (hv : Rd w v key) {u : Value} (text : List UInt8) (hu : Rd w u text) (no : Int) (hno : (Lit.int .u8 no).wf = true) :
    Calls Tryd.prog 5 #[v, u, .int .u8 no] w fun e w' => e = .returned (.bool true) ∧ Below w.heap.size w w' := by
  have bno := bounds_u8 hno
  clear hno
  obtain ⟨m, rfl⟩ : ∃ m : Nat, no = (m : Int) := ⟨no.toNat, by omega⟩
  have HL := hid hlaid
  have HV := hid hv
  have HU := hid hu
  obtain ⟨p, c, rfl, _, hcm, _, hcell⟩ := hv
  obtain ⟨q, cq, rfl, _, hcq, _, hcelq⟩ := hu
  unfold maxLen at hcm hcq
  clear hcell hcelq hlaid
  by_cases hbig : 4096 < key.length ∨ 4096 < text.length
  · have hcase : 4096 < key.length ∨ (key.length ≤ 4096 ∧ 4096 < text.length) := by omega
    clear hbig
    rcases hcase with h1 | ⟨h1, h2⟩
    all_goals
      go_enter Tryd.func5, Tryd.ntmps5
      go_wp2_with fail
      refine (works_any _ HL.out).mono ?_
      rintro e w' ⟨rfl, hb⟩
      go_wp2_with fail
      go_ret
      exact ⟨rfl, hb⟩
  · have hk4 : key.length ≤ 4096 := by omega
    have ht4 : text.length ≤ 4096 := by omega
    have hk1 : key.length ≤ 1048000 := by omega
    have ht1 : text.length ≤ 1048000 := by omega
    clear hbig
    obtain ⟨d1, hd1⟩ : ∃ d, d = macSum key text := ⟨_, rfl⟩
    have HD1 := hid hd1
    have HL1 := hid (show (bytesV d1).length = 32 by rw [bytesV_length, hd1, macSum_length])
    have HI1 := hid (show (Tryd.prog.info? 25).map (·.size) = some (bytesV d1).length by rw [HL1.out]; kernel_rfl)
    have E1 := hid (eqSelf d1 (by rw [hd1, macSum_length]))
    clear hd1
    have hzo := zeroOut
    by_cases hlong : 64 < key.length
    all_goals
      go_enter Tryd.func5, Tryd.ntmps5
      go_wp2_with fail
      refine (macOf_any _ _ key text _ HV.out HU.out HL.out hk1 ht1).mono ?_
      rw [← HD1.out]
      rintro e w1 ⟨rfl, hb⟩
      have G1 := hid hb
      clear hb
      go_wp2_with (refine wpList_store_rowV rfl 25 (.tmp 7) (.tmp 22) rfl w1.heap.size (bytesV d1) zeros32 25 rfl rfl (RowV.new w1 25 zeros32) ?hi1 ?ho1 (bytesV_oneCell d1) ?_)
      case hi1 => rw [HL1.out]; kernel_rfl
      case ho1 => rw [HL1.out, zeros32_length]
      intro w2 hr hg
      have hgr := gr_boxed hg.out rfl
      have HR1 := hid hr.out
      have G2 := hid (gr_trans G1.out hgr)
      have hsz2 : w1.heap.size < w2.heap.size := hr.out.lt
      clear hr hg hgr
      go_wp2_with fail
    · obtain ⟨d2, hd2⟩ : ∃ d, d = shaSum key := ⟨_, rfl⟩
      have HD2 := hid hd2
      have HL2 := hid (show (bytesV d2).length = 32 by rw [bytesV_length, hd2, shaSum_length])
      have HM2 := hid (show d2.length = 32 by rw [hd2, shaSum_length])
      have HD2L := hid (show d2.length ≤ 1048000 by rw [HM2.out]; omega)
      have HD12 := hid (show macSum d2 text = d1 by rw [hd2, macSum_sum key text hlong, HD1.out])
      clear hd2
      refine (shaOf_any _ key _ (HV.out.mono G2.out) (HL.out.mono G2.out) (by omega)).mono ?_
      rw [← HD2.out]
      rintro e w3 ⟨rfl, hb⟩
      have G3 := hid (gr_trans G2.out hb)
      have HR1 := hid (HR1.out.mono hb)
      clear hb
      go_wp2_with (refine wpList_store_rowV rfl 25 (.tmp 8) (.tmp 27) rfl w3.heap.size (bytesV d2) zeros32 25 rfl rfl (RowV.new w3 25 zeros32) ?hi2 ?ho2 (bytesV_oneCell d2) ?_)
      case hi2 => rw [HL2.out]; kernel_rfl
      case ho2 => rw [HL2.out, zeros32_length]
      intro w4 hr hg
      have hgr := gr_boxed hg.out rfl
      have G4 := hid (gr_trans G3.out hgr)
      have HR1 := hid (HR1.out.mono hgr)
      have HRD := hid (show Rd w4 (.slice (some ⟨w3.heap.size, 0, none⟩) 32 32) d2 by
        have := hr.out.to_row.rd 32 32 (by rw [HM2.out]; exact Nat.le_refl _) (Nat.le_refl _) (by unfold maxLen; omega)
        rwa [List.take_of_length_le (by rw [HM2.out]; exact Nat.le_refl _)] at this)
      clear hr hg hgr hzo
      go_wp2_with fail
      refine wp_region_gr [Is (.agg (bytesV d1).toArray), Is (.slice (some ⟨w3.heap.size, 0, none⟩) 32 32), Is (.slice q text.length cq), Is (.agg (bytesV d1).toArray), Is (.bool true), Is (.bool true), Is (.bool true), Is (.bool true), Is (.bool true)] (by kernel_rfl) (by kernel_rfl) (by kernel_rfl) ?_ ?_ ?_
      · simp only [StabAll, Is.gr, RdF.gr, OwnF.gr, AnyF.gr, and_self]
      · rename_i Kk hKk; clear hKk Kk
        simp only [AllOps, List.map_cons, List.map_nil, depsOf, List.filterMap_cons, List.filterMap_nil, Region.binds, depFacts, guardF, reduceIte, List.getD_eq_getElem?_getD, List.getElem?_cons_succ, List.getElem?_cons_zero, Option.getD_some, factAt, and_true]
        refine ⟨?_, ?_, ?_, ?_, ?_, ?_, ?_, ?_, ?_⟩
        all_goals intro ρ wv hρ hR hd
        all_goals try simp only [Is] at hd
        · exact opOk_loadRow rfl (w1.heap.size) (by first | exact hρ.2 _ rfl | simp [hd]) _ (bytesV d1) _ (HR1.out.mono hR) Tryd.underlying25 rfl (HI1.out) ⟨rfl, GrR.refl _⟩
        · exact opOk_val (v := .slice (some ⟨w3.heap.size, 0, none⟩) 32 32) (w' := wv) (by simp [execOp, go_sem, hρ.1.const, hρ.1.func, hd, (hρ.2 8 rfl), Tryd.underlying25]) ⟨rfl, GrR.refl _⟩
        · exact opOk_move (.inl rfl) ⟨by simp only [Is]; (first | exact hρ.2 1 rfl | exact hd | exact hd.1 | exact hd.2 | simp [hd]), GrR.refl _⟩
        · exact opOk_call hρ.1 rfl rfl Tryd.func10 (by kernel_rfl) rfl (by simp [hd, hρ.1.const]) ((macOf_any _ _ d2 text _ (HRD.out.mono hR) (HU.out.mono (gr_trans G4.out hR)) (HL.out.mono (gr_trans G4.out hR)) HD2L.out ht1).mono fun e w' ⟨h1, h2⟩ => ⟨_, h1, by rw [HD12.out]; rfl, h2⟩)
        · exact opOk_val (v := .bool true) (w' := wv) (by simp [execOp, go_sem, hρ.1.const, hρ.1.func, hd, E1.out]) ⟨rfl, GrR.refl _⟩
        · exact opOk_move (.inl rfl) ⟨by simp only [Is]; (first | exact hρ.2 32 rfl | exact hd | exact hd.1 | exact hd.2 | simp [hd]), GrR.refl _⟩
        · refine ⟨fun _ => ?_, fun hg => absurd (by simp [hd]) hg⟩; exact opOk_call hρ.1 rfl rfl Tryd.func8 (by kernel_rfl) rfl (by simp [hd, hρ.1.const]) ((works_any _ (HL.out.mono (gr_trans G4.out hR))).mono fun e w' ⟨h1, h2⟩ => ⟨_, h1, rfl, h2⟩)
        · exact opOk_val (v := .bool true) (w' := wv) (by simp [execOp, go_sem, hρ.1.const, hρ.1.func, hd]) ⟨rfl, GrR.refl _⟩
        · exact opOk_move (.inr rfl) ⟨by simp only [Is]; (first | exact hρ.2 35 rfl | exact hd | exact hd.1 | exact hd.2 | simp [hd]), GrR.refl _⟩
      · intro vals wv hR hall
        have hend := hall 8 (by simp)
        simp only [factAt, Is, List.getD_eq_getElem?_getD, List.getElem?_cons_succ, List.getElem?_cons_zero, Option.getD_some] at hend
        clear hall
        simp only [fillFrom, Act.put, hend, List.setIfInBounds_toArray, List.set_cons_zero, List.set_cons_succ]
        rename_i Kk hKk
        refine hKk _ _ ?_
        clear hKk Kk
        go_wp2
        go_ret
        exact ⟨rfl, gr_trans G4.out hR⟩
    · refine (copyBytes_any _ key _ (HV.out.mono G2.out) (by omega)).mono ?_
      rintro e w3 ⟨v3, rfl, ho3, hb3⟩
      have HO3 := hid ho3
      have GW3 := hid hb3
      clear ho3 hb3 hzo
      go_wp2_with fail
      go_loopw [9, 10] (fun o i wr => ∃ (j : Nat) (z : Option Addr) (cc : Nat), key.length + j ≤ 64 ∧ j ≤ m ∧ o = .slice z (key.length + j) cc ∧ i = .int .i64 (j : Int) ∧ Hid (Own wr w2.heap.size 5 (.slice z (key.length + j) cc) (key ++ List.replicate j 0)) ∧ Hid (Below w2.heap.size w2 wr)) (fun _ i _ => m - (intOf i).toNat)
      case atStart =>
        have h1 := HO3.out
        rcases h1 with ⟨rfl, e⟩ | ⟨g, sp, h2, rfl, h3, h4⟩
        · exact ⟨0, none, 0, by omega, by omega, by rw [e]; rfl, rfl, by rw [e]; exact Own.nil _ _ _, GW3.out⟩
        · exact ⟨0, _, _, by omega, by omega, rfl, rfl, .inr ⟨g, sp, h2, by simp, by simpa using h3, by simpa using h4⟩, GW3.out⟩
      case round =>
        clear HO3 GW3
        obtain ⟨j, z, cc, hj, hjm, rfl, rfl, ho, hb⟩ := hrel
        by_cases hgo : j < m ∧ key.length + j < 64
        · obtain ⟨g1, g2⟩ := hgo
          have g2' : (key.length : Int) + (j : Int) < 64 := by omega
          have HBA := hid hb.out
          have HOA := hid ho.out
          clear hb ho
          go_wp2_with (at_builtin; refine wpList_append_Own rfl (.tmp 49) (.tmp 50) 22 rfl w2.heap.size 5 Tryd.underlying22 infoU8 _ _ (key ++ List.replicate j 0) [0] rfl (HOA.out.alloc _) rfl ?hrd ?hlen ?hbase ?_)
          case hrd => exact rd_new wr 5 [0] 1 _ rfl rfl (by unfold maxLen; omega)
          case hlen => simp; omega
          case hbase => have := HBA.out.size; simp; omega
          intro v3 w4 ho3 hg3
          have HB3 := hid ((HBA.out.alloc HBA.out.size (.cells #[.int .u8 0] 5 (0, 0))).grown hg3 (by have := HBA.out.size; simp; omega) HOA.out.ge)
          have hsh : ∃ q cc, v3 = .slice q (key.length + (j + 1)) cc := by
            rcases ho3 with ⟨_, e⟩ | ⟨g, sp, _, e, _, _⟩
            · simp at e
            · exact ⟨some ⟨g, 0, none⟩, key.length + (j + 1) + sp.length, by rw [e]; simp⟩
          obtain ⟨q3, c3, rfl⟩ := hsh
          rw [← List.replicate_succ'] at ho3
          have HO3 := hid ho3
          clear ho3 hg3 HOA HBA
          go_wp2
          go_roundw
          case rel => exact ⟨j + 1, q3, c3, by omega, by omega, rfl, by go_num, HO3.out, HB3.out⟩
          case measure => simp [intOf]; omega
        · have hcase : j = m ∨ (j < m ∧ key.length + j = 64) := by omega
          have HO := hid ho.out
          have GW := hid hb.out
          have GF := hid (gr_trans G2.out hb.out)
          have HN := hid (show macSum (key ++ List.replicate j 0) text = d1 by rw [macSum_noughts key text j hj, HD1.out])
          have HKJ := hid (show (key ++ List.replicate j 0).length ≤ 1048000 by simp; omega)
          clear hgo ho hb
          have hd : (j < m ∧ ¬ ((key.length : Int) + (j : Int) < 64)) ∨ ¬ j < m := by omega
          clear hcase
          rcases hd with ⟨e1, e2⟩ | e1
          all_goals
            go_wp2_with fail
            refine wp_region_gr [Is (.agg (bytesV d1).toArray), Is (.slice z (key.length + j) cc), Is (.slice q text.length cq), Is (.agg (bytesV d1).toArray), Is (.bool true), Is (.bool true), Is (.bool true), Is (.bool true), Is (.bool true)] (by kernel_rfl) (by kernel_rfl) (by kernel_rfl) ?_ ?_ ?_
            · simp only [StabAll, Is.gr, RdF.gr, OwnF.gr, AnyF.gr, and_self]
            · rename_i Kk hKk; clear hKk Kk
              simp only [AllOps, List.map_cons, List.map_nil, depsOf, List.filterMap_cons, List.filterMap_nil, Region.binds, depFacts, guardF, reduceIte, List.getD_eq_getElem?_getD, List.getElem?_cons_succ, List.getElem?_cons_zero, Option.getD_some, factAt, and_true]
              refine ⟨?_, ?_, ?_, ?_, ?_, ?_, ?_, ?_, ?_⟩
              all_goals intro ρ wv hρ hR hd
              all_goals try simp only [Is] at hd
              · exact opOk_loadRow rfl (w1.heap.size) (by first | exact hρ.2 _ rfl | simp [hd]) _ (bytesV d1) _ (HR1.out.mono (gr_trans GW.out hR)) Tryd.underlying25 rfl (HI1.out) ⟨rfl, GrR.refl _⟩
              · exact opOk_move (.inl rfl) ⟨by simp only [Is]; (first | exact hρ.2 9 rfl | exact hd | exact hd.1 | exact hd.2 | simp [hd]), GrR.refl _⟩
              · exact opOk_move (.inl rfl) ⟨by simp only [Is]; (first | exact hρ.2 1 rfl | exact hd | exact hd.1 | exact hd.2 | simp [hd]), GrR.refl _⟩
              · exact opOk_call hρ.1 rfl rfl Tryd.func10 (by kernel_rfl) rfl (by simp [hd, hρ.1.const]) ((macOf_any _ _ (key ++ List.replicate j 0) text _ (HO.out.rd.mono hR) (HU.out.mono (gr_trans GF.out hR)) (HL.out.mono (gr_trans GF.out hR)) HKJ.out ht1).mono fun e w' ⟨h1, h2⟩ => ⟨_, h1, by rw [HN.out]; rfl, h2⟩)
              · exact opOk_val (v := .bool true) (w' := wv) (by simp [execOp, go_sem, hρ.1.const, hρ.1.func, hd, E1.out]) ⟨rfl, GrR.refl _⟩
              · exact opOk_move (.inl rfl) ⟨by simp only [Is]; (first | exact hρ.2 56 rfl | exact hd | exact hd.1 | exact hd.2 | simp [hd]), GrR.refl _⟩
              · refine ⟨fun _ => ?_, fun hg => absurd (by simp [hd]) hg⟩; exact opOk_call hρ.1 rfl rfl Tryd.func8 (by kernel_rfl) rfl (by simp [hd, hρ.1.const]) ((works_any _ (HL.out.mono (gr_trans GF.out hR))).mono fun e w' ⟨h1, h2⟩ => ⟨_, h1, rfl, h2⟩)
              · exact opOk_val (v := .bool true) (w' := wv) (by simp [execOp, go_sem, hρ.1.const, hρ.1.func, hd]) ⟨rfl, GrR.refl _⟩
              · exact opOk_move (.inr rfl) ⟨by simp only [Is]; (first | exact hρ.2 59 rfl | exact hd | exact hd.1 | exact hd.2 | simp [hd]), GrR.refl _⟩
            · intro vals wv hR hall
              have hend := hall 8 (by simp)
              simp only [factAt, Is, List.getD_eq_getElem?_getD, List.getElem?_cons_succ, List.getElem?_cons_zero, Option.getD_some] at hend
              clear hall
              simp only [fillFrom, Act.put, hend, List.setIfInBounds_toArray, List.set_cons_zero, List.set_cons_succ]
              rename_i Kk hKk
              refine hKk _ _ ?_
              clear hKk Kk
              go_wp2
              go_ret
              exact ⟨rfl, gr_trans GF.out hR⟩
end Go.Proofs.YtcjkhhhinjknhaaDoor

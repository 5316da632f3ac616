/- OctetCuts: the walk of the law. Conditions: none but what the row reads. -/
import Derived.Test.YtkifdhpdpblneaaOctWorks
import Derived.Test.YtkifdhpdpblneaaOctRef
import Derived.Test.YtkifdhpdpblneaaRoomy
import Derived.Test.YtkifdhpdpblneaaApart
namespace Go.Proofs.Ytkifdhpdpblneaa
open Go.RowKit Go.FL

set_option maxRecDepth 20000 in
set_option maxHeartbeats 400000 in
theorem octetCuts_walk {w : World} {v : Value} (l : List UInt8) (hv : Rd w v l) (a : Int) (ha : (Lit.int .i64 a).wf = true) (n : Int) (hn : (Lit.int .i64 n).wf = true) :
    Calls Try.prog 5 #[v, .int .i64 a, .int .i64 n] w fun e w' => e = .returned (.bool true) ∧ Below w.heap.size w w' := by
  clear ha hn
  have HV := hid hv
  obtain ⟨p, c, rfl, hlc, hcm, hpn, hcell⟩ := hv
  unfold maxLen at hcm
  clear hcell
  by_cases hbig : 131072 < l.length
  · go_enter Try.func5, Try.ntmps5
    go_wp2_with (go_at_call 11; refine (works_any _).mono ?_; rintro e w' ⟨rfl, hb⟩)
    go_ret
    exact ⟨rfl, hb⟩
  · cases hw : withinB l.length a n
    · have HW := hid hw
      clear hw
      go_enter Try.func5, Try.ntmps5
      go_wp2_with fail
      refine (roomy_any _ l _ HV.out (by omega)).mono ?_
      rintro e w1 ⟨v1, rfl, hr1, hb1⟩
      have HR1 := hid hr1
      have G1 := hid hb1
      clear hb1 hr1
      go_wp2_with fail
      refine (cut_no _ l a n _ HR1.out.rd HW.out).mono ?_
      rintro e w2 ⟨rfl, rfl⟩
      go_wp2_with fail
      refine (refCut_no _ l a n _ (HV.out.mono G1.out) HW.out).mono ?_
      rintro e w2 ⟨rfl, rfl⟩
      go_wp2_with fail
      refine (eqBytes_yes _ _ [] _ (Rd.nil _) (Rd.nil _)).mono ?_
      rintro e w4 ⟨rfl, hb4⟩
      have G4 := hid hb4
      clear hb4
      go_wp2_with fail
      refine (kept_gr _ _ l _ _ (HR1.out.mono G4.out) (HV.out.mono (gr_trans G1.out G4.out))).mono ?_
      rintro e w5 ⟨rfl, hb5⟩
      have G5 := hid hb5
      clear hb5
      go_wp2_with fail
      refine (cut_no _ l a n _ (HR1.out.mono (gr_trans G4.out G5.out)).rd HW.out).mono ?_
      rintro e w6 ⟨rfl, rfl⟩
      obtain ⟨p1, n1, c1, rfl⟩ := HR1.out.rd.form
      have HL := hid (rdV_new w5 22 [.slice none 0 0, .slice none 0 0, .slice p1 n1 c1] 3 #[.slice none 0 0, .slice none 0 0, .slice p1 n1 c1] rfl rfl (by unfold maxLen; omega))
      have GA := hid (show Below w5.heap.size w5 (w5.alloc (.cells #[.slice none 0 0, .slice none 0 0, .slice p1 n1 c1] 22 (0, 0))) from (Below.refl _ _).alloc (Nat.le_refl _) _)
      go_wp2_with fail
      refine (apart3 HL.out HR1.out.own (Own.nil w1 w1.heap.size _) (Own.nil w1 w1.heap.size _) (gr_trans G4.out (gr_trans G5.out GA.out)) (gr_trans G4.out (gr_trans G5.out GA.out)) (gr_trans G4.out (gr_trans G5.out GA.out)) (Nat.le_refl _) (Nat.le_refl _) (Nat.le_refl _)).mono ?_
      rintro e w7 ⟨rfl, hb7⟩
      have G7 := hid hb7
      clear hb7
      go_wp2_with fail
      refine (works_any _).mono ?_
      rintro e w8 ⟨rfl, hb8⟩
      go_wp2_with fail
      go_ret
      exact ⟨rfl, gr_trans G1.out (gr_trans G4.out (gr_trans G5.out (gr_trans GA.out (gr_trans G7.out hb8))))⟩
    · obtain ⟨i, k, rfl, rfl, hik⟩ := withinB_nat hw
      clear hw
      go_enter Try.func5, Try.ntmps5
      go_wp2_with fail
      refine (roomy_any _ l _ HV.out (by omega)).mono ?_
      rintro e w1 ⟨v1, rfl, hr1, hb1⟩
      have HR1 := hid hr1
      have G1 := hid hb1
      clear hb1 hr1
      go_wp2_with fail
      refine (cut_ok _ l i k _ HR1.out.rd hik (by omega)).mono ?_
      rintro e w2 ⟨v2, rfl, ho2, hb2⟩
      have HO2 := hid ho2
      have G2 := hid hb2
      clear ho2 hb2
      go_wp2_with fail
      refine (refCut_ok _ l i k _ (HV.out.mono (gr_trans G1.out G2.out)) hik (by omega)).mono ?_
      rintro e w3 ⟨v3, rfl, ho3, hb3⟩
      have HO3 := hid ho3
      have G3 := hid hb3
      clear ho3 hb3
      go_wp2_with fail
      refine (eqBytes_yes _ _ _ _ (HO2.out.mono G3.out).rd HO3.out.rd).mono ?_
      rintro e w4 ⟨rfl, hb4⟩
      have G4 := hid hb4
      clear hb4
      go_wp2_with fail
      refine (kept_gr _ _ l _ _ (HR1.out.mono (gr_trans G2.out (gr_trans G3.out G4.out))) (HV.out.mono (gr_trans G1.out (gr_trans G2.out (gr_trans G3.out G4.out))))).mono ?_
      rintro e w5 ⟨rfl, hb5⟩
      have G5 := hid hb5
      have G35 := hid (gr_trans G3.out (gr_trans G4.out G5.out))
      clear hb5
      go_wp2_with fail
      refine (cut_ok _ l i k _ (HR1.out.mono (gr_trans G2.out G35.out)).rd hik (by omega)).mono ?_
      rintro e w6 ⟨v6, rfl, ho6, hb6⟩
      have HO6 := hid ho6
      have G6 := hid hb6
      have G36 := hid (gr_trans G35.out G6.out)
      obtain ⟨p1, n1, c1, rfl⟩ := HR1.out.rd.form
      obtain ⟨p2, n2, c2, rfl⟩ := HO2.out.rd.form
      obtain ⟨p6, n6, c6, rfl⟩ := ho6.rd.form
      have HL := hid (rdV_new w6 22 [.slice p2 n2 c2, .slice p6 n6 c6, .slice p1 n1 c1] 3 #[.slice p2 n2 c2, .slice p6 n6 c6, .slice p1 n1 c1] rfl rfl (by unfold maxLen; omega))
      have GA := hid (show Below w6.heap.size w6 (w6.alloc (.cells #[.slice p2 n2 c2, .slice p6 n6 c6, .slice p1 n1 c1] 22 (0, 0))) from (Below.refl _ _).alloc (Nat.le_refl _) _)
      clear ho6 hb6
      go_wp2_with fail
      refine (apart3 HL.out HR1.out.own HO2.out HO6.out (gr_trans G2.out (gr_trans G36.out GA.out)) (gr_trans G36.out GA.out) GA.out (Nat.le_refl _) G35.out.size (G2.out.size)).mono ?_
      rintro e w7 ⟨rfl, hb7⟩
      have G7 := hid hb7
      clear hb7
      go_wp2_with fail
      refine (works_any _).mono ?_
      rintro e w8 ⟨rfl, hb8⟩
      go_wp2_with fail
      go_ret
      exact ⟨rfl, gr_trans G1.out (gr_trans G2.out (gr_trans G36.out (gr_trans GA.out (gr_trans G7.out hb8))))⟩
end Go.Proofs.Ytkifdhpdpblneaa

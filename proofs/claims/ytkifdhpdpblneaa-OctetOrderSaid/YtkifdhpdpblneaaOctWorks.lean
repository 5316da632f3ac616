/- The anchor of the statements on octet: works answers true; all that was there stays. Conditions: none. -/
import Derived.Test.YtkifdhpdpblneaaOctPad
namespace Go.Proofs.Ytkifdhpdpblneaa
open Go.RowKit Go.FL

theorem works_put : putL [255] 258 2 = [255, 1, 2] := by decide +kernel
theorem works_get : beVal (pieceOf [255, 1, 2] 1 2) = 258 := by decide +kernel
theorem works_round : roundI 5 = 8 := by decide
theorem works_pad : (padded [255, 1, 2]).length = 4 := by decide +kernel

set_option maxRecDepth 20000 in
set_option maxHeartbeats 1000000 in
theorem works_any (w : World) : Calls Try.prog 11 #[] w (Gives w (.bool true)) := by
  have HA := hid ((Below.refl w.heap.size w).alloc (Nat.le_refl _) (.cells #[.int .u8 255] 5 (0, 0)))
  have HR := hid (rd_new w 5 [255] 1 #[.int .u8 255] rfl rfl (by unfold maxLen; omega))
  go_enter Try.func11, Try.ntmps11
  go_wp2_with fail
  refine (put_any _ [255] 258 2 _ HR.out (by decide) (by decide)).mono ?_
  rw [works_put]
  rintro e w1 ⟨v1, rfl, ho1, hb1⟩
  have HB1 := hid (HA.out.trans (hb1.mono HA.out.size))
  have HO1 := hid ho1
  have HL := hid ho1.rd
  clear ho1 hb1 HA HR
  obtain ⟨p1, c1, rfl, hlc1, hcm1, hpn1, hcell1⟩ := HL.out
  clear hcell1
  go_wp2_with fail
  refine (get_ok _ [255, 1, 2] 1 2 _ HL.out (by decide)).mono ?_
  rw [works_get]
  rintro e w2 ⟨rfl, rfl⟩
  go_wp2_with fail
  refine (cut_ok _ [255, 1, 2] 1 1 _ HL.out (by decide) (by decide)).mono ?_
  rintro e w2 ⟨v2, rfl, ho2, hb2⟩
  have HL2 := hid ho2.rd
  have HB2 := hid (HB1.out.trans (hb2.mono HB1.out.size))
  have HLb := hid (HL.out.mono hb2)
  clear ho2 hb2
  obtain ⟨b2, off2, c2, rfl, hlc2, hcm2, hcell2⟩ := HL2.out.at (by decide)
  have hc2 : w2.cell? ⟨b2, off2, none⟩ = some (.int .u8 1) := hcell2 0 (by decide)
  clear hcell2
  go_wp2_with fail
  refine (round_any 5 _ (by decide)).mono ?_
  rw [works_round]
  rintro e w3 ⟨rfl, rfl⟩
  go_wp2_with fail
  refine (pad_any _ [255, 1, 2] _ HLb.out (by decide)).mono ?_
  rintro e w4 ⟨v4, rfl, ho4, hb4⟩
  have HB4 := hid (HB2.out.trans (hb4.mono HB2.out.size))
  have HL4 := hid ho4.rd
  clear ho4 hb4
  obtain ⟨p4, c4, rfl, hlc4, hcm4, hpn4, hcell4⟩ := HL4.out
  clear hcell4 hlc4 hpn4
  rw [works_pad]
  go_wp2_with fail
  go_ret
  exact ⟨rfl, HB4.out⟩
end Go.Proofs.Ytkifdhpdpblneaa

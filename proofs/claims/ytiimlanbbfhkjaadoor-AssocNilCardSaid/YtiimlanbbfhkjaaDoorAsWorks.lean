/- works: two ends meet, and part. Conditions: the tables of sha hold what its text says. -/
import Derived.Test.YtiimlanbbfhkjaaDoorAsMeetM
import Derived.Lib.SlBytesConst
set_option linter.unusedSimpArgs false
set_option linter.unusedVariables false



namespace Go.Proofs.YtiimlanbbfhkjaaDoor

open Go.RowKit Go.FL Go.ChangeShapes

set_option maxRecDepth 100000 in
set_option maxHeartbeats 4000000 in
theorem works_any (w : World) (hlaid : ShaLaid w) : Calls Tryd.prog 14 #[] w fun e w' => e = .returned (.bool true) ∧ Below w.heap.size w w' := by
  obtain ⟨x, hxp, hx⟩ := pairK_ex 1
  have HX := hid hx
  have HXP := hid hxp
  have HL := hid hlaid
  have kc := fun (w : World) (C : Array Value) (n c : Nat) => Lib.run_convert_bytes_const (P := Tryd.prog) w 25 5 C n c Tryd.underlying25 Tryd.underlying5
  have kx := kc w #[.int .u8 97] 1 1
  have ky := kc (w.alloc (.cells #[.int .u8 97] 5 (1, 2))) #[.int .u8 98] 1 1
  have hs0 : (w.alloc (.cells #[.int .u8 97] 5 (1, 2))).heap.size = w.heap.size + 1 := by simp
  rw [hs0] at ky
  simp only [List.size_toArray, List.length_cons, List.length_nil, Nat.zero_add] at kx ky
  obtain ⟨W1, hW1⟩ : ∃ W1, W1 = w.alloc (.cells #[.int .u8 97] 5 (1, 2)) := ⟨_, rfl⟩
  have hs1 : W1.heap.size = w.heap.size + 1 := by rw [hW1]; simp
  obtain ⟨W2, hW2⟩ : ∃ W2, W2 = W1.alloc (.cells #[.int .u8 98] 5 (1, 2)) := ⟨_, rfl⟩
  have HE2 := hid (show W2 = (w.alloc (.cells #[.int .u8 97] 5 (1, 2))).alloc (.cells #[.int .u8 98] 5 (1, 2)) by rw [hW2, hW1])
  have g1 : Below w.heap.size w W1 := by rw [hW1]; exact (Below.refl _ _).alloc (Nat.le_refl _) _
  have g2 : Below W1.heap.size W1 W2 := by rw [hW2]; exact (Below.refl _ _).alloc (Nat.le_refl _) _
  have HG := hid (gr_trans g1 g2)
  have HK1 := hid (show Rd W2 (.slice (some ⟨w.heap.size, 0, none⟩) 1 1) kA from Rd.mono (by rw [hW1]; exact rd_newF w 5 [97] 1 _ (1, 2) rfl rfl (by unfold maxLen; omega)) g2)
  have HK2 := hid (show Rd W2 (.slice (some ⟨w.heap.size + 1, 0, none⟩) 1 1) kB by rw [hW2, ← hs1]; exact rd_newF W1 5 [98] 1 _ (1, 2) rfl rfl (by unfold maxLen; omega))
  clear hW1 hW2 g1 g2 hs0 hs1 hlaid hx hxp kc
  go_enter Tryd.func14, Tryd.ntmps14
  go_wp2_with fail
  rw [← HE2.out]
  refine (pair_any 0 kA kB _ _ W2 HK1.out HK2.out ⟨by decide, by decide⟩ ⟨by decide, by decide⟩ w.heap.size HG.out.size).mono ?_
  rintro e w3 ⟨t, ga, gb, rfl, hm, hb3⟩
  obtain ⟨vra, hvra⟩ : ∃ v, v = Value.slice none 0 0 := ⟨_, rfl⟩
  obtain ⟨vrb, hvrb⟩ : ∃ v, v = Value.slice none 0 0 := ⟨_, rfl⟩
  have HM := hid (show Two w.heap.size w3 t ga gb vra vrb (pairD x.p kA kB) from by rw [hvra, hvrb, HXP.out]; exact hm)
  have HG := hid (gr_trans HG.out hb3)
  clear hm hb3 kx ky hvra hvrb HK1 HK2 HE2
  simp only [List.append_eq, List.cons_append, List.nil_append]
  have c0 := HM.out.two.at 0 (by simp [TwoD.cells])
  have c1 := HM.out.two.at 1 (by simp [TwoD.cells])
  simp only [TwoD.cells, List.getElem_cons_succ, List.getElem_cons_zero] at c0 c1
  go_wp2_with fail
  refine (open_any w.heap.size _ ga vra (pairD x.p kA kB).a HM.out.pa 0 (by omega) true 1 10 (by omega) (by exact Nat.zero_le _)).mono ?_
  rintro e w4 ⟨rfl, hd⟩
  rw [show (pairD x.p kA kB).a = newD x.p 40 kA from rfl, open_a] at hd
  rw [show (pairD x.p kA kB).a = newD x.p 40 kA from rfl, open_a]
  obtain ⟨vra, hm, hc⟩ := MidAt.didA HM.out (by decide) (by decide) (by decide) (by decide) (by decide) hd
  have HG := hid (HG.out.trans (hc.below HG.out.size HM.out.pa.ge))

  have HM := hid (show Two w.heap.size w4 t ga gb vra vrb ({ pairD x.p kA kB with a := aS0 x }) from hm)
  clear hm hc hd c0 c1
  have c0 := HM.out.two.at 0 (by simp [TwoD.cells])
  have c1 := HM.out.two.at 1 (by simp [TwoD.cells])
  simp only [TwoD.cells, List.getElem_cons_succ, List.getElem_cons_zero] at c0 c1
  go_wp2_with fail
  refine (open_any w.heap.size _ gb vrb (pairD x.p kA kB).b HM.out.pb 0 (by omega) false 2 20 (by omega) (by exact Nat.zero_le _)).mono ?_
  rintro e w5 ⟨rfl, hd⟩
  rw [show (pairD x.p kA kB).b = newD x.p 40 kB from rfl, open_b] at hd
  rw [show (pairD x.p kA kB).b = newD x.p 40 kB from rfl, open_b]
  obtain ⟨vrb, hm, hc⟩ := MidAt.didB HM.out (by decide) (by decide) (by decide) (by decide) (by decide) hd
  have HG := hid (HG.out.trans (hc.below HG.out.size HM.out.pb.ge))

  have HM := hid (show Two w.heap.size w5 t ga gb vra vrb (T0 x) from hm)
  clear hm hc hd c0 c1
  have c0 := HM.out.two.at 0 (by simp [TwoD.cells])
  have c1 := HM.out.two.at 1 (by simp [TwoD.cells])
  simp only [TwoD.cells, List.getElem_cons_succ, List.getElem_cons_zero] at c0 c1
  go_wp2_with fail
  refine (open_any w.heap.size _ gb vrb (bS0 x) HM.out.pb 0 (by omega) false 2 20 (by omega) (by exact Nat.zero_le _)).mono ?_
  rintro e w6 ⟨rfl, hd⟩
  rw [open_b2] at hd
  rw [open_b2]
  obtain ⟨vrb, hm, hc⟩ := MidAt.didB HM.out (by decide) (by decide) (by decide) (by decide) (by decide) hd
  have HG := hid (HG.out.trans (hc.below HG.out.size HM.out.pb.ge))

  have HM := hid (show Two w.heap.size w6 t ga gb vra vrb (T0 x) from hm)
  clear hm hc hd c0 c1
  have c0 := HM.out.two.at 0 (by simp [TwoD.cells])
  have c1 := HM.out.two.at 1 (by simp [TwoD.cells])
  simp only [TwoD.cells, List.getElem_cons_succ, List.getElem_cons_zero] at c0 c1
  go_wp2_with fail
  refine (runs_any w HL.out _ HG.out t ga gb vra vrb (T0 x) (TM x) HM.out 0 (by omega) 40 (by omega) (meet x HX.out)).mono ?_
  rintro e w7 ⟨rfl, va7, vb7, hm, hg⟩
  have HG := hid hg
  have HM := hid hm
  clear hg hm c0 c1
  have c0 := HM.out.two.at 0 (by simp [TwoD.cells])
  have c1 := HM.out.two.at 1 (by simp [TwoD.cells])
  simp only [TwoD.cells, List.getElem_cons_succ, List.getElem_cons_zero] at c0 c1
  go_wp2_with fail
  refine (met_yes w.heap.size _ t ga gb va7 vb7 (TM x) HM.out (meet_met x HX.out)).mono ?_
  rintro e w8 ⟨rfl, hb⟩
  have HG := hid (HG.out.trans (hb.mono HG.out.size))
  have HM := hid (HM.out.mono hb)
  clear hb c0 c1
  have c0 := HM.out.two.at 0 (by simp [TwoD.cells])
  have c1 := HM.out.two.at 1 (by simp [TwoD.cells])
  simp only [TwoD.cells, List.getElem_cons_succ, List.getElem_cons_zero] at c0 c1
  go_wp2_with fail
  refine (shutdown_any w.heap.size _ ga va7 (aM x) HM.out.pa).mono ?_
  rintro e w9 ⟨rfl, hd⟩
  rw [if_pos (show (aM x).st = 4 from rfl)] at hd
  rw [if_pos (show (aM x).st = 4 from rfl)]
  obtain ⟨vra, hm, hc⟩ := MidAt.didA HM.out (by decide) (by decide) (by decide) (by decide) (by decide) hd
  have HG := hid (HG.out.trans (hc.below HG.out.size HM.out.pa.ge))

  have HM := hid (show Two w.heap.size w9 t ga gb vra vb7 (TS x) from hm)
  clear hm hc hd c0 c1
  have c0 := HM.out.two.at 0 (by simp [TwoD.cells])
  have c1 := HM.out.two.at 1 (by simp [TwoD.cells])
  simp only [TwoD.cells, List.getElem_cons_succ, List.getElem_cons_zero] at c0 c1
  go_wp2_with fail
  refine (runs_any w HL.out _ HG.out t ga gb vra vb7 (TS x) (TP x) HM.out 0 (by omega) 40 (by omega) (Go.FL.part x HX.out)).mono ?_
  rintro e w10 ⟨rfl, va10, vb10, hm, hg⟩
  have HG := hid hg
  have HM := hid hm
  clear hg hm c0 c1
  have c0 := HM.out.two.at 0 (by simp [TwoD.cells])
  have c1 := HM.out.two.at 1 (by simp [TwoD.cells])
  simp only [TwoD.cells, List.getElem_cons_succ, List.getElem_cons_zero] at c0 c1
  go_wp2_with fail
  refine (parted_any w.heap.size _ t ga gb va10 vb10 (TP x) HM.out).mono ?_
  rintro e w11 ⟨rfl, rfl⟩
  rw [part_parted x HX.out]
  go_wp2_with fail
  go_ret
  exact ⟨rfl, HG.out⟩
end Go.Proofs.YtiimlanbbfhkjaaDoor

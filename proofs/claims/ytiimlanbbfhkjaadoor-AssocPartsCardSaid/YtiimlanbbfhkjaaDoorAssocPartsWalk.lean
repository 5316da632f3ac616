/- AssocParts: two ends of which one or both are shut down end cleanly, whatever of the next 32 packets is lost. Conditions: the tables of sha hold what its text says. -/
import Derived.Test.YtiimlanbbfhkjaaDoorAsWorks
import Derived.Test.YtiimlanbbfhkjaaDoorAsPartT
import Derived.Lib.SlBytesConst
import Derived.BigQuiet
set_option linter.unusedSimpArgs false
set_option linter.unusedVariables false





namespace Go.Proofs.YtiimlanbbfhkjaaDoor

open Go.RowKit Go.FL Go.ChangeShapes

set_option maxRecDepth 100000 in
set_option maxHeartbeats 8000000 in
theorem assocParts_walk {w : World} (hlaid : ShaLaid w) (ps : Int) (hps : (Lit.int .u8 ps).wf = true) (bo : Bool) (aq : Int) (has : (Lit.int .u8 aq).wf = true) (ls : Int) (hls : (Lit.int .u32 ls).wf = true) :
    Calls Tryd.prog 3 #[.int .u8 ps, .bool bo, .int .u8 aq, .int .u32 ls] w fun e w' => e = .returned (.bool true) ∧ Below w.heap.size w w' := by
  have HL := hid hlaid
  obtain ⟨pu, rfl⟩ := u8_of ps hps
  obtain ⟨au, rfl⟩ := u8_of aq has
  have hb32 := bounds_u32 hls
  obtain ⟨lost, rfl⟩ : ∃ n : Nat, ls = (n : Int) := ⟨ls.toNat, by omega⟩
  have HLO := hid (show lost < 4294967296 by omega)
  have yl : IntKind.u64.wrap (lost : Int) = (lost : Int) := by rw [IntKind.wrap_u64]; omega
  have hpu := byte_lt pu
  have hau := byte_lt au
  obtain ⟨n, hn⟩ : ∃ n, n = au.toNat % 20 := ⟨_, rfl⟩
  have HNN := hid (show n < 20 by omega)
  have y1 : IntKind.i64.wrap (au.toNat : Int) = (au.toNat : Int) := by rw [IntKind.wrap_i64]; omega
  have y2 : IntKind.i64.wrap (((au.toNat : Int)).tmod 20) = (n : Int) := by rw [Int.tmod_eq_emod_of_nonneg (by omega), IntKind.wrap_i64]; omega
  have HN := hid (show (au.toNat : Int) % 20 = (n : Int) by omega)
  obtain ⟨x, hxp, hx⟩ := pairK_ex (1 + pu.toNat % 4)
  have HX := hid hx
  have HXP := hid hxp
  have HX4 := hid (show 1 ≤ x.p ∧ x.p < 1000000 by omega)
  clear hps has hls hb32 hpu hau hlaid hx hxp hn
  have kc := fun (w : World) (C : Array Value) (n c : Nat) => Lib.run_convert_bytes_const (P := Tryd.prog) w 25 5 C n c Tryd.underlying25 Tryd.underlying5
  have kx := kc w #[.int .u8 97] 1 1
  have ky := kc (w.alloc (.cells #[.int .u8 97] 5 (1, 2))) #[.int .u8 98] 1 1
  have hs0 : (w.alloc (.cells #[.int .u8 97] 5 (1, 2))).heap.size = w.heap.size + 1 := by simp
  rw [hs0] at ky
  simp only [List.size_toArray, List.length_cons, List.length_nil, Nat.zero_add] at kx ky
  obtain ⟨W1, hW1⟩ : ∃ W1, W1 = w.alloc (.cells #[.int .u8 97] 5 (1, 2)) := ⟨_, rfl⟩
  have hs1 : W1.heap.size = w.heap.size + 1 := by rw [hW1]; simp
  obtain ⟨W2, hW2⟩ : ∃ W2, W2 = W1.alloc (.cells #[.int .u8 98] 5 (1, 2)) := ⟨_, rfl⟩
  have HE2 := hid (show W2 = (w.alloc (.cells #[.int .u8 97] 5 (1, 2))).alloc (.cells #[.int .u8 98] 5 (1, 2)) by rw [hW2, hW1])
  have g1 : Below w.heap.size w W1 := by rw [hW1]; exact (Below.refl _ _).alloc (Nat.le_refl _) _
  have g2 : Below W1.heap.size W1 W2 := by rw [hW2]; exact (Below.refl _ _).alloc (Nat.le_refl _) _
  have HG := hid (gr_trans g1 g2)
  have HK1 := hid (show Rd W2 (.slice (some ⟨w.heap.size, 0, none⟩) 1 1) kA from Rd.mono (by rw [hW1]; exact rd_newF w 5 [97] 1 _ (1, 2) rfl rfl (by unfold maxLen; omega)) g2)
  have HK2 := hid (show Rd W2 (.slice (some ⟨w.heap.size + 1, 0, none⟩) 1 1) kB by rw [hW2, ← hs1]; exact rd_newF W1 5 [98] 1 _ (1, 2) rfl rfl (by unfold maxLen; omega))
  clear hW1 hW2 g1 g2 hs0 hs1 kc
  go_enter Tryd.func3, Tryd.ntmps3
  go_wp2_with fail
  rw [← HE2.out]
  refine (pair_any pu kA kB _ _ W2 HK1.out HK2.out ⟨by decide, by decide⟩ ⟨by decide, by decide⟩ w.heap.size HG.out.size).mono ?_
  rintro e w3 ⟨t, ga, gb, rfl, hm, hb3⟩
  obtain ⟨vra, hvra⟩ : ∃ v, v = Value.slice none 0 0 := ⟨_, rfl⟩
  obtain ⟨vrb, hvrb⟩ : ∃ v, v = Value.slice none 0 0 := ⟨_, rfl⟩
  have HM := hid (show Two w.heap.size w3 t ga gb vra vrb (pairD x.p kA kB) from by rw [hvra, hvrb, HXP.out]; exact hm)
  have HG := hid (gr_trans HG.out hb3)
  clear hm hb3 kx ky hvra hvrb HK1 HK2 HE2
  simp only [List.append_eq, List.cons_append, List.nil_append]
  have c0 := HM.out.two.at 0 (by simp [TwoD.cells])
  have c1 := HM.out.two.at 1 (by simp [TwoD.cells])
  simp only [TwoD.cells, List.getElem_cons_succ, List.getElem_cons_zero] at c0 c1
  go_wp2_with fail
  refine (open_any w.heap.size _ gb vrb (pairD x.p kA kB).b HM.out.pb 0 (by omega) false 2 20 (by omega) (by exact Nat.zero_le _)).mono ?_
  rintro e w4 ⟨rfl, hd⟩
  rw [show (pairD x.p kA kB).b = newD x.p 40 kB from rfl, open_b] at hd
  rw [show (pairD x.p kA kB).b = newD x.p 40 kB from rfl, open_b]
  obtain ⟨vrb, hm, hc⟩ := MidAt.didB HM.out (by decide) (by decide) (by decide) (by decide) (by decide) hd
  have HG := hid (HG.out.trans (hc.below HG.out.size HM.out.pb.ge))
  have HM := hid (show Two w.heap.size w4 t ga gb vra vrb ({ pairD x.p kA kB with b := bS0 x }) from hm)
  clear hm hc hd c0 c1
  have c0 := HM.out.two.at 0 (by simp [TwoD.cells])
  have c1 := HM.out.two.at 1 (by simp [TwoD.cells])
  simp only [TwoD.cells, List.getElem_cons_succ, List.getElem_cons_zero] at c0 c1
  go_wp2_with fail
  refine (open_any w.heap.size _ ga vra (pairD x.p kA kB).a HM.out.pa 0 (by omega) true 1 10 (by omega) (by exact Nat.zero_le _)).mono ?_
  rintro e w5 ⟨rfl, hd⟩
  rw [show (pairD x.p kA kB).a = newD x.p 40 kA from rfl, open_a] at hd
  rw [show (pairD x.p kA kB).a = newD x.p 40 kA from rfl, open_a]
  obtain ⟨vra, hm, hc⟩ := MidAt.didA HM.out (by decide) (by decide) (by decide) (by decide) (by decide) hd
  have HG := hid (HG.out.trans (hc.below HG.out.size HM.out.pa.ge))
  have HM := hid (show Two w.heap.size w5 t ga gb vra vrb (T0 x) from hm)
  clear hm hc hd c0 c1
  have c0 := HM.out.two.at 0 (by simp [TwoD.cells])
  have c1 := HM.out.two.at 1 (by simp [TwoD.cells])
  simp only [TwoD.cells, List.getElem_cons_succ, List.getElem_cons_zero] at c0 c1
  go_wp2_with fail
  refine (runs_any w HL.out _ HG.out t ga gb vra vrb (T0 x) (TM x) HM.out 0 (by omega) 40 (by omega) (meet x HX.out)).mono ?_
  rintro e w7 ⟨rfl, va7, vb7, hm, hg⟩
  have HG := hid hg
  have HM := hid hm
  clear hg hm c0 c1
  have c0 := HM.out.two.at 0 (by simp [TwoD.cells])
  have c1 := HM.out.two.at 1 (by simp [TwoD.cells])
  simp only [TwoD.cells, List.getElem_cons_succ, List.getElem_cons_zero] at c0 c1
  go_wp2_with fail
  refine (met_yes w.heap.size _ t ga gb va7 vb7 (TM x) HM.out (meet_met x HX.out)).mono ?_
  rintro e w8 ⟨rfl, hb⟩
  have HG := hid (HG.out.trans (hb.mono HG.out.size))
  have HM := hid (HM.out.mono hb)
  clear hb c0 c1
  have c0 := HM.out.two.at 0 (by simp [TwoD.cells])
  have c1 := HM.out.two.at 1 (by simp [TwoD.cells])
  simp only [TwoD.cells, List.getElem_cons_succ, List.getElem_cons_zero] at c0 c1
  have c25 := HM.out.two.at 25 (by simp [TwoD.cells])
  simp only [TwoD.cells, List.getElem_cons_succ, List.getElem_cons_zero] at c25
  have f25 := HM.out.two.frozen 25
  go_upto_region 5 with fail
  obtain ⟨W9, hW9⟩ : ∃ y, y = w8.setCell ⟨t, 25, none⟩ (.int .i64 0) := ⟨_, rfl⟩
  rw [← hW9]
  have HC9 := hid (show Chg (fun k => k = t) w8 W9 by rw [hW9]; exact (Chg.refl (fun k => k = t) w8).set ⟨t, 25, none⟩ _ (.inl rfl))
  have HTW8 := hid HM.out.two
  have HG := hid (show Below w.heap.size w W9 from HG.out.trans (HC9.out.below HG.out.size (fun k e => by rw [e]; exact HM.out.tB)))
  have HM := hid (show Two w.heap.size W9 t ga gb va7 vb7 { TM x with pk := 0 } from HM.out.set (by decide) (by decide) (by decide) HC9.out (by rw [hW9]; exact HTW8.out.store 25 (.int .i64 0)) rfl rfl)
  clear hW9 HC9 HTW8 c0 c1 c25 f25
  have c0 := HM.out.two.at 0 (by simp [TwoD.cells])
  have c1 := HM.out.two.at 1 (by simp [TwoD.cells])
  simp only [TwoD.cells, List.getElem_cons_succ, List.getElem_cons_zero] at c0 c1
  go_wp2_with fail
  refine (shutdown_any w.heap.size _ ga va7 (aM x) HM.out.pa).mono ?_
  rintro e w9 ⟨rfl, hd⟩
  rw [if_pos (show (aM x).st = 4 from rfl)] at hd
  rw [if_pos (show (aM x).st = 4 from rfl)]
  obtain ⟨vra, hm, hc⟩ := MidAt.didA HM.out (by decide) (by decide) (by decide) (by decide) (by decide) hd
  have HG := hid (HG.out.trans (hc.below HG.out.size HM.out.pa.ge))
  have HL0 := hid (show ∃ vra vrb T c, Two w.heap.size w9 t ga gb vra vrb T ∧ Below w.heap.size w w9 ∧ PInv x.dt T c ∧ T.now = 40 + 0 from ⟨vra, vb7, TQ x, _, hm, HG.out, part_start x HX.out HX4.out, rfl⟩)
  have HDT := hid (show x.dt ≠ 0 ∧ x.dt < 4294967296 from ⟨HX.out.dt_ne, HX.out.dt_lt⟩)
  clear hm hc hd c0 c1 HM HG
  go_wp2_with fail
  go_loopw [10] (fun y wr => ∃ i : Nat, i ≤ n ∧ y = .int .i64 (i : Int) ∧ Hid (∃ vra vrb T c, Two w.heap.size wr t ga gb vra vrb T ∧ Below w.heap.size w wr ∧ PInv x.dt T c ∧ T.now = 40 + i)) (fun y _ => n - (intOf y).toNat)
  case atStart => exact ⟨0, Nat.zero_le _, rfl, HL0⟩
  case round =>
    obtain ⟨i, hi, rfl, HI⟩ := hrel
    clear HL0
    obtain ⟨va, vb, T, c, h2, g2, r2, q2⟩ := HI.out
    have H2 := hid h2
    have G2 := hid g2
    have R2 := hid r2
    have Q2 := hid q2
    clear h2 g2 r2 q2 HI
    by_cases hlt : i < n
    · have hnn := HNN.out
      obtain ⟨T', c', t1, t2, t3, -⟩ := part_step HDT.out HLO.out R2.out (by have := Q2.out; omega)
      have HT := hid t1
      have HP := hid t2
      have HQ := hid (show T'.now = 40 + (i + 1) by have := Q2.out; omega)
      have HLT := hid hlt
      have zi : (i : Int) < (au.toNat : Int) % 20 := by have := HN.out; omega
      have hwi : IntKind.i64.wrap ((i : Int) + 1) = ((i + 1 : Nat) : Int) := by rw [IntKind.wrap_i64]; omega
      clear t1 t2 t3 hlt hi hnn
      go_wp2_with fail
      refine (turn_any w HL.out _ G2.out t ga gb va vb T T' H2.out lost (by have := HLO.out; omega) HT.out).mono ?_
      rintro e w3 ⟨rfl, va3, vb3, h3, g3⟩
      have HI := hid (show ∃ vra vrb T c, Two w.heap.size w3 t ga gb vra vrb T ∧ Below w.heap.size w w3 ∧ PInv x.dt T c ∧ T.now = 40 + (i + 1) from ⟨va3, vb3, T', c', h3, g3, HP.out, HQ.out⟩)
      clear h3 g3
      go_wp2_with fail
      go_roundw
      case rel => exact ⟨i + 1, by have := HLT.out; omega, by go_num, HI⟩
      case measure => have := HLT.out; simp [intOf]; omega
    · have hin : n = i := by omega
      subst hin
      have HNOW := hid (show T.now ≤ 60 by have := Q2.out; have := HNN.out; omega)
      have zi : (au.toNat : Int) % 20 ≤ (n : Int) := by have := HN.out; omega
      clear hlt hi Q2
      cases bo with
      | false =>
        have HL1 := hid (show ∃ vra vrb T c N, Two w.heap.size wr t ga gb vra vrb T ∧ Below w.heap.size w wr ∧ PInv x.dt T c ∧ T.now ≤ 60 + 0 ∧ Meas T c N ∧ N + 0 ≤ 6000 from ⟨_, _, _, _, 2144, H2.out, G2.out, R2.out, HNOW.out, PInv.meas R2.out, by omega⟩)
        clear HNOW H2 G2 R2
        go_wp2_with fail
        go_loopw [12] (fun y wr => ∃ i : Nat, i ≤ 6000 ∧ y = .int .i64 (i : Int) ∧ Hid (∃ vra vrb T c N, Two w.heap.size wr t ga gb vra vrb T ∧ Below w.heap.size w wr ∧ PInv x.dt T c ∧ T.now ≤ 60 + i ∧ Meas T c N ∧ N + i ≤ 6000)) (fun y _ => 6000 - (intOf y).toNat)
        case atStart => exact ⟨0, Nat.zero_le _, rfl, HL1⟩
        case round =>
          obtain ⟨i, hi, rfl, HI⟩ := hrel
          clear HL1
          obtain ⟨va, vb, T, c, N, h2, g2, r2, q2, m2, n2⟩ := HI.out
          obtain ⟨T', c', t1, t2, t3, t4⟩ := part_step HDT.out HLO.out r2 (by omega)
          have hpd := t4 N m2
          have H2 := hid h2
          have G2 := hid g2
          have HT := hid t1
          have HP := hid t2
          have HQ := hid (show T'.now ≤ 60 + (i + 1) by omega)
          have HY := hid (show partedD T = true ∨ (1 ≤ N ∧ Meas T' c' (N - 1)) from hpd.elim (fun k => .inl (part_done r2 k)) .inr)
          have HNI := hid n2
          have hwi : IntKind.i64.wrap ((i : Int) + 1) = ((i + 1 : Nat) : Int) := by rw [IntKind.wrap_i64]; omega
          clear h2 g2 r2 q2 m2 n2 t1 t2 t3 t4 hpd HI
          by_cases hlt : i < 6000
          · have HLT := hid hlt
            have zi : (i : Int) < 6000 := by omega
            clear hlt hi
            go_wp2_with fail
            refine (parted_any w.heap.size _ t ga gb va vb T H2.out).mono ?_
            rintro e w4 ⟨rfl, rfl⟩
            cases hp : partedD T with
            | true =>
              have HPD := hid hp
              clear hp
              go_wp2_with fail
              refine (parted_any w.heap.size _ t ga gb va vb T H2.out).mono ?_
              rintro e w5 ⟨rfl, rfl⟩
              rw [HPD.out]
              go_wp2_with fail
              refine (works_any _ (HL.out.mono G2.out)).mono ?_
              rintro e w6 ⟨rfl, hb6⟩
              have HGE := hid (gr_trans G2.out hb6)
              clear hb6
              go_wp2_with fail
              go_ret
              exact ⟨rfl, HGE.out⟩
            | false =>
              have HN1 := hid (HY.out.resolve_left (by rw [hp]; decide))
              clear hp
              go_wp2_with fail
              refine (turn_any w HL.out _ G2.out t ga gb va vb T T' H2.out lost (by have := HLO.out; omega) HT.out).mono ?_
              rintro e w3 ⟨rfl, va3, vb3, h3, g3⟩
              have HI := hid (show ∃ vra vrb T c N, Two w.heap.size w3 t ga gb vra vrb T ∧ Below w.heap.size w w3 ∧ PInv x.dt T c ∧ T.now ≤ 60 + (i + 1) ∧ Meas T c N ∧ N + (i + 1) ≤ 6000 from ⟨va3, vb3, T', c', N - 1, h3, g3, HP.out, HQ.out, HN1.out.2, by have := HN1.out.1; have := HNI.out; omega⟩)
              clear h3 g3
              go_wp2_with fail
              go_roundw
              case rel => exact ⟨i + 1, by have := HLT.out; omega, by go_num, HI⟩
              case measure => have := HLT.out; simp [intOf]; omega
          · have hi6 : i = 6000 := by omega
            have HPD := hid (show partedD T = true from HY.out.elim (fun k => k) (fun k => by have := HNI.out; omega))
            have zi : (6000 : Int) ≤ (i : Int) := by omega
            clear hlt hi hi6
            go_wp2_with fail
            refine (parted_any w.heap.size _ t ga gb va vb T H2.out).mono ?_
            rintro e w5 ⟨rfl, rfl⟩
            rw [HPD.out]
            go_wp2_with fail
            refine (works_any _ (HL.out.mono G2.out)).mono ?_
            rintro e w6 ⟨rfl, hb6⟩
            have HGE := hid (gr_trans G2.out hb6)
            clear hb6
            go_wp2_with fail
            go_ret
            exact ⟨rfl, HGE.out⟩
      | true =>
        have HM := hid H2.out
        have c0 := HM.out.two.at 0 (by simp [TwoD.cells])
        have c1 := HM.out.two.at 1 (by simp [TwoD.cells])
        simp only [TwoD.cells, List.getElem_cons_succ, List.getElem_cons_zero] at c0 c1
        go_wp2_with fail
        refine (shutdown_any w.heap.size _ gb vb T.b HM.out.pb).mono ?_
        rintro e w9 ⟨rfl, hd⟩
        obtain ⟨vrb, hm, hc⟩ := MidAt.didB HM.out (by decide) (by decide) (by decide) (by decide) (by decide) hd
        have HG := hid (G2.out.trans (hc.below G2.out.size HM.out.pb.ge))
        have HCS := hid (show ∃ T c, Two w.heap.size w9 t ga gb va vrb T ∧ PInv x.dt T c ∧ T.now ≤ 60 from by
          by_cases q4 : T.b.st = 4
          · rw [if_pos q4] at hm
            exact ⟨_, _, hm, part_shut R2.out q4, HNOW.out⟩
          · rw [if_neg q4] at hm
            exact ⟨_, _, hm, R2.out, HNOW.out⟩)
        obtain ⟨kr, hkr, hkk⟩ : ∃ kr : Int, (if T.b.st = 4 then (0 : Int) else 3) = kr ∧ (kr = 0 ∨ kr = 3) := ⟨_, rfl, by split <;> simp⟩
        rw [hkr]
        clear hm hc hd c0 c1 HM G2 H2 R2 hkr HNOW
        obtain ⟨T, c, h4, r4, n4⟩ := HCS.out
        have H4 := hid h4
        have R4 := hid r4
        have HNOW := hid n4
        clear h4 r4 n4 HCS
        rcases hkk with rfl | rfl
        · have HL1 := hid (show ∃ vra vrb T c N, Two w.heap.size w9 t ga gb vra vrb T ∧ Below w.heap.size w w9 ∧ PInv x.dt T c ∧ T.now ≤ 60 + 0 ∧ Meas T c N ∧ N + 0 ≤ 6000 from ⟨_, _, _, _, 2144, H4.out, HG.out, R4.out, HNOW.out, PInv.meas R4.out, by omega⟩)
          clear HNOW H4 HG R4
          go_wp2_with fail
          go_loopw [12] (fun y wr => ∃ i : Nat, i ≤ 6000 ∧ y = .int .i64 (i : Int) ∧ Hid (∃ vra vrb T c N, Two w.heap.size wr t ga gb vra vrb T ∧ Below w.heap.size w wr ∧ PInv x.dt T c ∧ T.now ≤ 60 + i ∧ Meas T c N ∧ N + i ≤ 6000)) (fun y _ => 6000 - (intOf y).toNat)
          case atStart => exact ⟨0, Nat.zero_le _, rfl, HL1⟩
          case round =>
            obtain ⟨i, hi, rfl, HI⟩ := hrel
            clear HL1
            obtain ⟨va, vb, T, c, N, h2, g2, r2, q2, m2, n2⟩ := HI.out
            obtain ⟨T', c', t1, t2, t3, t4⟩ := part_step HDT.out HLO.out r2 (by omega)
            have hpd := t4 N m2
            have H2 := hid h2
            have G2 := hid g2
            have HT := hid t1
            have HP := hid t2
            have HQ := hid (show T'.now ≤ 60 + (i + 1) by omega)
            have HY := hid (show partedD T = true ∨ (1 ≤ N ∧ Meas T' c' (N - 1)) from hpd.elim (fun k => .inl (part_done r2 k)) .inr)
            have HNI := hid n2
            have hwi : IntKind.i64.wrap ((i : Int) + 1) = ((i + 1 : Nat) : Int) := by rw [IntKind.wrap_i64]; omega
            clear h2 g2 r2 q2 m2 n2 t1 t2 t3 t4 hpd HI
            by_cases hlt : i < 6000
            · have HLT := hid hlt
              have zi : (i : Int) < 6000 := by omega
              clear hlt hi
              go_wp2_with fail
              refine (parted_any w.heap.size _ t ga gb va vb T H2.out).mono ?_
              rintro e w4 ⟨rfl, rfl⟩
              cases hp : partedD T with
              | true =>
                have HPD := hid hp
                clear hp
                go_wp2_with fail
                refine (parted_any w.heap.size _ t ga gb va vb T H2.out).mono ?_
                rintro e w5 ⟨rfl, rfl⟩
                rw [HPD.out]
                go_wp2_with fail
                refine (works_any _ (HL.out.mono G2.out)).mono ?_
                rintro e w6 ⟨rfl, hb6⟩
                have HGE := hid (gr_trans G2.out hb6)
                clear hb6
                go_wp2_with fail
                go_ret
                exact ⟨rfl, HGE.out⟩
              | false =>
                have HN1 := hid (HY.out.resolve_left (by rw [hp]; decide))
                clear hp
                go_wp2_with fail
                refine (turn_any w HL.out _ G2.out t ga gb va vb T T' H2.out lost (by have := HLO.out; omega) HT.out).mono ?_
                rintro e w3 ⟨rfl, va3, vb3, h3, g3⟩
                have HI := hid (show ∃ vra vrb T c N, Two w.heap.size w3 t ga gb vra vrb T ∧ Below w.heap.size w w3 ∧ PInv x.dt T c ∧ T.now ≤ 60 + (i + 1) ∧ Meas T c N ∧ N + (i + 1) ≤ 6000 from ⟨va3, vb3, T', c', N - 1, h3, g3, HP.out, HQ.out, HN1.out.2, by have := HN1.out.1; have := HNI.out; omega⟩)
                clear h3 g3
                go_wp2_with fail
                go_roundw
                case rel => exact ⟨i + 1, by have := HLT.out; omega, by go_num, HI⟩
                case measure => have := HLT.out; simp [intOf]; omega
            · have hi6 : i = 6000 := by omega
              have HPD := hid (show partedD T = true from HY.out.elim (fun k => k) (fun k => by have := HNI.out; omega))
              have zi : (6000 : Int) ≤ (i : Int) := by omega
              clear hlt hi hi6
              go_wp2_with fail
              refine (parted_any w.heap.size _ t ga gb va vb T H2.out).mono ?_
              rintro e w5 ⟨rfl, rfl⟩
              rw [HPD.out]
              go_wp2_with fail
              refine (works_any _ (HL.out.mono G2.out)).mono ?_
              rintro e w6 ⟨rfl, hb6⟩
              have HGE := hid (gr_trans G2.out hb6)
              clear hb6
              go_wp2_with fail
              go_ret
              exact ⟨rfl, HGE.out⟩
        · have HL1 := hid (show ∃ vra vrb T c N, Two w.heap.size w9 t ga gb vra vrb T ∧ Below w.heap.size w w9 ∧ PInv x.dt T c ∧ T.now ≤ 60 + 0 ∧ Meas T c N ∧ N + 0 ≤ 6000 from ⟨_, _, _, _, 2144, H4.out, HG.out, R4.out, HNOW.out, PInv.meas R4.out, by omega⟩)
          clear HNOW H4 HG R4
          go_wp2_with fail
          go_loopw [12] (fun y wr => ∃ i : Nat, i ≤ 6000 ∧ y = .int .i64 (i : Int) ∧ Hid (∃ vra vrb T c N, Two w.heap.size wr t ga gb vra vrb T ∧ Below w.heap.size w wr ∧ PInv x.dt T c ∧ T.now ≤ 60 + i ∧ Meas T c N ∧ N + i ≤ 6000)) (fun y _ => 6000 - (intOf y).toNat)
          case atStart => exact ⟨0, Nat.zero_le _, rfl, HL1⟩
          case round =>
            obtain ⟨i, hi, rfl, HI⟩ := hrel
            clear HL1
            obtain ⟨va, vb, T, c, N, h2, g2, r2, q2, m2, n2⟩ := HI.out
            obtain ⟨T', c', t1, t2, t3, t4⟩ := part_step HDT.out HLO.out r2 (by omega)
            have hpd := t4 N m2
            have H2 := hid h2
            have G2 := hid g2
            have HT := hid t1
            have HP := hid t2
            have HQ := hid (show T'.now ≤ 60 + (i + 1) by omega)
            have HY := hid (show partedD T = true ∨ (1 ≤ N ∧ Meas T' c' (N - 1)) from hpd.elim (fun k => .inl (part_done r2 k)) .inr)
            have HNI := hid n2
            have hwi : IntKind.i64.wrap ((i : Int) + 1) = ((i + 1 : Nat) : Int) := by rw [IntKind.wrap_i64]; omega
            clear h2 g2 r2 q2 m2 n2 t1 t2 t3 t4 hpd HI
            by_cases hlt : i < 6000
            · have HLT := hid hlt
              have zi : (i : Int) < 6000 := by omega
              clear hlt hi
              go_wp2_with fail
              refine (parted_any w.heap.size _ t ga gb va vb T H2.out).mono ?_
              rintro e w4 ⟨rfl, rfl⟩
              cases hp : partedD T with
              | true =>
                have HPD := hid hp
                clear hp
                go_wp2_with fail
                refine (parted_any w.heap.size _ t ga gb va vb T H2.out).mono ?_
                rintro e w5 ⟨rfl, rfl⟩
                rw [HPD.out]
                go_wp2_with fail
                refine (works_any _ (HL.out.mono G2.out)).mono ?_
                rintro e w6 ⟨rfl, hb6⟩
                have HGE := hid (gr_trans G2.out hb6)
                clear hb6
                go_wp2_with fail
                go_ret
                exact ⟨rfl, HGE.out⟩
              | false =>
                have HN1 := hid (HY.out.resolve_left (by rw [hp]; decide))
                clear hp
                go_wp2_with fail
                refine (turn_any w HL.out _ G2.out t ga gb va vb T T' H2.out lost (by have := HLO.out; omega) HT.out).mono ?_
                rintro e w3 ⟨rfl, va3, vb3, h3, g3⟩
                have HI := hid (show ∃ vra vrb T c N, Two w.heap.size w3 t ga gb vra vrb T ∧ Below w.heap.size w w3 ∧ PInv x.dt T c ∧ T.now ≤ 60 + (i + 1) ∧ Meas T c N ∧ N + (i + 1) ≤ 6000 from ⟨va3, vb3, T', c', N - 1, h3, g3, HP.out, HQ.out, HN1.out.2, by have := HN1.out.1; have := HNI.out; omega⟩)
                clear h3 g3
                go_wp2_with fail
                go_roundw
                case rel => exact ⟨i + 1, by have := HLT.out; omega, by go_num, HI⟩
                case measure => have := HLT.out; simp [intOf]; omega
            · have hi6 : i = 6000 := by omega
              have HPD := hid (show partedD T = true from HY.out.elim (fun k => k) (fun k => by have := HNI.out; omega))
              have zi : (6000 : Int) ≤ (i : Int) := by omega
              clear hlt hi hi6
              go_wp2_with fail
              refine (parted_any w.heap.size _ t ga gb va vb T H2.out).mono ?_
              rintro e w5 ⟨rfl, rfl⟩
              rw [HPD.out]
              go_wp2_with fail
              refine (works_any _ (HL.out.mono G2.out)).mono ?_
              rintro e w6 ⟨rfl, hb6⟩
              have HGE := hid (gr_trans G2.out hb6)
              clear hb6
              go_wp2_with fail
              go_ret
              exact ⟨rfl, HGE.out⟩

end Go.Proofs.YtiimlanbbfhkjaaDoor

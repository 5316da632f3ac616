/- PacketReads: the walk of the law. Conditions: none but what the row reads. -/
import Derived.Test.YtahpklciafpdaaaPktWorks
import Derived.Test.YtahpklciafpdaaaPktBackM
import Derived.Test.YtahpklciafpdaaaPktRefRead
import Derived.Test.YtahpklciafpdaaaApart
set_option linter.unusedSimpArgs false
set_option linter.unusedVariables false
namespace Go.FL
open Go.RowKit
theorem ARow.own_val (r : ARow) : r.val.ownBlock = r.g := by
  obtain ⟨g, l, s⟩ := r
  cases g <;> rfl
theorem arows_of {w : World} {n e : Nat} : ∀ (cs : List Chk) (ss : List Value), cs.length = ss.length → (∀ i (_ : i < cs.length) (_ : i < ss.length), Own w n e ss[i] cs[i].b) → ss.Pairwise AscV →
    ∃ rs : List ARow, rs.map ARow.val = ss ∧ (∀ r ∈ rs, r.lies w e ∧ ∀ g, r.g = some g → n ≤ g) ∧ rs.Pairwise ARow.far
  | [], [], _, _, _ => ⟨[], rfl, fun r hr => absurd hr (by simp), List.Pairwise.nil⟩
  | c :: cs, s :: ss, hl, ho, hp => by
    obtain ⟨r, h1, -, h3, h4⟩ := (ho 0 (by simp) (by simp)).arow
    simp only [List.getElem_cons_zero] at h1
    obtain ⟨hp1, hp2⟩ := List.pairwise_cons.1 hp
    obtain ⟨rs, k1, k2, k3⟩ := arows_of cs ss (by simpa using hl) (fun i a b => by have := ho (i + 1) (by simp; omega) (by simp; omega); simpa using this) hp2
    refine ⟨r :: rs, by simp [h1, k1], fun q hq => ?_, List.pairwise_cons.2 ⟨fun q hq g hg hg' => ?_, k3⟩⟩
    · simp only [List.mem_cons] at hq
      rcases hq with rfl | hq
      · exact ⟨h3, fun g hg => (h4 g hg).1⟩
      · exact k2 q hq
    · have := hp1 q.val (by rw [← k1]; exact List.mem_map_of_mem hq) g g (by rw [← h1, ARow.own_val]; exact hg) (by rw [ARow.own_val]; exact hg')
      omega
theorem readP_count (b : List UInt8) : 4 * (readP b).1.cs.length ≤ b.length := by
  unfold readP
  split
  · simp [Pkt.zero]
  · split
    · split
      · have := chunksOf_len (b.drop 12).length (b.drop 12) (Nat.le_refl _)
        rw [List.length_drop] at this
        show 4 * (chunksOf (b.drop 12)).1.length ≤ b.length
        unfold chunksOf
        rw [List.length_drop]
        omega
      · simp [Pkt.zero]
    · simp [Pkt.zero]
theorem rdV_one {w : World} (e : Nat) (v : Value) : OwnV (w.alloc (.cells #[v] e (0, 0))) w.heap.size e (.slice (some ⟨w.heap.size, 0, none⟩) 1 1) [v] :=
  .inr ⟨w.heap.size, [], Nat.le_refl _, rfl, by simpa using heap_alloc_new w _, by unfold maxLen; simp⟩
end Go.FL
namespace Go.Proofs.Ytahpklciafpdaaa
open Go.RowKit Go.FL Go.ChangeShapes
theorem infoSliP : (Try.prog.info? 29).map (fun i => (i.zero, i.size, i.bytes)) = some (some (.slice none 0 0), 1, 24) := by kernel_rfl

set_option maxRecDepth 100000 in
set_option maxHeartbeats 4000000 in
theorem packetReads_walk {w : World} {v : Value} (l : List UInt8) (hv : Rd w v l) :
    Calls Try.prog 4 #[v] w fun e w' => e = .returned (.bool true) ∧ Below w.heap.size w w' := by
  have HV := hid hv
  obtain ⟨p, c, rfl, hlc, hcm, -, -⟩ := hv
  unfold maxLen at hcm
  by_cases hbig : 4096 < l.length
  · have e1 : (4096 : Int) < (l.length : Int) := by omega
    go_enter Try.func4, Try.ntmps4
    go_wp2_with fail
    refine (works_any _).mono ?_
    rintro e w' ⟨rfl, hb⟩
    go_wp2_with fail
    go_ret
    exact ⟨rfl, hb⟩
  · have e1 : ¬ (4096 : Int) < (l.length : Int) := by omega
    have hcnt := readP_count l
    obtain ⟨t, ht⟩ : ∃ t, t = readP l := ⟨_, rfl⟩
    have HT := hid ht
    rw [← ht] at hcnt
    clear ht
    obtain ⟨⟨tg, cs⟩, er⟩ := t
    simp only at hcnt
    go_enter Try.func4, Try.ntmps4
    go_wp2_with fail
    refine (roomy_any _ l _ HV.out (by omega)).mono ?_
    rintro e w1 ⟨v1, rfl, hr1, hb1⟩
    have HR1 := hid hr1
    have G1 := hid hb1
    clear hb1 hr1
    obtain ⟨p1, n1, c1, rfl⟩ := HR1.out.rd.form
    go_wp2_with fail
    refine (pread_all _ l _ HR1.out.rd (by omega)).mono ?_
    rw [← HT.out]
    rintro e w2 ⟨v2, rfl, ⟨s2, ss, rfl, hc2, hpw, ht2⟩, hb2⟩
    simp only at hc2 ht2 ⊢
    obtain ⟨up, uc, rfl⟩ := hc2.2.1.form
    have HC2 := hid hc2
    have HPW := hid hpw
    have B2 := hid hb2
    have GA := hid (show Below w2.heap.size w2 (w2.alloc (.cells #[.int .u32 (tg : Int), .slice up cs.length uc] 25 (0, 0))) from (Below.refl _ _).alloc (Nat.le_refl _) _)
    have HRP := hid (RowV.new w2 25 [.int .u32 (tg : Int), .slice up cs.length uc])
    have G2 := hid (gr_trans G1.out (gr_trans hb2 GA.out))
    have B2A := hid (gr_trans hb2 GA.out)
    clear hb2 hc2 hpw
    go_wp2_with fail
    refine (refpread_any _ l _ (HV.out.mono G2.out) (by omega)).mono ?_
    rw [← HT.out]
    rintro e w3 ⟨v3, rfl, ⟨s3, rfl, hc3, -⟩, hb3⟩
    simp only at hc3 ⊢
    obtain ⟨up3, uc3, rfl⟩ : ∃ x y, s3 = .slice x cs.length y := by
      obtain ⟨ss3, q1, q2, q3⟩ := hc3
      exact q2.form
    obtain ⟨W4, hW4⟩ : ∃ W4, W4 = w3.alloc (.cells #[.int .u32 (tg : Int), .slice up3 cs.length uc3] 25 (0, 0)) := ⟨_, rfl⟩
    have hg4 : Below w3.heap.size w3 W4 := by rw [hW4]; exact (Below.refl _ _).alloc (Nat.le_refl _) _
    have HRQ := hid (show RowV W4 w3.heap.size 25 [.int .u32 (tg : Int), .slice up3 cs.length uc3] by rw [hW4]; exact RowV.new w3 _ _)
    have HRP4 := hid ((HRP.out.mono hb3).mono hg4)
    have HI4 := hid (show PktAt W4 (.agg #[.int .u32 (tg : Int), .slice up cs.length uc]) ⟨tg, cs⟩ from ⟨_, rfl, ((HC2.out.own.at.mono GA.out).mono hb3).mono hg4, ht2⟩)
    have HQ4 := hid (show PktAt W4 (.agg #[.int .u32 (tg : Int), .slice up3 cs.length uc3]) ⟨tg, cs⟩ from ⟨_, rfl, hc3.at.mono hg4, ht2⟩)
    have B4 := hid (gr_trans B2A.out (gr_trans hb3 hg4))
    have BA4 := hid (gr_trans GA.out (gr_trans hb3 hg4))
    have G4 := hid (gr_trans G1.out B4.out)
    have hne : w2.heap.size < w3.heap.size := by have := (HRP.out.mono hb3).lt; exact this
    have a0 := HRP4.out.at 0 (by simp)
    have a1 := HRP4.out.at 1 (by simp)
    simp only [List.getElem_cons_succ, List.getElem_cons_zero] at a0 a1
    have b0 := HRQ.out.at 0 (by simp)
    have b1 := HRQ.out.at 1 (by simp)
    simp only [List.getElem_cons_succ, List.getElem_cons_zero] at b0 b1
    rw [hW4] at a0 a1 b0 b1
    have HE4 := hid hW4
    have e6 : ((er : Int) != (er : Int)) = false := by simp
    clear hb3 hc3 hg4 hW4
    go_wp2_with fail
    rw [← HE4.out]
    clear a0 a1 b0 b1 e6
    refine (rsame_yes ⟨tg, cs⟩ _ _ _ HI4.out HQ4.out).mono ?_
    rintro e w5 ⟨rfl, hb5⟩
    have B5 := hid (gr_trans B4.out hb5)
    have BA5 := hid (gr_trans BA4.out hb5)
    have G5 := hid (gr_trans G4.out hb5)
    have HRP5 := hid (HRP4.out.mono hb5)
    clear hb5 hne
    go_wp2_with fail
    refine (kept_gr _ _ l _ _ (HR1.out.mono B5.out) (HV.out.mono G5.out)).mono ?_
    rintro e w6 ⟨rfl, hb6⟩
    have B6 := hid (gr_trans B5.out hb6)
    have BA6 := hid (gr_trans BA5.out hb6)
    have G6 := hid (gr_trans G5.out hb6)
    have HRP6 := hid (HRP5.out.mono hb6)
    have HOW := hid (rdV_one (w := w6) 29 (.slice p1 n1 c1))
    have hg7 : Below w6.heap.size w6 (w6.alloc (.cells #[.slice p1 n1 c1] 29 (0, 0))) := (Below.refl _ _).alloc (Nat.le_refl _) _
    have HRP7 := hid (HRP6.out.mono hg7)
    clear hb6
    obtain ⟨W7, hW7⟩ : ∃ W7, W7 = w6.alloc (.cells #[.slice p1 n1 c1] 29 (0, 0)) := ⟨_, rfl⟩
    rw [← hW7] at HOW hg7 HRP7
    have B7 := hid (gr_trans B6.out hg7)
    have BA7 := hid (gr_trans BA6.out hg7)
    have G7 := hid (gr_trans G6.out hg7)
    have HE7 := hid hW7
    have HSZ := hid hg7.size
    clear hW7 hg7
    go_wp2_with fail
    rw [← HE7.out]
    go_loopw [8, 9] (fun y y9 wr => ∃ i : Nat, i ≤ cs.length ∧ y9 = .int .i64 (i : Int) ∧ Hid (OwnV wr w6.heap.size 29 y (.slice p1 n1 c1 :: ss.take i)) ∧ Hid (Below w6.heap.size w6 wr)) (fun _ y9 _ => cs.length - (intOf y9).toNat)
    case atStart => exact ⟨0, Nat.zero_le _, rfl, hid (by rw [List.take_zero]; exact HOW.out), hid (by rw [HE7.out]; exact (Below.refl _ _).alloc (Nat.le_refl _) _)⟩
    case round =>
      obtain ⟨i, hi, rfl, HO, HB⟩ := hrel
      have HRPr := hid (HRP6.out.mono HB.out)
      have f1 := HRPr.out.at 1 (by simp)
      simp only [List.getElem_cons_succ, List.getElem_cons_zero] at f1
      have BAr := hid (gr_trans BA6.out HB.out)
      by_cases hlt : i < cs.length
      · have hls : cs.length = ss.length := HC2.out.1
        have hlt2 : i < ss.length := by omega
        obtain ⟨-, -, a2⟩ := chkCells_at cs ss i hlt hlt2
        obtain ⟨hkl, pp, cc, hpe, -, -, -, hcell⟩ := HC2.out.2.1.rd
        obtain ⟨hj, hje⟩ := List.getElem?_eq_some_iff.1 a2
        obtain ⟨gb, go, rfl, hc0⟩ := hcell _ hj
        rw [hje] at hc0
        simp only [Value.slice.injEq] at hpe
        obtain ⟨rfl, -, rfl⟩ := hpe
        have k2 := cell?_of_below BAr.out hc0
        rw [← Nat.add_assoc] at k2
        have hown := HC2.out.2.2 i hlt hlt2
        obtain ⟨ps, cps, hse⟩ := RdF.form hown.rd
        rw [hse] at k2
        have HTK := hid (show ss.take (i + 1) = ss.take i ++ [.slice ps cs[i].b.length cps] by rw [List.take_succ_eq_append_getElem hlt2, hse])
        have i0 : (0 : Int) ≤ (i : Int) := by omega
        have i1 : (i : Int) < (cs.length : Int) := by omega
        have i2 : ((i : Int)).toNat = i := by omega
        obtain ⟨nb, hnb⟩ : ∃ nb, nb = cs[i].b.length := ⟨_, rfl⟩
        rw [← hnb] at k2 HTK
        have htl : (Value.slice p1 n1 c1 :: ss.take i).length = i + 1 := by simp; omega
        have HTLN := hid htl
        have HNW := hid (rdV_new wr 29 [.slice ps nb cps] 1 #[.slice ps nb cps] rfl rfl (by unfold maxLen; omega))
        have GN := hid (show Below wr.heap.size wr (wr.alloc (.cells #[.slice ps nb cps] 29 (0, 0))) from (Below.refl _ _).alloc (Nat.le_refl _) _)
        have HO1 := hid (HO.out.mono GN.out)
        have HB1 := hid (gr_trans HB.out GN.out)
        clear hls hlt2 a2 hkl hcell hj hje hc0 hown hse hnb htl
        go_wp2_with (at_builtin; refine wpList_append_OwnV rfl (.tmp 50) (.tmp 57) 35 rfl w6.heap.size 29 (.slice none 0 0) 24 rfl Try.underlying35 infoSliP _ _ _ _ ?h1m (by simp) rfl HO1.out rfl HNW.out ?hlen ?hlen2 HB1.out.size ?_)
        case h1m =>
          intro x hx
          simp only [List.mem_singleton] at hx
          subst hx
          rfl
        case hlen => rw [HTLN.out, List.length_singleton]; omega
        case hlen2 => rw [HTLN.out, List.length_singleton]; omega
        intro v' w8 ho8 hg8
        have HO8 := hid (show OwnV w8 w6.heap.size 29 v' (.slice p1 n1 c1 :: ss.take (i + 1)) by rw [HTK.out, ← List.cons_append]; exact ho8)
        have HB8 := hid (HB1.out.grown hg8 HB1.out.size (fun k hk => HO1.out.ge k hk))
        clear ho8 hg8 f1 k2
        go_wp2_with fail
        go_roundw
        case rel => exact ⟨i + 1, by omega, by go_num, HO8, HB8⟩
        case measure => simp [intOf]; omega
      · obtain rfl : i = cs.length := by omega
        have HRD := hid (show RdV wr _ (.slice p1 n1 c1 :: ss) by
          have := HO.out.rd
          rwa [List.take_of_length_le (by rw [HC2.out.1]; exact Nat.le_refl _)] at this)
        have Br := hid (gr_trans B6.out HB.out)
        obtain ⟨r0, q0, -, y0, z0⟩ := HR1.out.own.arow
        obtain ⟨rs, k1, k2, k3⟩ := arows_of cs ss HC2.out.1 HC2.out.2.2 HPW.out
        have HAP := hid (apart_any _ (r0 :: rs) wr (by rw [List.map_cons, q0, k1]; exact HRD.out) (rows_lie (fun r hr => by
          simp only [List.mem_cons] at hr
          rcases hr with rfl | hr
          · exact y0.mono Br.out
          · exact (k2 r hr).1.mono BAr.out)) (rows_far (List.pairwise_cons.2 ⟨fun r hr => far_of (B := w1.heap.size) (fun g hg => (z0 g hg).2) (k2 r hr).2, k3⟩)) (by
            have : rs.length = ss.length := by rw [← k1, List.length_map]
            rw [List.length_cons, this, ← HC2.out.1]
            omega))
        clear k1 k2 k3 q0 y0 z0
        go_wp2_with fail
        refine HAP.out.mono ?_
        rintro e w9 ⟨rfl, hb9⟩
        have G9 := hid (gr_trans (gr_trans G6.out HB.out) hb9)
        clear hb9
        go_wp2_with fail
        refine (works_any _).mono ?_
        rintro e wA ⟨rfl, hbA⟩
        have GZ := hid (gr_trans G9.out hbA)
        clear hbA
        go_wp2_with fail
        go_ret
        exact ⟨rfl, GZ.out⟩
end Go.Proofs.Ytahpklciafpdaaa

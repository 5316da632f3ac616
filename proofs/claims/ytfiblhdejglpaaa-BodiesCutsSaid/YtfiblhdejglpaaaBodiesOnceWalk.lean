/- BodiesOnce: the walk of the law. Conditions: none but what the row reads. -/
import Derived.Test.YtfiblhdejglpaaaBodGot
import Derived.Test.YtfiblhdejglpaaaBodWorks
import Derived.Test.YtfiblhdejglpaaaBaseE
namespace Go.FL
open Go.RowKit
def knownB (k : UInt8) : Bool := decide (k = 0) || (decide (k = 1) || (decide (k = 2) || (decide (k = 3) || (decide (k = 4) || (decide (k = 5) || (decide (k = 7) || decide (k = 192)))))))
theorem gotB_or (e : Int) : gotB e = 0 ∨ e = 0 := by unfold gotB; split <;> simp_all
theorem initGet_k (c : Chk) (h : (initGet c).2 = 0) : c.k = 1 ∨ c.k = 2 := by
  unfold initGet at h
  by_cases hp : initMay c = true ∧ (initOf c).chk c.k = c
  · have := hp.1
    unfold initMay at this
    simp only [Bool.and_eq_true, Bool.or_eq_true, decide_eq_true_eq] at this
    rcases this.2 with h | h
    · exact .inl h
    · exact .inr h.1
  · rw [if_neg hp] at h
    exact absurd h (by decide)
theorem timeGet_k (c : Chk) (h : (timeGet c).2 = 0) : c.k = 4 ∨ c.k = 5 := by
  unfold timeGet at h
  by_cases hp : (decide (c.k = 4) || decide (c.k = 5)) = true ∧ timeChk c.k (timeI (numAt c.b 4 8)) = c
  · simpa using hp.1
  · rw [if_neg hp] at h
    exact absurd h (by decide)
/-- A chunk is got once at most, and then its kind is known. -/
theorem gotN_law (c : Chk) : gotN c ≤ 1 ∧ (gotN c = 0 ∨ knownB c.k = true) := by
  have k1 : gotB (dataGet c).2 = 0 ∨ c.k.toNat = 0 := (gotB_or _).imp id fun h => by have := congrArg Chk.k (dataGet_ok c h).2.1; rw [← this]; rfl
  have k2 : gotB (initGet c).2 = 0 ∨ c.k.toNat = 1 ∨ c.k.toNat = 2 := (gotB_or _).imp id fun h => (initGet_k c h).imp (fun e => by rw [e]; rfl) (fun e => by rw [e]; rfl)
  have k3 : gotB (sackGet c).2 = 0 ∨ c.k.toNat = 3 := (gotB_or _).imp id fun h => by have := congrArg Chk.k (sackGet_ok c h).2.1; rw [← this]; rfl
  have k4 : gotB (fwdGet c).2 = 0 ∨ c.k.toNat = 192 := (gotB_or _).imp id fun h => by have := congrArg Chk.k (fwdGet_ok c h).2.1; rw [← this]; rfl
  have k5 : gotB (timeGet c).2 = 0 ∨ c.k.toNat = 4 ∨ c.k.toNat = 5 := (gotB_or _).imp id fun h => (timeGet_k c h).imp (fun e => by rw [e]; rfl) (fun e => by rw [e]; rfl)
  have k6 : gotB (cumGet c).2 = 0 ∨ c.k.toNat = 7 := (gotB_or _).imp id fun h => by have := congrArg Chk.k (cumGet_ok c h).2; rw [← this]; rfl
  have l1 := gotB_le (dataGet c).2
  have l2 := gotB_le (initGet c).2
  have l3 := gotB_le (sackGet c).2
  have l4 := gotB_le (fwdGet c).2
  have l5 := gotB_le (timeGet c).2
  have l6 := gotB_le (cumGet c).2
  unfold gotN
  refine ⟨by omega, ?_⟩
  by_cases hk : knownB c.k = true
  · exact .inr hk
  · refine .inl ?_
    have hn : ∀ K : UInt8, knownB K = true → c.k.toNat ≠ K.toNat := fun K hK h => hk (by rw [UInt8.toNat_inj.1 h]; exact hK)
    have n0 := hn 0 rfl
    have n1 := hn 1 rfl
    have n2 := hn 2 rfl
    have n3 := hn 3 rfl
    have n4 := hn 4 rfl
    have n5 := hn 5 rfl
    have n7 := hn 7 rfl
    have n192 := hn 192 rfl
    rw [show (0 : UInt8).toNat = 0 from rfl] at n0
    rw [show (1 : UInt8).toNat = 1 from rfl] at n1
    rw [show (2 : UInt8).toNat = 2 from rfl] at n2
    rw [show (3 : UInt8).toNat = 3 from rfl] at n3
    rw [show (4 : UInt8).toNat = 4 from rfl] at n4
    rw [show (5 : UInt8).toNat = 5 from rfl] at n5
    rw [show (7 : UInt8).toNat = 7 from rfl] at n7
    rw [show (192 : UInt8).toNat = 192 from rfl] at n192
    omega
end Go.FL
namespace Go.Proofs.Ytfiblhdejglpaaa
open Go.RowKit Go.FL Go.ChangeShapes

set_option maxRecDepth 100000 in
set_option maxHeartbeats 4000000 in
theorem bodiesOnce_walk {w : World} {v : Value} (ch : Chk) (h : ChkAt w v ch) :
    Calls Try.prog 10 #[v] w fun e w' => e = .returned (.bool true) ∧ Below w.heap.size w w' := by
  have HCH := hid (show ChkV w v ch from h)
  obtain ⟨s, rfl, hrd⟩ := h
  have HV := hid hrd
  obtain ⟨p, c, rfl, hlc, hcm, hpn, hcell⟩ := hrd
  unfold maxLen at hcm
  clear hcell
  have HLAW := hid (gotN_law ch)
  obtain ⟨kc, fc, bc⟩ := ch
  simp only at *
  obtain ⟨W, hW⟩ : ∃ W, W = w.alloc (.cells #[.int .u8 (kc.toNat : Int), .int .u8 (fc.toNat : Int), .slice p bc.length c] 28 (0, 0)) := ⟨_, rfl⟩
  have HC := hid (show RowV W w.heap.size 28 [.int .u8 (kc.toNat : Int), .int .u8 (fc.toNat : Int), .slice p bc.length c] by rw [hW]; exact RowV.new w 28 _)
  have G0 := hid (show Below w.heap.size w W by rw [hW]; exact (Below.refl _ _).alloc (Nat.le_refl _) _)
  obtain ⟨k0, k1, k2⟩ := HC.out.three
  rw [hW] at k0 k1 k2
  have HE := hid hW
  obtain ⟨n, hn⟩ : ∃ n, n = gotN ⟨kc, fc, bc⟩ := ⟨_, rfl⟩
  have HN := hid hn
  rw [← hn] at HLAW
  clear hW hn
  go_enter Try.func10, Try.ntmps10
  go_wp2_with fail
  rw [← HE.out]
  refine (large_any _ ⟨kc, fc, bc⟩ _ (HCH.out.mono G0.out)).mono ?_
  rintro e w1 ⟨rfl, hb1⟩
  simp only
  have HC1 := hid (HC.out.mono hb1)
  have G1 := hid (gr_trans G0.out hb1)
  clear hb1 k0 k1 k2
  obtain ⟨k0, k1, k2⟩ := HC1.out.three
  by_cases hl : 8192 < bc.length
  · rw [decide_eq_true hl]
    go_wp2_with fail
    refine (works_any _).mono ?_
    rintro e w2 ⟨rfl, hb2⟩
    go_wp2_with fail
    go_ret
    exact ⟨rfl, gr_trans G1.out hb2⟩
  · rw [decide_eq_false hl]
    have HL := hid (show bc.length ≤ 1000000 by omega)
    clear hl
    go_wp2_with fail
    refine (got_any _ ⟨kc, fc, bc⟩ _ (HCH.out.mono G1.out) HL.out).mono ?_
    rintro e w2 ⟨rfl, hb2⟩
    rw [← HN.out]
    have HC2 := hid (HC1.out.mono hb2)
    have G2 := hid (gr_trans G1.out hb2)
    clear hb2 k0 k1 k2
    obtain ⟨k0, k1, k2⟩ := HC2.out.three
    go_upto_region 4 with fail
    go_cut [5] from 14 to 51 (fun s5 wx => s5 = .bool (knownB kc) ∧ w2 = wx)
    case first =>
      by_cases e0 : kc = 0
      · have h0 : ((kc.toNat : Int) == 0) = true := by rw [kind_eq kc 0 0 rfl, decide_eq_true e0]
        have HKB := hid (show knownB kc = true by rw [e0]; rfl)
        clear e0
        go_wp2_with fail
        go_meet
        exact ⟨by rw [HKB.out], rfl⟩
      · have h0 : ((kc.toNat : Int) == 0) = false := by rw [kind_eq kc 0 0 rfl, decide_eq_false e0]
        by_cases e1 : kc = 1
        · have h1 : ((kc.toNat : Int) == 1) = true := by rw [kind_eq kc 1 1 rfl, decide_eq_true e1]
          have HKB := hid (show knownB kc = true by rw [e1]; rfl)
          clear e0 e1
          go_wp2_with fail
          go_meet
          exact ⟨by rw [HKB.out], rfl⟩
        · have h1 : ((kc.toNat : Int) == 1) = false := by rw [kind_eq kc 1 1 rfl, decide_eq_false e1]
          by_cases e2 : kc = 2
          · have h2 : ((kc.toNat : Int) == 2) = true := by rw [kind_eq kc 2 2 rfl, decide_eq_true e2]
            have HKB := hid (show knownB kc = true by rw [e2]; rfl)
            clear e0 e1 e2
            go_wp2_with fail
            go_meet
            exact ⟨by rw [HKB.out], rfl⟩
          · have h2 : ((kc.toNat : Int) == 2) = false := by rw [kind_eq kc 2 2 rfl, decide_eq_false e2]
            by_cases e3 : kc = 3
            · have h3 : ((kc.toNat : Int) == 3) = true := by rw [kind_eq kc 3 3 rfl, decide_eq_true e3]
              have HKB := hid (show knownB kc = true by rw [e3]; rfl)
              clear e0 e1 e2 e3
              go_wp2_with fail
              go_meet
              exact ⟨by rw [HKB.out], rfl⟩
            · have h3 : ((kc.toNat : Int) == 3) = false := by rw [kind_eq kc 3 3 rfl, decide_eq_false e3]
              by_cases e4 : kc = 4
              · have h4 : ((kc.toNat : Int) == 4) = true := by rw [kind_eq kc 4 4 rfl, decide_eq_true e4]
                have HKB := hid (show knownB kc = true by rw [e4]; rfl)
                clear e0 e1 e2 e3 e4
                go_wp2_with fail
                go_meet
                exact ⟨by rw [HKB.out], rfl⟩
              · have h4 : ((kc.toNat : Int) == 4) = false := by rw [kind_eq kc 4 4 rfl, decide_eq_false e4]
                by_cases e5 : kc = 5
                · have h5 : ((kc.toNat : Int) == 5) = true := by rw [kind_eq kc 5 5 rfl, decide_eq_true e5]
                  have HKB := hid (show knownB kc = true by rw [e5]; rfl)
                  clear e0 e1 e2 e3 e4 e5
                  go_wp2_with fail
                  go_meet
                  exact ⟨by rw [HKB.out], rfl⟩
                · have h5 : ((kc.toNat : Int) == 5) = false := by rw [kind_eq kc 5 5 rfl, decide_eq_false e5]
                  by_cases e6 : kc = 7
                  · have h6 : ((kc.toNat : Int) == 7) = true := by rw [kind_eq kc 7 7 rfl, decide_eq_true e6]
                    have HKB := hid (show knownB kc = true by rw [e6]; rfl)
                    clear e0 e1 e2 e3 e4 e5 e6
                    go_wp2_with fail
                    go_meet
                    exact ⟨by rw [HKB.out], rfl⟩
                  · have h6 : ((kc.toNat : Int) == 7) = false := by rw [kind_eq kc 7 7 rfl, decide_eq_false e6]
                    by_cases e7 : kc = 192
                    · have h7 : ((kc.toNat : Int) == 192) = true := by rw [kind_eq kc 192 192 rfl, decide_eq_true e7]
                      have HKB := hid (show knownB kc = true by rw [e7]; rfl)
                      clear e0 e1 e2 e3 e4 e5 e6 e7
                      go_wp2_with fail
                      go_meet
                      exact ⟨by rw [HKB.out], rfl⟩
                    · have h7 : ((kc.toNat : Int) == 192) = false := by rw [kind_eq kc 192 192 rfl, decide_eq_false e7]
                      have HKB := hid (show knownB kc = false by unfold knownB; simp [e0, e1, e2, e3, e4, e5, e6, e7])
                      clear e0 e1 e2 e3 e4 e5 e6 e7
                      go_wp2_with fail
                      go_meet
                      exact ⟨by rw [HKB.out], rfl⟩
    case rest =>
      obtain ⟨rfl, rfl⟩ := hcut
      have hn1 : decide ((n : Int) ≤ 1) = true := decide_eq_true (by have := HLAW.out.1; omega)
      have hn2 : (n : Int) ≤ 1 := by have := HLAW.out.1; omega
      by_cases hz : n = 0
      · have hz1 : ((n : Int) == 0) = true := by simp [hz]
        clear hz
        go_wp2_with fail
        refine (works_any _).mono ?_
        rintro e w3 ⟨rfl, hb3⟩
        go_wp2_with fail
        go_ret
        exact ⟨rfl, gr_trans G2.out hb3⟩
      · have hz1 : ((n : Int) == 0) = false := by simp; omega
        rw [show knownB kc = true from HLAW.out.2.resolve_left hz]
        clear hz
        go_wp2_with fail
        refine (works_any _).mono ?_
        rintro e w3 ⟨rfl, hb3⟩
        go_wp2_with fail
        go_ret
        exact ⟨rfl, gr_trans G2.out hb3⟩
end Go.Proofs.Ytfiblhdejglpaaa

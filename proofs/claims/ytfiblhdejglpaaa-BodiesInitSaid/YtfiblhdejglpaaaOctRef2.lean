/- What the reference's Round and Pad answer. Conditions: what comes in reads as bytes, of a length that memory bears. -/
import Derived.Test.YtfiblhdejglpaaaBaseD
namespace Go.Proofs.Ytfiblhdejglpaaa
open Go.RowKit Go.FL

set_option maxHeartbeats 400000 in
theorem refRound_any (n : Int) (w : World) (h : (Lit.int .i64 n).wf = true) : Calls Try.prog 78 #[.int .i64 n] w fun e w' => e = .returned (.int .i64 (roundI n)) ∧ w = w' := by
  have hb := bounds_i64 h
  clear h
  by_cases h1 : n < 0
  · have HB := hid (show roundI n = 0 by simp [roundI, h1])
    go_enter Try.func78, Try.ntmps78
    go_wp2
    go_ret
    exact ⟨by rw [HB.out]; rfl, rfl⟩
  · by_cases h2 : 4611686018427387904 < n
    · have HB := hid (show roundI n = 0 by simp [roundI, h2])
      go_enter Try.func78, Try.ntmps78
      go_wp2
      go_ret
      exact ⟨by rw [HB.out]; rfl, rfl⟩
    · have HB := hid (show roundI n = (n + 3) / 4 * 4 by unfold roundI; rw [if_neg (by omega)])
      obtain ⟨m, rfl⟩ : ∃ m : Nat, n = (m : Int) := ⟨n.toNat, by omega⟩
      go_enter Try.func78, Try.ntmps78
      go_wp2
      go_loop [0] (fun x => ∃ k : Nat, m ≤ k ∧ k ≤ (m + 3) / 4 * 4 ∧ x = .int .i64 (k : Int)) (fun x => (m + 3) / 4 * 4 - (intOf x).toNat)
      case atStart => exact ⟨m, Nat.le_refl _, by omega, rfl⟩
      case round =>
        obtain ⟨k, hk, hk2, rfl⟩ := hrel
        by_cases hm : k % 4 = 0
        · have hz : ((k : Int) % 4 != 0) = false := by rw [bne_eq_false_iff_eq]; omega
          have e : k = (m + 3) / 4 * 4 := by omega
          have E := hid e
          clear e hm
          go_wp2
          go_ret
          exact ⟨by rw [HB.out, E.out]; simp, rfl⟩
        · have hz : ((k : Int) % 4 != 0) = true := by rw [bne_iff_ne]; omega
          have hlt : k < (m + 3) / 4 * 4 := by omega
          clear hm
          go_wp2
          go_round
          case rel => exact ⟨k + 1, by omega, by omega, by go_num⟩
          case measure => simp [intOf]; omega

set_option maxRecDepth 20000 in
set_option maxHeartbeats 400000 in
theorem refPad_any (v : Value) (l : List UInt8) (w : World) (h : Rd w v l) (hs : l.length ≤ 140737488355300) :
    Calls Try.prog 69 #[v] w (RetOwn w 5 (padded l)) := by
  have H := hid h
  obtain ⟨p, c, rfl, hlc, hcm, hpn, hcell⟩ := h
  unfold maxLen at hcm
  clear hcell
  have hr := roundN_le l.length
  have hr2 := roundN_lt l.length
  have HRI := hid (roundI_nat l.length (by omega))
  have HP := hid (show padded l = l ++ List.replicate (roundN l.length - l.length) 0 from rfl)
  generalize roundN l.length = r at *
  go_enter Try.func69, Try.ntmps69
  go_wp2_with fail
  refine (copyBytes_any _ l _ H.out (by omega)).mono ?_
  rintro e w1 ⟨v1, rfl, ho1, hb1⟩
  have HO1 := hid ho1
  have HB1 := hid hb1
  clear ho1 hb1
  go_wp2_with fail
  go_loopw [3] (fun o wr => ∃ (j : Nat) (q : Option Addr) (cc : Nat), l.length + j ≤ r ∧ o = .slice q (l.length + j) cc ∧ Hid (Own wr w.heap.size 5 (.slice q (l.length + j) cc) (l ++ List.replicate j 0)) ∧ Below w.heap.size w wr) (fun o _ => match o with | .slice _ n _ => r - n | _ => 0)
  case atStart =>
    have h1 := HO1.out
    rcases h1 with ⟨rfl, e⟩ | ⟨g, sp, h2, rfl, h3, h4⟩
    · exact ⟨0, none, 0, by omega, by rw [e]; rfl, by rw [e]; exact Own.nil _ _ _, HB1.out⟩
    · exact ⟨0, _, _, by omega, rfl, .inr ⟨g, sp, h2, by simp, by simpa using h3, by simpa using h4⟩, HB1.out⟩
  case round =>
    clear HO1 HB1
    obtain ⟨j, q, cc, hj, rfl, ho, hb⟩ := hrel
    have HB := hid hb
    clear hb
    go_wp2_with fail
    refine (refRound_any _ _ (WalkArith.wf_i64 (by omega))).mono ?_
    rintro e w2 ⟨rfl, rfl⟩
    rw [HRI.out]
    by_cases hlt : l.length + j < r
    · have hlt' : ((l.length : Int) + (j : Int)) < (r : Int) := by omega
      go_wp2_with (at_builtin; refine wpList_append_Own rfl (.tmp 12) (.tmp 13) 24 rfl w.heap.size 5 Try.underlying24 infoU8o _ _ (l ++ List.replicate j 0) [0] rfl (ho.out.alloc _) rfl ?hrd ?hlen ?hbase ?_)
      case hrd => exact rd_new wr 5 [0] 1 _ rfl rfl (by unfold maxLen; omega)
      case hlen => simp; omega
      case hbase => have := HB.out.size; simp; omega
      intro v3 w3 ho3 hg3
      have HB3 := hid ((HB.out.alloc HB.out.size (.cells #[.int .u8 0] 5 (0, 0))).grown hg3 (by have := HB.out.size; simp; omega) ho.out.ge)
      have hsh : ∃ q cc, v3 = .slice q (l.length + (j + 1)) cc := by
        rcases ho3 with ⟨_, e⟩ | ⟨g, sp, _, e, _, _⟩
        · simp at e
        · exact ⟨some ⟨g, 0, none⟩, l.length + (j + 1) + sp.length, by rw [e]; simp⟩
      obtain ⟨q3, c3, rfl⟩ := hsh
      rw [← List.replicate_succ'] at ho3
      have HO3 := hid ho3
      clear ho3 hg3 ho HB
      go_wp2
      go_roundw
      case rel => exact ⟨j + 1, q3, c3, by omega, rfl, HO3.out, HB3.out⟩
      case measure => show r - (l.length + (j + 1)) < r - (l.length + j); omega
    · have hge : ¬ ((l.length : Int) + (j : Int)) < (r : Int) := by omega
      have ej : j = r - l.length := by omega
      have EJ := hid ej
      clear ej hlt
      go_wp2
      go_ret
      exact ⟨_, rfl, by rw [HP.out, ← EJ.out]; exact ho.out, HB.out⟩
end Go.Proofs.Ytfiblhdejglpaaa

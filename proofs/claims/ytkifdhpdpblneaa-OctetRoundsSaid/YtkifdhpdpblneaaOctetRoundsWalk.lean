/- OctetRounds: the walk of the law. Conditions: none but what the row reads. -/
import Derived.Test.YtkifdhpdpblneaaOctWorks
namespace Go.Proofs.Ytkifdhpdpblneaa
open Go.RowKit Go.FL

set_option maxRecDepth 20000 in
set_option maxHeartbeats 400000 in
theorem octetRounds_walk {w : World} (n : Int) (hn : (Lit.int .i64 n).wf = true) :
    Calls Try.prog 7 #[.int .i64 n] w fun e w' => e = .returned (.bool true) ∧ Below w.heap.size w w' := by
  have hb := bounds_i64 hn
  by_cases h1 : n < 0
  · have HR := hid (show roundI n = 0 by simp [roundI, h1])
    go_enter Try.func7, Try.ntmps7
    go_wp2_with fail
    refine (round_any n _ hn).mono ?_
    rw [HR.out]
    rintro e w3 ⟨rfl, rfl⟩
    go_wp2_with fail
    refine (works_any _).mono ?_
    rintro e w9 ⟨rfl, hb9⟩
    go_wp2_with fail
    go_ret
    exact ⟨rfl, hb9⟩
  · by_cases h2 : 4611686018427387904 < n
    · have HR := hid (show roundI n = 0 by simp [roundI, h2])
      go_enter Try.func7, Try.ntmps7
      go_wp2_with fail
      refine (round_any n _ hn).mono ?_
      rw [HR.out]
      rintro e w3 ⟨rfl, rfl⟩
      go_wp2_with fail
      refine (works_any _).mono ?_
      rintro e w9 ⟨rfl, hb9⟩
      go_wp2_with fail
      go_ret
      exact ⟨rfl, hb9⟩
    · obtain ⟨m, hm⟩ : ∃ m : Int, (n + 3) / 4 * 4 = m := ⟨_, rfl⟩
      have HR := hid (show roundI n = m by unfold roundI; rw [if_neg (by omega), hm])
      have HR2 := hid (show roundI m = m by unfold roundI; rw [if_neg (by omega)]; omega)
      have hm4 : (m % 4 == 0) = true := by rw [beq_iff_eq]; omega
      have hge : n ≤ m := by omega
      have hlt : m - n < 4 := by omega
      have hm0 : 0 ≤ m := by omega
      have hwf : (Lit.int .i64 m).wf = true := WalkArith.wf_i64 (by omega)
      have hmm : m ≤ 4611686018427387904 := by omega
      clear hm
      go_enter Try.func7, Try.ntmps7
      go_wp2_with fail
      refine (round_any n _ hn).mono ?_
      rw [HR.out]
      rintro e w3 ⟨rfl, rfl⟩
      go_wp2_with fail
      refine (round_any m _ hwf).mono ?_
      rw [HR2.out]
      rintro e w3 ⟨rfl, rfl⟩
      go_wp2_with fail
      refine (works_any _).mono ?_
      rintro e w9 ⟨rfl, hb9⟩
      go_wp2_with fail
      go_ret
      exact ⟨rfl, hb9⟩
end Go.Proofs.Ytkifdhpdpblneaa

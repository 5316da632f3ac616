/- The law's Large: what it lets through is small. Conditions: what comes in reads as it should. -/
import Derived.Test.YtahpklciafpdaaaPktSize
set_option linter.unusedSimpArgs false
set_option linter.unusedVariables false
namespace Go.FL
open Go.RowKit
def minsN (cs : List Chk) : Nat := (cs.map (fun c => min c.b.length 262144)).sum
theorem minsN_take (cs : List Chk) (j : Nat) (h : j < cs.length) : minsN (cs.take (j + 1)) = minsN (cs.take j) + min cs[j].b.length 262144 := by
  rw [List.take_succ_eq_append_getElem h]
  unfold minsN
  rw [List.map_append, List.sum_append]
  simp only [List.map_cons, List.map_nil, List.sum_cons, List.sum_nil, Nat.add_zero]
theorem small_of : ∀ (cs : List Chk), minsN cs ≤ 131072 → (∀ c ∈ cs, c.b.length ≤ 131072) ∧ sizesN cs ≤ minsN cs + 7 * cs.length
  | [], _ => ⟨fun c hc => absurd hc (by simp), by simp [sizesN]⟩
  | c :: cs, h => by
    have e : minsN (c :: cs) = min c.b.length 262144 + minsN cs := by simp [minsN]
    rw [e] at h
    obtain ⟨h1, h2⟩ := small_of cs (by omega)
    have h3 : c.b.length ≤ 131072 := by
      have h4 : min c.b.length 262144 ≤ 131072 := by omega
      rcases Nat.le_total c.b.length 262144 with h5 | h5
      · rw [Nat.min_eq_left h5] at h4
        exact h4
      · rw [Nat.min_eq_right h5] at h4
        omega
    have h4 : min c.b.length 262144 = c.b.length := Nat.min_eq_left (by omega)
    refine ⟨fun d hd => ?_, ?_⟩
    · simp only [List.mem_cons] at hd
      rcases hd with rfl | hd
      · exact h3
      · exact h1 d hd
    · rw [sizesN_cons, e, h4, List.length_cons]
      have : sizeC c ≤ c.b.length + 7 := by
        unfold sizeC
        have := roundN_lt c.b.length
        omega
      omega
/-- So small is what is gone through. -/
def SmallP (p : Pkt) : Prop := p.cs.length ≤ 500 ∧ (∀ c ∈ p.cs, c.b.length ≤ 131072) ∧ sizesN p.cs ≤ 140000
def LargeSays (p : Pkt) (w : World) (e : Ending) (w' : World) : Prop := ∃ b : Bool, e = .returned (.bool b) ∧ (b = false → SmallP p) ∧ Below w.heap.size w w'
end Go.FL
namespace Go.Proofs.Ytahpklciafpdaaa
open Go.RowKit Go.FL Go.ChangeShapes

set_option maxRecDepth 20000 in
set_option maxHeartbeats 1000000 in
theorem large_any (p : Pkt) (v : Value) (w : World) (h : PktAt w v p) :
    Calls Try.prog 11 #[v] w (LargeSays p w) := by
  obtain ⟨s, rfl, hcs, ht⟩ := h
  obtain ⟨tag, cs⟩ := p
  simp only at *
  obtain ⟨q, cp, rfl, hlc, hcm, hel⟩ := hcs
  have HEL := hid hel
  unfold maxLen at hcm
  clear hel
  obtain ⟨n, hn⟩ : ∃ n, n = cs.length := ⟨_, rfl⟩
  have HN := hid hn
  rw [← hn] at hlc ⊢
  clear hn
  obtain ⟨W, hW⟩ : ∃ W, W = w.alloc (.cells #[.int .u32 (tag : Int), .slice q n cp] 25 (0, 0)) := ⟨_, rfl⟩
  have HR := hid (show RowV W w.heap.size 25 [.int .u32 (tag : Int), .slice q n cp] by rw [hW]; exact RowV.new w _ _)
  have G := hid (show Below w.heap.size w W by rw [hW]; exact (Below.refl _ _).alloc (Nat.le_refl _) _)
  have r1 := HR.out.at 1 (by simp)
  simp only [List.getElem_cons_succ, List.getElem_cons_zero] at r1
  rw [hW] at r1
  have HE := hid hW
  clear hW
  have hnb : n ≤ 9223372036854775807 := by omega
  go_enter Try.func11, Try.ntmps11
  go_wp2_with fail
  rw [← HE.out]
  clear r1
  go_loopw [3, 4] (fun y y9 wr => ∃ i a : Nat, i ≤ n ∧ y9 = .int .i64 (i : Int) ∧ y = .int .i64 (a : Int) ∧ Hid (a = n + minsN (cs.take i)) ∧ Hid (a ≤ 131072 + 262144 ∨ i = 0) ∧ Hid (Below W.heap.size W wr)) (fun _ y9 _ => n - (intOf y9).toNat)
  case atStart => exact ⟨0, n, Nat.zero_le _, rfl, rfl, hid (by simp [minsN]), hid (.inr rfl), hid (Below.refl _ _)⟩
  case round =>
    obtain ⟨i, a, hi, rfl, rfl, HA, HAB, HB⟩ := hrel
    have HRr := hid (HR.out.mono HB.out)
    have r1 := HRr.out.at 1 (by simp)
    simp only [List.getElem_cons_succ, List.getElem_cons_zero] at r1
    by_cases hsm : a ≤ 131072
    · have s1 : (a : Int) ≤ 131072 := by omega
      by_cases hlt : i < n
      · have hlt2 : i < cs.length := by rw [← HN.out]; exact hlt
        obtain ⟨gb, go, sl, rfl, k0, k1, k2, hrd⟩ := HEL.out i hlt2
        have h2 := cell?_of_below (gr_trans G.out HB.out) k2
        have HST := hid (minsN_take cs i hlt2)
        have i0 : (0 : Int) ≤ (i : Int) := by omega
        have i1 : (i : Int) < (n : Int) := by omega
        have i2 : ((i : Int)).toNat = i := by omega
        generalize cs[i] = cx at *
        obtain ⟨kk, ff, b⟩ := cx
        simp only at h2 hrd
        obtain ⟨ps, cps, rfl, hls, hms, -, -⟩ := hrd
        unfold maxLen at hms
        obtain ⟨mn, hmn⟩ : ∃ x, x = min b.length 262144 := ⟨_, rfl⟩
        have hmi : (if (262144 : Int) < (b.length : Int) then (262144 : Int) else (b.length : Int)) = (mn : Int) := by rw [hmn]; split <;> omega
        have hmb : mn ≤ 262144 := by rw [hmn]; exact Nat.min_le_right _ _
        simp only at HST
        rw [← hmn] at HST
        obtain ⟨a2, ha2⟩ : ∃ x, x = a + mn := ⟨_, rfl⟩
        have hw : IntKind.i64.wrap ((a : Int) + (mn : Int)) = (a2 : Int) := by rw [IntKind.wrap_i64]; omega
        have hai : (a : Int) + (mn : Int) = (a2 : Int) := by omega
        have HA2 := hid (show a2 = n + minsN (cs.take (i + 1)) by rw [ha2, HST.out, HA.out]; omega)
        have HB2 := hid (show a2 ≤ 131072 + 262144 ∨ i + 1 = 0 from .inl (by omega))
        clear k0 k1 k2 hlt2 hmn ha2
        go_wp2_with fail
        go_roundw
        case rel => exact ⟨i + 1, a2, by omega, by go_num, rfl, HA2, HB2, HB⟩
        case measure => simp [intOf]; omega
      · obtain rfl : i = n := by omega
        have HTA := hid (show a = i + minsN cs by
          have := HA.out
          rwa [List.take_of_length_le (by rw [← HN.out]; exact Nat.le_refl _)] at this)
        have s2 : ¬ (131072 : Int) < (a : Int) := by omega
        by_cases h5 : i ≤ 500
        · have s3 : ¬ (500 : Int) < (i : Int) := by omega
          have HSM := hid (show SmallP ⟨tag, cs⟩ by
            have h1 := HTA.out
            have h2 := HN.out
            obtain ⟨q1, q2⟩ := small_of cs (by omega)
            exact ⟨by simp only; omega, q1, by simp only; omega⟩)
          go_wp2_with fail
          go_ret
          exact ⟨_, rfl, fun _ => HSM.out, gr_trans G.out HB.out⟩
        · have s3 : (500 : Int) < (i : Int) := by omega
          go_wp2_with fail
          go_ret
          exact ⟨_, rfl, fun h => absurd h (by simp), gr_trans G.out HB.out⟩
    · have s1 : ¬ (a : Int) ≤ 131072 := by omega
      have s2 : (131072 : Int) < (a : Int) := by omega
      by_cases hlt : i < n
      · have i1 : (i : Int) < (n : Int) := by omega
        go_wp2_with fail
        go_ret
        exact ⟨_, rfl, fun h => absurd h (by simp), gr_trans G.out HB.out⟩
      · have i1 : ¬ (i : Int) < (n : Int) := by omega
        go_wp2_with fail
        go_ret
        exact ⟨_, rfl, fun h => absurd h (by simp), gr_trans G.out HB.out⟩
end Go.Proofs.Ytahpklciafpdaaa

/- What is read of bytes with a right sum. Conditions: none. No program but for the name of the sum. -/
import Derived.Test.YtahpklciafpdaaaPktSummed
import Derived.Test.YtahpklciafpdaaaPktBackM
set_option linter.unusedSimpArgs false
set_option linter.unusedVariables false
namespace Go.FL
theorem setSum_length (b : List UInt8) (h : 12 ≤ b.length) : (setSum b).length = b.length := by
  simp [setSum, beBytes_length]
  omega
theorem setSum_take (b : List UInt8) (h : 12 ≤ b.length) : (setSum b).take 8 = b.take 8 := by
  unfold setSum
  rw [List.take_left' (by rw [List.length_take]; omega)]
theorem setSum_drop (b : List UInt8) (h : 12 ≤ b.length) : (setSum b).drop 12 = b.drop 12 := by
  have e : setSum b = (b.take 8 ++ beBytes 4 (sumB b)) ++ b.drop 12 := by simp [setSum]
  rw [e, List.drop_left' (by simp [beBytes_length]; omega)]
theorem setSum_sum (b : List UInt8) (h : 12 ≤ b.length) : sumB (setSum b) = sumB b := by
  have e : bareB (setSum b) = bareB b := by rw [bareB, setSum_take b h, setSum_drop b h, bareB]
  rw [sumB, e, sumB]
theorem seg_head (l : List UInt8) (a n : Nat) (h : a + n ≤ 8) : (l.drop a).take n = ((l.take 8).drop a).take n := by
  rw [List.drop_take, List.take_take, Nat.min_eq_left (by omega)]
theorem numAt_head (l m : List UInt8) (a n : Nat) (h : a + n ≤ 8) (e : l.take 8 = m.take 8) (hl : 8 ≤ l.length) (hm : 8 ≤ m.length) : numAt l a n = numAt m a n := by
  unfold numAt
  rw [if_pos (by omega), if_pos (by omega), seg_head l a n h, seg_head m a n h, e]
theorem readP_setSum (b : List UInt8) (h : 12 ≤ b.length) : readP (setSum b) = if (chunksOf (b.drop 12)).2 = true ∧ (numAt b 0 2 = 5000 ∧ numAt b 2 2 = 5000) ∧ mayB (chunksOf (b.drop 12)).1 = true then (⟨numAt b 4 4, (chunksOf (b.drop 12)).1⟩, 0) else (.zero, 7) := by
  have hl := setSum_length b h
  have n8 : numAt (setSum b) 8 4 = sumB b := by
    have h8 : (b.take 8).length = 8 := by rw [List.length_take]; omega
    exact numAt_be (b.take 8) (b.drop 12) 8 4 (sumB b) h8 (by have := sumB_lt b; simpa using this)
  have ht := setSum_take b h
  rw [readP, if_neg (by omega), if_pos (by rw [n8, setSum_sum b h]), setSum_drop b h,
    numAt_head (setSum b) b 0 2 (by omega) ht (by omega) (by omega), numAt_head (setSum b) b 2 2 (by omega) ht (by omega) (by omega), numAt_head (setSum b) b 4 4 (by omega) ht (by omega) (by omega)]
theorem numAt_inj (l m : List UInt8) (a n : Nat) (hl : a + n ≤ l.length) (hm : a + n ≤ m.length) : numAt l a n = numAt m a n ↔ (l.drop a).take n = (m.drop a).take n := by
  constructor
  · intro e
    have h1 := numAt_bytes l a n hl
    have h2 := numAt_bytes m a n hm
    rw [e] at h1
    exact h1.symm.trans h2
  · intro e
    unfold numAt
    rw [if_pos hl, if_pos hm, e]
theorem set_same (l : List UInt8) (j : Nat) (x : UInt8) (h : j < l.length) : l.set j x = l ↔ x = l[j] := by
  constructor
  · intro e
    have : (l.set j x)[j]'(by rw [List.length_set]; exact h) = x := List.getElem_set_self _
    rw [← this]
    simp only [e]
  · rintro rfl
    simp
theorem numAt_set (l : List UInt8) (k a n : Nat) (x : UInt8) (hk : k < l.length) (hl : a + n ≤ l.length) : numAt (l.set k x) a n = numAt l a n ↔ (a ≤ k ∧ k < a + n → x = l[k]) := by
  rw [numAt_inj _ _ a n (by rw [List.length_set]; exact hl) hl, List.drop_set]
  by_cases h1 : k < a
  · rw [if_pos h1]
    exact ⟨fun _ h => absurd h.1 (by omega), fun _ => rfl⟩
  · rw [if_neg h1, List.take_set]
    by_cases h2 : k < a + n
    · have hj : k - a < ((l.drop a).take n).length := by rw [List.length_take, List.length_drop]; omega
      rw [set_same _ _ _ hj]
      have e : ((l.drop a).take n)[k - a] = l[k] := by
        rw [List.getElem_take, List.getElem_drop]
        simp only [show a + (k - a) = k by omega]
      rw [e]
      exact ⟨fun h _ => h, fun h => h ⟨by omega, h2⟩⟩
    · rw [List.set_eq_of_length_le (by rw [List.length_take, List.length_drop]; omega)]
      exact ⟨fun _ h => absurd h.2 h2, fun _ => rfl⟩
/-- A packet's bytes with one of the first eight turned, and their right sum. -/
theorem forms_turned (p : Pkt) (ht : p.tag < 4294967296) (hm : mayB p.cs = true) (k : Nat) (x : UInt8) (hk : k < 8) (hkl : k < p.bytes.length) :
    ∃ tg, (readP (setSum (p.bytes.set k x)) = if k < 4 ∧ x ≠ p.bytes[k] then (.zero, 7) else (⟨tg, p.cs⟩, 0)) ∧ (4 ≤ k → (tg = p.tag ↔ x = p.bytes[k])) := by
  have hl : 12 ≤ p.bytes.length := by rw [Pkt.bytes_length p hm]; unfold Pkt.size; omega
  have hb : p.bytes = p.laid p.sum := by rw [Pkt.bytes, if_pos hm]
  obtain ⟨n1, n2, n3, -⟩ := numAt_laid p ht p.sum p.sum_lt
  rw [← hb] at n1 n2 n3
  have hd : (p.bytes.set k x).drop 12 = chunksB p.cs := by
    rw [List.drop_set, if_pos (by omega), hb, laid_drop]
  have hc := chunksOf_back p.cs (mayB_small hm).2
  refine ⟨numAt (p.bytes.set k x) 4 4, ?_, fun h4 => ?_⟩
  · rw [readP_setSum _ (by rw [List.length_set]; exact hl), hd, hc]
    have a1 := numAt_set p.bytes k 0 2 x hkl (by omega)
    have a2 := numAt_set p.bytes k 2 2 x hkl (by omega)
    rw [n1] at a1
    rw [n2] at a2
    by_cases hq : k < 4 ∧ x ≠ p.bytes[k]
    · rw [if_pos hq, if_neg]
      rintro ⟨-, ⟨h1, h2⟩, -⟩
      rcases Nat.lt_or_ge k 2 with h3 | h3
      · exact hq.2 (a1.1 h1 ⟨Nat.zero_le _, by omega⟩)
      · exact hq.2 (a2.1 h2 ⟨h3, by omega⟩)
    · rw [if_neg hq, if_pos]
      have hx : k < 4 → x = p.bytes[k] := fun h => Decidable.byContradiction fun hn => hq ⟨h, hn⟩
      exact ⟨rfl, ⟨a1.2 (fun h => hx (by omega)), a2.2 (fun h => hx (by omega))⟩, hm⟩
  · have a3 := numAt_set p.bytes k 4 4 x hkl (by omega)
    rw [n3] at a3
    rw [a3]
    exact ⟨fun h => h ⟨h4, by omega⟩, fun h _ => h⟩
theorem forms_head (p : Pkt) (hm : mayB p.cs = true) : readP (setSum (p.bytes.take 12)) = (.zero, 7) := by
  have hl : 12 ≤ p.bytes.length := by rw [Pkt.bytes_length p hm]; unfold Pkt.size; omega
  rw [readP_setSum _ (by rw [List.length_take]; omega), List.drop_eq_nil_of_le (by rw [List.length_take]; omega), chunksOf_nil, if_neg]
  rintro ⟨-, -, h⟩
  simp [mayB] at h
theorem parse_tail : ∀ (cs : List Chk), (∀ c ∈ cs, c.b.length ≤ 65531) → (chunksOf (chunksB cs ++ [0, 0, 0])).2 = false
  | [], _ => by
    show (chunksOf [0, 0, 0]).2 = false
    rw [chunksOf_bad [0, 0, 0] (by simp) (by simp [chkOk])]
  | c :: cs, h => by
    have hc := h c (by simp)
    obtain ⟨h1, h2, h3⟩ := chk_back c (chunksB cs ++ [0, 0, 0]) hc
    have hp := (c.bytes_pos hc).1
    have h0 : c.bytes ++ (chunksB cs ++ [0, 0, 0]) ≠ [] := by simp
    rw [chunksB_cons, List.append_assoc, chunksOf_ok _ h0 h1, h3, List.drop_left]
    exact parse_tail cs (fun d hd => h d (by simp [hd]))
theorem forms_tail (p : Pkt) (hm : mayB p.cs = true) : readP (setSum (p.bytes ++ [0, 0, 0])) = (.zero, 7) := by
  have hl : 12 ≤ p.bytes.length := by rw [Pkt.bytes_length p hm]; unfold Pkt.size; omega
  have hb : p.bytes = p.laid p.sum := by rw [Pkt.bytes, if_pos hm]
  have hd : (p.bytes ++ [0, 0, 0]).drop 12 = chunksB p.cs ++ [0, 0, 0] := by
    rw [List.drop_append_of_le_length hl, hb, laid_drop]
  rw [readP_setSum _ (by simp; omega), hd, parse_tail p.cs (mayB_small hm).2, if_neg]
  rintro ⟨h, -⟩
  simp at h
end Go.FL

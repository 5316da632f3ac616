/- What is put is got again: the plain laws. Conditions: none. No program in sight. -/
import Derived.Test.YtfiblhdejglpaaaBodGetD
import Derived.Test.YtfiblhdejglpaaaBodGetF
import Derived.Test.YtfiblhdejglpaaaBodGetS
import Derived.Test.YtfiblhdejglpaaaBodGetI
import Derived.Test.YtfiblhdejglpaaaPutsB
namespace Go.FL

theorem dataGet_chk (d : DataD) (h : d.wf) : dataGet d.chk = if 0 < d.b.length then (d, 0) else (.zero, 7) := by
  unfold dataGet
  rw [data_back d h, show d.chk.b.length = 12 + d.b.length from d.body_length]
  by_cases h0 : 0 < d.b.length
  · rw [if_pos ⟨by omega, rfl⟩, if_pos h0]
  · rw [if_neg (fun hh => h0 (by omega)), if_neg h0]
theorem initGet_chk (k : UInt8) (i : InitD) (h : i.wf) (hc : i.ck.length ≤ 65531) (hk : k ≠ 2 → i.ck = []) (hk2 : k = 1 ∨ k = 2) :
    initGet (i.chk k) = if (initB i && (decide (k = 1) || decide (0 < i.ck.length))) = true then (i, 0) else (.zero, 7) := by
  have hm : initMay (i.chk k) = (initB i && (decide (k = 1) || decide (0 < i.ck.length))) := by
    unfold initMay
    rw [init_back k i h hc hk]
    show (initB i && (decide (k = 1) || (decide (k = 2) && decide (0 < i.ck.length)))) = _
    rcases hk2 with rfl | rfl
    · simp
    · simp
  unfold initGet
  rw [init_back k i h hc hk, hm]
  by_cases hb : (initB i && (decide (k = 1) || decide (0 < i.ck.length))) = true
  · rw [if_pos ⟨hb, rfl⟩, if_pos hb]
  · rw [if_neg (fun hh => hb hh.1), if_neg hb]
theorem fwdN_of (n : Nat) : fwdN (4 + 4 * n) = n := by unfold fwdN; omega
theorem fwd_back (f : FwdD) (h : f.wf) : fwdOf f.chk = f := by
  obtain ⟨cum, l⟩ := f
  obtain ⟨h1, h2⟩ := h
  have e1 : numAt (FwdD.chk ⟨cum, l⟩).b 0 4 = cum := numAt_be [] (gapsBytes l) 0 4 _ rfl h1
  have e2 : pairsAt (FwdD.chk ⟨cum, l⟩).b 4 l.length = l := by
    have := pairsAt_of l (beBytes 4 cum) [] 4 (beBytes_length _ _) h2
    rw [List.append_nil] at this
    exact this
  unfold fwdOf
  rw [e1, show (FwdD.chk ⟨cum, l⟩).b.length = 4 + 4 * l.length from FwdD.body_length _, fwdN_of, e2]
theorem fwdGet_chk (f : FwdD) (h : f.wf) : fwdGet f.chk = (f, 0) := by
  unfold fwdGet
  rw [fwd_back f h, if_pos rfl]
theorem sack_back (s : SackD) (h : s.wf) (hg : s.gaps.length < 65536) (hd : s.dups.length < 65536) : sackOf s.chk = s := by
  obtain ⟨cum, rwnd, l, m⟩ := s
  obtain ⟨h1, h2, h3, h4⟩ := h
  simp only at hg hd h1 h2 h3 h4
  have eb : (SackD.chk ⟨cum, rwnd, l, m⟩).b = beBytes 4 cum ++ (beBytes 4 rwnd ++ (beBytes 2 l.length ++ (beBytes 2 m.length ++ (gapsBytes l ++ catBE 4 m)))) := by
    show SackD.body _ = _
    simp [SackD.body, SackD.head]
  have el : (SackD.chk ⟨cum, rwnd, l, m⟩).b.length = 12 + 4 * l.length + 4 * m.length := SackD.body_length _
  have e1 : numAt (SackD.chk ⟨cum, rwnd, l, m⟩).b 0 4 = cum := by rw [eb]; exact numAt_be [] _ 0 4 _ rfl h1
  have e2 : numAt (SackD.chk ⟨cum, rwnd, l, m⟩).b 4 4 = rwnd := by rw [eb]; exact numAt_be _ _ 4 4 _ (beBytes_length _ _) h2
  have e3 : numAt (SackD.chk ⟨cum, rwnd, l, m⟩).b 8 2 = l.length := by
    rw [eb, ← List.append_assoc]
    exact numAt_be _ _ 8 2 _ (by simp [beBytes_length]) (by omega)
  have e4 : numAt (SackD.chk ⟨cum, rwnd, l, m⟩).b 10 2 = m.length := by
    rw [eb, ← List.append_assoc, ← List.append_assoc]
    exact numAt_be _ _ 10 2 _ (by simp [beBytes_length]) (by omega)
  have e5 : pairsAt (SackD.chk ⟨cum, rwnd, l, m⟩).b 12 l.length = l := by
    have := pairsAt_of l (beBytes 4 cum ++ (beBytes 4 rwnd ++ (beBytes 2 l.length ++ beBytes 2 m.length))) (catBE 4 m) 12 (by simp [beBytes_length]) h3
    rw [eb]
    simpa using this
  have e6 : numsAt (SackD.chk ⟨cum, rwnd, l, m⟩).b (12 + 4 * l.length) m.length = m := by
    have := numsAt_of m (beBytes 4 cum ++ (beBytes 4 rwnd ++ (beBytes 2 l.length ++ (beBytes 2 m.length ++ gapsBytes l)))) [] (12 + 4 * l.length) (by simp [beBytes_length, gapsBytes_length]; omega) h4
    rw [eb]
    simpa using this
  have g1 : sackNG (SackD.chk ⟨cum, rwnd, l, m⟩) = l.length := by
    unfold sackNG cnt4
    rw [e3, el]
    omega
  have g2 : sackND (SackD.chk ⟨cum, rwnd, l, m⟩) = m.length := by
    unfold sackND cnt4
    rw [g1, e4, el]
    omega
  unfold sackOf
  rw [g1, g2, e1, e2, e5, e6]
theorem sackGet_chk (s : SackD) (h : s.wf) (hg : s.gaps.length < 65536) (hd : s.dups.length < 65536) : sackGet s.chk = if (apartS s.gaps).1 = true then (s, 0) else (.zero, 7) := by
  unfold sackGet
  rw [sack_back s h hg hd]
  by_cases h0 : (apartS s.gaps).1 = true
  · rw [if_pos ⟨h0, rfl⟩, if_pos h0]
  · rw [if_neg (fun hh => h0 hh.1), if_neg h0]
theorem timeGet_chk (k : UInt8) (hk : k = 4 ∨ k = 5) (a : Int) (h : -9223372036854775808 ≤ a ∧ a ≤ 9223372036854775807) : timeGet (timeChk k a) = (a, 0) := by
  have e : numAt (timeChk k a).b 4 8 = timeN a := by
    have := numAt_be (beBytes 2 1 ++ beBytes 2 12) [] 4 8 (timeN a) (by simp [beBytes_length]) (timeN_lt a)
    rw [List.append_nil, List.append_assoc] at this
    exact this
  unfold timeGet
  rw [e, timeI_N a ⟨h.1, by omega⟩, if_pos]
  refine ⟨?_, rfl⟩
  show (decide (k = 4) || decide (k = 5)) = true
  rcases hk with rfl | rfl <;> rfl
theorem cumGet_chk (c : Nat) (h : c < 4294967296) : cumGet (cumChk c) = (c, 0) := by
  have e : numAt (cumChk c).b 0 4 = c := by
    have := numAt_be [] [] 0 4 c rfl h
    rw [List.append_nil, List.nil_append] at this
    exact this
  unfold cumGet
  rw [e, if_pos rfl]
/-- The gaps lie apart, one more. -/
theorem apart_take (l : List (Nat × Nat)) (k : Nat) (hk : k < l.length) :
    (apartS (l.take (k + 1))).1 = ((apartS (l.take k)).1 && decide (l[k].1 ≤ l[k].2) && decide (2 ≤ l[k].1) && (decide (k = 0) || decide (l[k - 1].2 + 1 < l[k].1))) := by
  rw [List.take_succ_eq_append_getElem hk, apartS_snoc]
  show ((apartS (l.take k)).1 && decide ((apartS (l.take k)).2 + 2 ≤ l[k].1) && decide (l[k].1 ≤ l[k].2)) = _
  rcases k with _ | k
  · have : (apartS (l.take 0)).2 = 0 := rfl
    rw [this]
    generalize (apartS (l.take 0)).1 = b
    cases b <;> simp [Bool.and_comm]
  · have : (apartS (l.take (k + 1))).2 = l[k].2 := by
      rw [List.take_succ_eq_append_getElem (by omega), apartS_snoc]
      rfl
    rw [this]
    generalize (apartS (l.take (k + 1))).1 = b
    simp only [Nat.add_sub_cancel]
    rw [Bool.eq_iff_iff]
    simp only [Bool.and_eq_true, Bool.or_eq_true, decide_eq_true_eq]
    constructor
    · rintro ⟨⟨hb, h1⟩, h2⟩
      exact ⟨⟨⟨hb, h2⟩, by omega⟩, .inr (by omega)⟩
    · rintro ⟨⟨⟨hb, h1⟩, h2⟩, h3⟩
      refine ⟨⟨hb, ?_⟩, h1⟩
      rcases h3 with h3 | h3 <;> omega
end Go.FL

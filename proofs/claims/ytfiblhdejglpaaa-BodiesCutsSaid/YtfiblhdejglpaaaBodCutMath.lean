/- Cut bodies, flags more: the plain laws of BodiesCuts. Conditions: none. No walk. -/
import Derived.Test.YtfiblhdejglpaaaBodiesOnceWalk
namespace Go.FL

theorem gotB_no {e : Int} (h : e ≠ 0) : gotB e = 0 := by unfold gotB; rw [if_neg h]
theorem gotB_yes {e : Int} (h : e = 0) : gotB e = 1 := by unfold gotB; rw [if_pos h]
theorem kne {a b : UInt8} (h : a ≠ b) : a.toNat ≠ b.toNat := fun e => h (UInt8.toNat_inj.1 e)
theorem dataGet_k (c : Chk) (h : (dataGet c).2 = 0) : c.k = 0 := (congrArg Chk.k (dataGet_ok c h).2.1).symm
theorem sackGet_k (c : Chk) (h : (sackGet c).2 = 0) : c.k = 3 := (congrArg Chk.k (sackGet_ok c h).2.1).symm
theorem fwdGet_k (c : Chk) (h : (fwdGet c).2 = 0) : c.k = 192 := (congrArg Chk.k (fwdGet_ok c h).2.1).symm
theorem cumGet_k (c : Chk) (h : (cumGet c).2 = 0) : c.k = 7 := (congrArg Chk.k (cumGet_ok c h).2).symm
/-- By its kind a chunk is got by that kind's Get alone. -/
theorem gotN_init (c : Chk) (hk : c.k = 2) : gotN c = gotB (initGet c).2 := by
  unfold gotN
  rw [gotB_no (fun h => absurd (hk.symm.trans (dataGet_k c h)) (by decide)), gotB_no (fun h => absurd (hk.symm.trans (sackGet_k c h)) (by decide)), gotB_no (fun h => absurd (hk.symm.trans (fwdGet_k c h)) (by decide)), gotB_no (e := (timeGet c).2) (fun h => by
    rcases timeGet_k c h with e | e <;> exact absurd (hk.symm.trans e) (by decide)), gotB_no (fun h => absurd (hk.symm.trans (cumGet_k c h)) (by decide))]
  omega
theorem gotN_sack (c : Chk) (hk : c.k = 3) : gotN c = gotB (sackGet c).2 := by
  unfold gotN
  rw [gotB_no (fun h => absurd (hk.symm.trans (dataGet_k c h)) (by decide)), gotB_no (e := (initGet c).2) (fun h => by
    rcases initGet_k c h with e | e <;> exact absurd (hk.symm.trans e) (by decide)), gotB_no (fun h => absurd (hk.symm.trans (fwdGet_k c h)) (by decide)), gotB_no (e := (timeGet c).2) (fun h => by
    rcases timeGet_k c h with e | e <;> exact absurd (hk.symm.trans e) (by decide)), gotB_no (fun h => absurd (hk.symm.trans (cumGet_k c h)) (by decide))]
  omega
theorem gotN_fwd (c : Chk) (hk : c.k = 192) : gotN c = gotB (fwdGet c).2 := by
  unfold gotN
  rw [gotB_no (fun h => absurd (hk.symm.trans (dataGet_k c h)) (by decide)), gotB_no (e := (initGet c).2) (fun h => by
    rcases initGet_k c h with e | e <;> exact absurd (hk.symm.trans e) (by decide)), gotB_no (fun h => absurd (hk.symm.trans (sackGet_k c h)) (by decide)), gotB_no (e := (timeGet c).2) (fun h => by
    rcases timeGet_k c h with e | e <;> exact absurd (hk.symm.trans e) (by decide)), gotB_no (fun h => absurd (hk.symm.trans (cumGet_k c h)) (by decide))]
  omega
theorem gotN_time (c : Chk) (hk : c.k = 4) : gotN c = gotB (timeGet c).2 := by
  unfold gotN
  rw [gotB_no (fun h => absurd (hk.symm.trans (dataGet_k c h)) (by decide)), gotB_no (e := (initGet c).2) (fun h => by
    rcases initGet_k c h with e | e <;> exact absurd (hk.symm.trans e) (by decide)), gotB_no (fun h => absurd (hk.symm.trans (sackGet_k c h)) (by decide)), gotB_no (fun h => absurd (hk.symm.trans (fwdGet_k c h)) (by decide)), gotB_no (fun h => absurd (hk.symm.trans (cumGet_k c h)) (by decide))]
  omega
theorem gotN_cum (c : Chk) (hk : c.k = 7) : gotN c = gotB (cumGet c).2 := by
  unfold gotN
  rw [gotB_no (fun h => absurd (hk.symm.trans (dataGet_k c h)) (by decide)), gotB_no (e := (initGet c).2) (fun h => by
    rcases initGet_k c h with e | e <;> exact absurd (hk.symm.trans e) (by decide)), gotB_no (fun h => absurd (hk.symm.trans (sackGet_k c h)) (by decide)), gotB_no (fun h => absurd (hk.symm.trans (fwdGet_k c h)) (by decide)), gotB_no (e := (timeGet c).2) (fun h => by
    rcases timeGet_k c h with e | e <;> exact absurd (hk.symm.trans e) (by decide))]
  omega
/-- No kind but data has flags. -/
theorem gotN_flags (c : Chk) (hk : c.k ≠ 0) (hf : c.f ≠ 0) : gotN c = 0 := by
  unfold gotN
  rw [gotB_no (fun h => hk (dataGet_k c h)), gotB_no (e := (initGet c).2) (fun h => hf (congrArg Chk.f (initGet_ok c h).2.1).symm), gotB_no (fun h => hf (congrArg Chk.f (sackGet_ok c h).2.1).symm), gotB_no (fun h => hf (congrArg Chk.f (fwdGet_ok c h).2.1).symm), gotB_no (e := (timeGet c).2) (fun h => hf (congrArg Chk.f (timeGet_ok c h).2).symm), gotB_no (fun h => hf (congrArg Chk.f (cumGet_ok c h).2).symm)]
/-- A chunk cut. -/
def cutC (c : Chk) (k : Nat) : Chk := ⟨c.k, 0, c.b.take k⟩
theorem cut_whole (c : Chk) (hf : c.f = 0) : cutC c c.b.length = c := by
  obtain ⟨k, f, b⟩ := c
  simp only at hf
  subst hf
  simp [cutC]
theorem cut_init (i : InitD) (hc : i.ck.length ≤ 8192) (k : Nat) (hk : k < (i.chk 2).b.length) : gotN (cutC (i.chk 2) k) = 0 := by
  rw [gotN_init _ rfl]
  refine gotB_no fun h => ?_
  unfold initGet at h
  by_cases hp : initMay (cutC (i.chk 2) k) = true ∧ (initOf (cutC (i.chk 2) k)).chk (cutC (i.chk 2) k).k = cutC (i.chk 2) k
  · have hm := hp.1
    unfold initMay at hm
    simp only [Bool.and_eq_true, Bool.or_eq_true, decide_eq_true_eq] at hm
    have hlen : 0 < (initOf (cutC (i.chk 2) k)).ck.length := by
      rcases hm.2 with h1 | h1
      · exact absurd (show (2 : UInt8) = 1 from h1) (by decide)
      · exact h1.2
    have hb : ((initOf (cutC (i.chk 2) k)).body 2) = (i.chk 2).b.take k := congrArg Chk.b hp.2
    have hbl := congrArg List.length hb
    rw [InitD.body, if_pos rfl, padded_length, InitD.more_length, List.length_take, Nat.min_eq_left (Nat.le_of_lt hk), roundN] at hbl
    have e : (i.chk 2).b = i.more ++ List.replicate (roundN i.more.length - i.more.length) 0 := rfl
    have hll : (i.chk 2).b.length = (20 + i.ck.length + 3) / 4 * 4 := by
      show (i.body 2).length = _
      rw [InitD.body, if_pos rfl, padded_length, InitD.more_length, roundN]
    have hck : (initOf (cutC (i.chk 2) k)).ck = initCk ((i.chk 2).b.take k) := rfl
    have hn : numAt ((i.chk 2).b.take k) 18 2 = 4 + i.ck.length := by
      rw [numAt_take _ _ _ _ (by omega) (Nat.le_of_lt hk), e, show i.more ++ List.replicate (roundN i.more.length - i.more.length) 0 = (i.head ++ beBytes 2 7) ++ (beBytes 2 (4 + i.ck.length) ++ (i.ck ++ List.replicate (roundN i.more.length - i.more.length) 0)) by simp [InitD.more]]
      exact numAt_be _ _ 18 2 _ (by simp [InitD.head_length, beBytes_length]) (by omega)
    have hcl : (initOf (cutC (i.chk 2) k)).ck.length = i.ck.length := by
      rw [hck] at hlen ⊢
      unfold initCk cutAt at hlen ⊢
      rw [hn] at hlen ⊢
      split at hlen
      · rename_i h2
        rw [if_pos h2, List.length_take, List.length_drop]
        omega
      · simp at hlen
    omega
  · rw [if_neg hp] at h
    exact absurd h (by decide)
theorem cut_sack (s : SackD) (hg : s.gaps.length < 65536) (hd : s.dups.length < 65536) (k : Nat) (hk : k < s.chk.b.length) : gotN (cutC s.chk k) = 0 := by
  rw [gotN_sack _ rfl]
  refine gotB_no fun h => ?_
  have h1 := (sackGet_ok _ h).2.1
  have h3 := (sackGet_ok _ h).2.2
  have hx : (sackGet (cutC s.chk k)).1.gaps.length < 65536 ∧ (sackGet (cutC s.chk k)).1.dups.length < 65536 := by
    unfold sackGet
    split
    · exact ⟨by show (pairsAt _ _ _).length < _; rw [pairsAt_length]; exact Nat.lt_of_le_of_lt (Nat.min_le_left _ _) (numAt_lt _ _ 2), by show (numsAt _ _ _).length < _; rw [numsAt_length]; exact Nat.lt_of_le_of_lt (Nat.min_le_left _ _) (numAt_lt _ _ 2)⟩
    · exact ⟨by decide, by decide⟩
  generalize (sackGet (cutC s.chk k)).1 = t at h1 h3 hx
  have hb : t.body = s.body.take k := congrArg Chk.b h1
  have hbl := congrArg List.length hb
  have hsl := s.body_length
  have hk : k < s.body.length := hk
  rw [t.body_length, List.length_take, Nat.min_eq_left (Nat.le_of_lt hk)] at hbl
  have eb : ∀ u : SackD, u.gaps.length < 65536 → u.dups.length < 65536 → numAt u.body 8 2 = u.gaps.length ∧ numAt u.body 10 2 = u.dups.length := fun u a b => by
    have e : u.body = beBytes 4 u.cum ++ (beBytes 4 u.rwnd ++ (beBytes 2 u.gaps.length ++ (beBytes 2 u.dups.length ++ (gapsBytes u.gaps ++ catBE 4 u.dups)))) := by simp [SackD.body, SackD.head]
    rw [e]
    constructor
    · rw [← List.append_assoc]
      exact numAt_be _ _ 8 2 _ (by simp [beBytes_length]) (by omega)
    · rw [← List.append_assoc, ← List.append_assoc]
      exact numAt_be _ _ 10 2 _ (by simp [beBytes_length]) (by omega)
  have q := eb s hg hd
  have r := eb t hx.1 hx.2
  rw [hb, numAt_take _ _ _ _ (by omega) (Nat.le_of_lt hk), numAt_take _ _ _ _ (by omega) (Nat.le_of_lt hk)] at r
  omega
theorem cut_time (a : Int) (k : Nat) (hk : k < (timeChk 4 a).b.length) : gotN (cutC (timeChk 4 a) k) = 0 := by
  rw [gotN_time _ rfl]
  refine gotB_no fun h => ?_
  have h1 := congrArg (fun c : Chk => c.b.length) (timeGet_ok _ h).2
  have h2 : (timeChk 4 a).b.length = 12 := timeBody_length a
  have h3 : (cutC (timeChk 4 a) k).b.length = k := by show ((timeChk 4 a).b.take k).length = k; rw [List.length_take]; omega
  rw [h3] at h1
  have h4 : (timeChk (cutC (timeChk 4 a) k).k (timeGet (cutC (timeChk 4 a) k)).1).b.length = 12 := timeBody_length _
  omega
theorem cut_cum (m : Nat) (k : Nat) (hk : k < (cumChk m).b.length) : gotN (cutC (cumChk m) k) = 0 := by
  rw [gotN_cum _ rfl]
  refine gotB_no fun h => ?_
  have h1 := congrArg (fun c : Chk => c.b.length) (cumGet_ok _ h).2
  have h2 : ∀ x, (cumChk x).b.length = 4 := fun x => beBytes_length _ _
  have h3 : (cutC (cumChk m) k).b.length = k := by show ((cumChk m).b.take k).length = k; rw [List.length_take]; omega
  rw [h3, h2] at h1
  rw [h2] at hk
  omega
theorem gapsBytes_take : ∀ (l : List (Nat × Nat)) (n : Nat), (gapsBytes l).take (4 * n) = gapsBytes (l.take n)
  | [], n => by simp [gapsBytes]
  | g :: l, 0 => by simp [gapsBytes]
  | g :: l, n + 1 => by
    have hg := gapBytes_length g
    rw [gapsBytes_cons, List.take_succ_cons, gapsBytes_cons, List.take_append, List.take_of_length_le (by omega), show 4 * (n + 1) - (gapBytes g).length = 4 * n by omega, gapsBytes_take l n]
/-- What will not come, cut: got as it may by whole entries. -/
def wholeF (k : Nat) : Bool := decide (4 ≤ k) && decide (k % 4 = 0)
theorem cut_fwd (f : FwdD) (hw : f.wf) (k : Nat) (hk : k ≤ f.chk.b.length) : gotN (cutC f.chk k) = if wholeF k = true then 1 else 0 := by
  rw [gotN_fwd _ rfl]
  have hl : f.chk.b.length = 4 + 4 * f.skips.length := f.body_length
  unfold wholeF
  by_cases h : (decide (4 ≤ k) && decide (k % 4 = 0)) = true
  · rw [if_pos h]
    simp only [Bool.and_eq_true, decide_eq_true_eq] at h
    have e : cutC f.chk k = FwdD.chk ⟨f.cum, f.skips.take ((k - 4) / 4)⟩ := by
      refine Chk.ext' rfl rfl ?_
      show f.body.take k = beBytes 4 f.cum ++ gapsBytes (f.skips.take ((k - 4) / 4))
      rw [FwdD.body, List.take_append, List.take_of_length_le (by rw [beBytes_length]; exact h.1), beBytes_length, ← gapsBytes_take]
      congr 2
      omega
    rw [e, fwdGet_chk ⟨f.cum, f.skips.take ((k - 4) / 4)⟩ ⟨hw.1, fun g hg => hw.2 g (List.mem_of_mem_take hg)⟩]
    rfl
  · rw [if_neg h]
    simp only [Bool.and_eq_true, decide_eq_true_eq] at h
    refine gotB_no fun h0 => h ?_
    have h1 := (fwdGet_ok _ h0).2.1
    have h2 := congrArg (fun c : Chk => c.b.length) h1
    rw [show ((fwdGet (cutC f.chk k)).1.chk).b.length = 4 + 4 * _ from FwdD.body_length _, show (cutC f.chk k).b.length = k by show (f.chk.b.take k).length = k; rw [List.length_take]; omega] at h2
    omega
/-- Data, cut and flagged. -/
theorem cut_data (d : DataD) (hw : d.wf) (fl : UInt8) (k : Nat) (hk : k ≤ d.chk.b.length) : ((dataGet ⟨0, fl, d.chk.b.take k⟩).2 = 0) ↔ (fl < 8 ∧ 12 < k) := by
  have hl : d.chk.b.length = 12 + d.b.length := d.body_length
  constructor
  · intro h
    have h1 := (dataGet_ok _ h).2.1
    constructor
    · have hf := congrArg Chk.f h1
      have := (dataFlags_at (dataGet ⟨0, fl, d.chk.b.take k⟩).1.un (dataGet ⟨0, fl, d.chk.b.take k⟩).1.fi (dataGet ⟨0, fl, d.chk.b.take k⟩).1.la).2.2.2
      rw [show fl = dataFlags _ _ _ from hf.symm]
      exact this
    · unfold dataGet at h
      by_cases hp : 12 < (d.chk.b.take k).length ∧ (dataOf ⟨0, fl, d.chk.b.take k⟩).chk = ⟨0, fl, d.chk.b.take k⟩
      · have := hp.1
        rw [List.length_take] at this
        omega
      · rw [if_neg hp] at h
        exact absurd h (by decide)
  · rintro ⟨hf, h12⟩
    have e : (⟨0, fl, d.chk.b.take k⟩ : Chk) = DataD.chk ⟨d.tsn, d.st, d.ssn, fl &&& 4 != 0, fl &&& 2 != 0, fl &&& 1 != 0, d.b.take (k - 12)⟩ := by
      refine Chk.ext' rfl (dataFlags_of fl hf).symm ?_
      show d.body.take k = beBytes 4 d.tsn ++ (beBytes 2 d.st ++ (beBytes 2 d.ssn ++ (beBytes 4 0 ++ d.b.take (k - 12))))
      have e1 : d.body = (beBytes 4 d.tsn ++ (beBytes 2 d.st ++ (beBytes 2 d.ssn ++ beBytes 4 0))) ++ d.b := by simp [DataD.body]
      have e2 : (beBytes 4 d.tsn ++ (beBytes 2 d.st ++ (beBytes 2 d.ssn ++ beBytes 4 0))).length = 12 := by simp [beBytes_length]
      rw [e1, List.take_append, List.take_of_length_le (by omega), e2]
      simp
    rw [e, dataGet_chk ⟨d.tsn, d.st, d.ssn, fl &&& 4 != 0, fl &&& 2 != 0, fl &&& 1 != 0, d.b.take (k - 12)⟩ hw, if_pos (by show 0 < (d.b.take (k - 12)).length; rw [List.length_take]; omega)]
end Go.FL

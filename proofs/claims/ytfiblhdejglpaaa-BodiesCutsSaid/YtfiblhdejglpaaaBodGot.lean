/- got: by how many Gets a chunk is taken; what is got is put again as that chunk. Conditions: what comes in reads as it should. -/
import Derived.Test.YtfiblhdejglpaaaBodChkSame
import Derived.Test.YtfiblhdejglpaaaBodPuts
import Derived.Test.YtfiblhdejglpaaaPutsB
import Derived.Test.YtfiblhdejglpaaaBodPutData
import Derived.Test.YtfiblhdejglpaaaBodBackMath
import Derived.Test.YtfiblhdejglpaaaBaseC
import Derived.Deep.CutRange
namespace Go.FL
open Go.RowKit
def gotB (e : Int) : Nat := if e = 0 then 1 else 0
theorem gotB_le (e : Int) : gotB e ≤ 1 := by unfold gotB; split <;> omega
def gotN (c : Chk) : Nat := gotB (dataGet c).2 + gotB (initGet c).2 + gotB (sackGet c).2 + gotB (fwdGet c).2 + gotB (timeGet c).2 + gotB (cumGet c).2
theorem dataGet_ok (c : Chk) (h : (dataGet c).2 = 0) : (dataGet c).1.wf ∧ (dataGet c).1.chk = c ∧ (dataGet c).1.b.length ≤ c.b.length := by
  unfold dataGet at h ⊢
  by_cases hp : 12 < c.b.length ∧ (dataOf c).chk = c
  · rw [if_pos hp]
    exact ⟨⟨numAt_lt _ _ 4, numAt_lt _ _ 2, numAt_lt _ _ 2⟩, hp.2, by show (c.b.drop 12).length ≤ _; rw [List.length_drop]; omega⟩
  · rw [if_neg hp] at h
    exact absurd h (by decide)
theorem initGet_ok (c : Chk) (h : (initGet c).2 = 0) : (initGet c).1.wf ∧ (initGet c).1.chk c.k = c ∧ (initGet c).1.ck.length ≤ c.b.length := by
  unfold initGet at h ⊢
  by_cases hp : initMay c = true ∧ (initOf c).chk c.k = c
  · rw [if_pos hp]
    refine ⟨⟨numAt_lt _ _ 4, numAt_lt _ _ 4, numAt_lt _ _ 2, numAt_lt _ _ 2, numAt_lt _ _ 4⟩, hp.2, ?_⟩
    show (if c.k = 2 then initCk c.b else []).length ≤ _
    split
    · unfold initCk cutAt
      split
      · rw [List.length_take, List.length_drop]
        omega
      · simp
    · simp
  · rw [if_neg hp] at h
    exact absurd h (by decide)
theorem sackGet_ok (c : Chk) (h : (sackGet c).2 = 0) : (sackGet c).1.wf ∧ (sackGet c).1.chk = c ∧ ((sackGet c).1.gaps.length ≤ c.b.length ∧ (sackGet c).1.dups.length ≤ c.b.length) := by
  unfold sackGet at h ⊢
  by_cases hp : (apartS (sackOf c).gaps).1 = true ∧ (sackOf c).chk = c
  · rw [if_pos hp]
    have hl := (sackOf c).body_length
    rw [show (sackOf c).body = c.b from congrArg Chk.b hp.2] at hl
    exact ⟨⟨numAt_lt _ _ 4, numAt_lt _ _ 4, pairsAt_wf _ _ _, numsAt_wf _ _ _⟩, hp.2, (show (sackOf c).gaps.length ≤ c.b.length by omega), (show (sackOf c).dups.length ≤ c.b.length by omega)⟩
  · rw [if_neg hp] at h
    exact absurd h (by decide)
theorem fwdGet_ok (c : Chk) (h : (fwdGet c).2 = 0) : (fwdGet c).1.wf ∧ (fwdGet c).1.chk = c ∧ (fwdGet c).1.skips.length ≤ c.b.length := by
  unfold fwdGet at h ⊢
  by_cases hp : (fwdOf c).chk = c
  · rw [if_pos hp]
    have hl := (fwdOf c).body_length
    rw [show (fwdOf c).body = c.b from congrArg Chk.b hp] at hl
    exact ⟨⟨numAt_lt _ _ 4, pairsAt_wf _ _ _⟩, hp, (show (fwdOf c).skips.length ≤ c.b.length by omega)⟩
  · rw [if_neg hp] at h
    exact absurd h (by decide)
theorem timeGet_ok (c : Chk) (h : (timeGet c).2 = 0) : True ∧ timeChk c.k (timeGet c).1 = c := by
  unfold timeGet at h ⊢
  by_cases hp : (decide (c.k = 4) || decide (c.k = 5)) = true ∧ timeChk c.k (timeI (numAt c.b 4 8)) = c
  · rw [if_pos hp]
    exact ⟨trivial, hp.2⟩
  · rw [if_neg hp] at h
    exact absurd h (by decide)
theorem cumGet_ok (c : Chk) (h : (cumGet c).2 = 0) : (cumGet c).1 < 4294967296 ∧ cumChk (cumGet c).1 = c := by
  unfold cumGet at h ⊢
  by_cases hp : cumChk (numAt c.b 0 4) = c
  · rw [if_pos hp]
    exact ⟨numAt_lt _ _ 4, hp⟩
  · rw [if_neg hp] at h
    exact absurd h (by decide)
theorem ChkF.v {c d : Chk} {v : Value} {w : World} (h : ChkF c v w) (e : c = d) : ChkV w v d := by
  subst e
  exact h
end Go.FL
namespace Go.Proofs.Ytfiblhdejglpaaa
open Go.RowKit Go.FL Go.ChangeShapes

set_option maxRecDepth 100000 in
set_option maxHeartbeats 8000000 in
theorem got_any (v : Value) (ch : Chk) (w : World) (h : ChkV w v ch) (hl : ch.b.length ≤ 1000000) :
    Calls Try.prog 47 #[v] w fun e w' => e = .returned (.tuple #[.int .i64 (gotN ch : Int), .bool true]) ∧ Below w.heap.size w w' := by
  obtain ⟨s, rfl, hrd⟩ := h
  have HV := hid hrd
  obtain ⟨p, c, rfl, hlc, hcm, hpn, hcell⟩ := hrd
  unfold maxLen at hcm
  clear hcell
  obtain ⟨kc, fc, bc⟩ := ch
  simp only at *
  have HL := hid hl
  obtain ⟨W, hW⟩ : ∃ W, W = w.alloc (.cells #[.int .u8 (kc.toNat : Int), .int .u8 (fc.toNat : Int), .slice p bc.length c] 28 (0, 0)) := ⟨_, rfl⟩
  have HCX := hid (show RowV W w.heap.size 28 [.int .u8 (kc.toNat : Int), .int .u8 (fc.toNat : Int), .slice p bc.length c] by rw [hW]; exact RowV.new w 28 _)
  have GX := hid (show Below w.heap.size w W by rw [hW]; exact (Below.refl _ _).alloc (Nat.le_refl _) _)
  obtain ⟨k0, k1, k2⟩ := HCX.out.three
  rw [hW] at k0 k1 k2
  have HE := hid hW
  clear hW
  go_enter Try.func47, Try.ntmps47
  go_wp2_with fail
  rw [← HE.out]
  refine (getData_any _ ⟨kc, fc, bc⟩ _ ⟨_, rfl, HV.out.mono GX.out⟩ hl).mono ?_
  rintro e w3 ⟨s3, rfl, ho3, hb3⟩
  obtain ⟨d, er, hg⟩ : ∃ d er, dataGet ⟨kc, fc, bc⟩ = (d, er) := ⟨_, _, rfl⟩
  rw [hg] at ho3 ⊢
  have HGE := hid (show (dataGet ⟨kc, fc, bc⟩).2 = er by rw [hg])
  have HQ0 := hid (fun (h : er = 0) => show d.wf ∧ d.chk = ⟨kc, fc, bc⟩ ∧ d.b.length ≤ bc.length by have := dataGet_ok ⟨kc, fc, bc⟩ (by rw [hg]; exact h); rw [hg] at this; exact this)
  clear hg
  simp only [DataD.vals]
  obtain ⟨p3, c3, hs3⟩ := RdF.form (show RdF d.b s3 w3 from ho3.rd)
  obtain ⟨n3, hn3⟩ : ∃ n, n = d.b.length := ⟨_, rfl⟩
  rw [← hn3] at hs3
  subst hs3
  clear hn3
  have HT3 := hid (show DataAt w3 (.agg #[.int .u32 (d.tsn : Int), .int .u16 (d.st : Int), .int .u16 (d.ssn : Int), .bool d.un, .bool d.fi, .bool d.la, .slice p3 n3 c3]) d from ⟨_, rfl, ho3.rd⟩)
  clear ho3
  have G3 := hid (gr_trans GX.out hb3)
  have HC3 := hid (HCX.out.mono hb3)
  obtain ⟨W4, hW4⟩ : ∃ W4, W4 = w3.alloc (.cells #[.int .u32 (d.tsn : Int), .int .u16 (d.st : Int), .int .u16 (d.ssn : Int), .bool d.un, .bool d.fi, .bool d.la, .slice p3 n3 c3] 26 (0, 0)) := ⟨_, rfl⟩
  have g4 : Below w3.heap.size w3 W4 := by rw [hW4]; exact (Below.refl _ _).alloc (Nat.le_refl _) _
  have HV4 := hid (show RowV W4 w3.heap.size 26 [.int .u32 (d.tsn : Int), .int .u16 (d.st : Int), .int .u16 (d.ssn : Int), .bool d.un, .bool d.fi, .bool d.la, .slice p3 n3 c3] by rw [hW4]; exact RowV.new w3 26 _)
  have HT4 := hid (HT3.out.mono g4)
  have G4 := hid (gr_trans G3.out g4)
  have HC4 := hid (HC3.out.mono g4)
  have HE4 := hid hW4
  clear hW4 g4 hb3 k0 k1 k2
  go_upto_if 19 with fail
  rw [← HE4.out]
  go_cut [4, 5] from 13 to 28 (fun s4 s5 wx => ∃ m' : Nat, s4 = .int .i64 (m' : Int) ∧ m' = 0 + gotB er ∧ s5 = .bool true ∧ RowV wx w.heap.size 28 [.int .u8 (kc.toNat : Int), .int .u8 (fc.toNat : Int), .slice p bc.length c] ∧ Below w.heap.size w wx)
  case first =>
    obtain ⟨k0, k1, k2⟩ := HC4.out.three
    by_cases q : er = 0
    · have HQ := hid (HQ0.out q)
      have HQE := hid (show gotB er = 1 by rw [q]; rfl)
      have hz : (er == 0) = true := by rw [q]; rfl
      skip
      clear q
      go_wp2_with fail
      clear k0 k1 k2
      refine wp_region_grL [Is (.bool true), Is (.bool true), Is (.agg ([.int .u32 (d.tsn : Int), .int .u16 (d.st : Int), .int .u16 (d.ssn : Int), .bool d.un, .bool d.fi, .bool d.la, .slice p3 n3 c3]).toArray), ChkF (d.chk), Is (.agg ([.int .u8 (kc.toNat : Int), .int .u8 (fc.toNat : Int), .slice p bc.length c]).toArray), Is (.bool true), Is (.bool true), Is (.bool true)] (by kernel_rfl) (by kernel_rfl) (by kernel_rfl) (by kernel_rfl) ?_ ?_ ?_
      · simp only [StabAll, Is.gr, RdF.gr, OwnF.gr, AnyF.gr, ChkF.gr, and_self]
      · rename_i Kk hKk; clear hKk Kk
        simp only [AllOps, List.map_cons, List.map_nil, depsOf, List.filterMap_cons, List.filterMap_nil, Region.binds, depFacts, guardF, reduceIte, List.getD_eq_getElem?_getD, List.getElem?_cons_succ, List.getElem?_cons_zero, Option.getD_some, factAt, and_true]
        refine ⟨?_, ?_, ?_, ?_, ?_, ?_, ?_, ?_⟩
        all_goals intro ρ wv hρ hR hd
        all_goals try simp only [Is] at hd
        · exact opOk_move (.inl rfl) ⟨by simp only [Is]; (first | exact hρ.2 5 rfl | exact hd | exact hd.1 | exact hd.2 | simp [hd]), GrR.refl _⟩
        · exact opOk_move (.inl rfl) ⟨by simp only [Is]; (first | exact hρ.2 22 rfl | exact hd | exact hd.1 | exact hd.2 | simp [hd]), GrR.refl _⟩
        · refine ⟨fun _ => ?_, fun hg => absurd (by simp [hd]) hg⟩; exact opOk_loadRow rfl (w3.heap.size) (by first | exact hρ.2 _ rfl | simp [hd]) _ ([.int .u32 (d.tsn : Int), .int .u16 (d.st : Int), .int .u16 (d.ssn : Int), .bool d.un, .bool d.fi, .bool d.la, .slice p3 n3 c3]) _ (HV4.out.mono hR) Try.underlying26 rfl (by kernel_rfl) ⟨rfl, GrR.refl _⟩
        · refine ⟨fun _ => ?_, fun hg => absurd (by simp [hd]) hg⟩; exact opOk_call hρ.1 rfl rfl Try.func15 (by kernel_rfl) rfl (by simp [hd, hρ.1.const, hρ.1.func]) ((putData_any _ d HQ.out.1 _ (HT4.out.mono hR) (Nat.le_trans HQ.out.2.2 HL.out)).mono fun e w' ⟨s, h1, h2, h3⟩ => ⟨_, h1, ⟨s, rfl, h2.rd⟩, h3⟩)
        · refine ⟨fun _ => ?_, fun hg => absurd (by simp [hd]) hg⟩; exact opOk_loadRow rfl (w.heap.size) (by first | exact hρ.2 _ rfl | simp [hd]) _ ([.int .u8 (kc.toNat : Int), .int .u8 (fc.toNat : Int), .slice p bc.length c]) _ (HC4.out.mono hR) Try.underlying28 rfl (by kernel_rfl) ⟨rfl, GrR.refl _⟩
        · refine ⟨fun _ => ?_, fun hg => absurd (by simp [hd]) hg⟩; exact opOk_call hρ.1 rfl rfl Try.func18 (by kernel_rfl) rfl (by simp [hd, hρ.1.const, hρ.1.func]) ((chkSame_yes _ _ ⟨kc, fc, bc⟩ _ (ChkF.v hd.1 HQ.out.2.1) ⟨_, rfl, (HV.out.mono G4.out).mono hR⟩).mono fun e w' ⟨h1, h2⟩ => ⟨_, h1, rfl, h2⟩)
        · exact opOk_val (v := .bool true) (w' := wv) (by simp [execOp, go_sem, hρ.1.const, hρ.1.func, hd]) ⟨rfl, GrR.refl _⟩
        · exact opOk_move (.inr rfl) ⟨by simp only [Is]; (first | exact hρ.2 28 rfl | exact hd | exact hd.1 | exact hd.2 | simp [hd]), GrR.refl _⟩
      · intro vals wv hR hall
        have hend := hall 7 (by simp)
        simp only [factAt, Is, List.getD_eq_getElem?_getD, List.getElem?_cons_succ, List.getElem?_cons_zero, Option.getD_some] at hend
        clear hall
        simp only [fillFrom, Act.put, hend, List.setIfInBounds_toArray, List.set_cons_zero, List.set_cons_succ]
        clear hend
        have HCE := hid (HC4.out.mono hR)
        have GE := hid (gr_trans G4.out hR)
        go_wp2_with fail
        go_meet
        exact ⟨1, rfl, by have := HQE.out; omega, rfl, HCE.out, GE.out⟩
    · have HQE := hid (show gotB er = 0 by unfold gotB; rw [if_neg q])
      have hz : (er == 0) = false := by simp [q]
      clear q
      go_wp2_with fail
      go_meet
      exact ⟨0, rfl, by have := HQE.out; omega, rfl, HC4.out, G4.out⟩
  case rest =>
    obtain ⟨m, rfl, hm', rfl, hrow, hbel⟩ := hcut
    have HS0 := hid hm'
    have HGE0 := HGE
    have hmb0 : m ≤ 1 := by have := gotB_le er; omega
    clear hm' HGE
    have HCX := hid hrow
    have GX := hid hbel
    clear hrow hbel G3 G4 HC3 HC4 HQ0 HV4 HT4 HE4 HT3
    obtain ⟨k0, k1, k2⟩ := HCX.out.three
    go_wp2_with fail
    refine (getInit_any _ ⟨kc, fc, bc⟩ _ ⟨_, rfl, HV.out.mono GX.out⟩ hl).mono ?_
    rintro e w3 ⟨s3, rfl, ho3, hb3⟩
    obtain ⟨d, er, hg⟩ : ∃ d er, initGet ⟨kc, fc, bc⟩ = (d, er) := ⟨_, _, rfl⟩
    rw [hg] at ho3 ⊢
    have HGE := hid (show (initGet ⟨kc, fc, bc⟩).2 = er by rw [hg])
    have HQ0 := hid (fun (h : er = 0) => show d.wf ∧ d.chk kc = ⟨kc, fc, bc⟩ ∧ d.ck.length ≤ bc.length by have := initGet_ok ⟨kc, fc, bc⟩ (by rw [hg]; exact h); rw [hg] at this; exact this)
    clear hg
    simp only [InitD.vals]
    obtain ⟨p3, c3, hs3⟩ := RdF.form (show RdF d.ck s3 w3 from ho3.rd)
    obtain ⟨n3, hn3⟩ : ∃ n, n = d.ck.length := ⟨_, rfl⟩
    rw [← hn3] at hs3
    subst hs3
    clear hn3
    have HT3 := hid (show InitAt w3 (.agg #[.int .u32 (d.tag : Int), .int .u32 (d.rwnd : Int), .int .u16 (d.out : Int), .int .u16 (d.in_ : Int), .int .u32 (d.tsn : Int), .slice p3 n3 c3]) d from ⟨_, rfl, ho3.rd⟩)
    clear ho3
    have G3 := hid (gr_trans GX.out hb3)
    have HC3 := hid (HCX.out.mono hb3)
    obtain ⟨W4, hW4⟩ : ∃ W4, W4 = w3.alloc (.cells #[.int .u32 (d.tag : Int), .int .u32 (d.rwnd : Int), .int .u16 (d.out : Int), .int .u16 (d.in_ : Int), .int .u32 (d.tsn : Int), .slice p3 n3 c3] 70 (0, 0)) := ⟨_, rfl⟩
    have g4 : Below w3.heap.size w3 W4 := by rw [hW4]; exact (Below.refl _ _).alloc (Nat.le_refl _) _
    have HV4 := hid (show RowV W4 w3.heap.size 70 [.int .u32 (d.tag : Int), .int .u32 (d.rwnd : Int), .int .u16 (d.out : Int), .int .u16 (d.in_ : Int), .int .u32 (d.tsn : Int), .slice p3 n3 c3] by rw [hW4]; exact RowV.new w3 70 _)
    have HT4 := hid (HT3.out.mono g4)
    have G4 := hid (gr_trans G3.out g4)
    have HC4 := hid (HC3.out.mono g4)
    have HE4 := hid hW4
    clear hW4 g4 hb3 k0 k1 k2
    go_upto_if 35 with fail
    rw [← HE4.out]
    go_cut [4, 5] from 29 to 46 (fun s4 s5 wx => ∃ m' : Nat, s4 = .int .i64 (m' : Int) ∧ m' = m + gotB er ∧ s5 = .bool true ∧ RowV wx w.heap.size 28 [.int .u8 (kc.toNat : Int), .int .u8 (fc.toNat : Int), .slice p bc.length c] ∧ Below w.heap.size w wx)
    case first =>
      obtain ⟨k0, k1, k2⟩ := HC4.out.three
      by_cases q : er = 0
      · have HQ := hid (HQ0.out q)
        have HQE := hid (show gotB er = 1 by rw [q]; rfl)
        have hz : (er == 0) = true := by rw [q]; rfl
        have hadd : IntKind.i64.wrap ((m : Int) + 1) = ((m + 1 : Nat) : Int) := by rw [IntKind.wrap_i64]; omega
        clear q
        go_wp2_with fail
        clear k0 k1 k2
        refine wp_region_grL [Is (.bool true), Is (.bool true), Is (.pointer (some ⟨w.heap.size, 0, none⟩)), Is (.int .u8 (kc.toNat : Int)), Is (.agg ([.int .u32 (d.tag : Int), .int .u32 (d.rwnd : Int), .int .u16 (d.out : Int), .int .u16 (d.in_ : Int), .int .u32 (d.tsn : Int), .slice p3 n3 c3]).toArray), ChkF (d.chk kc), Is (.agg ([.int .u8 (kc.toNat : Int), .int .u8 (fc.toNat : Int), .slice p bc.length c]).toArray), Is (.bool true), Is (.bool true), Is (.bool true)] (by kernel_rfl) (by kernel_rfl) (by kernel_rfl) (by kernel_rfl) ?_ ?_ ?_
        · simp only [StabAll, Is.gr, RdF.gr, OwnF.gr, AnyF.gr, ChkF.gr, and_self]
        · rename_i Kk hKk; clear hKk Kk
          simp only [AllOps, List.map_cons, List.map_nil, depsOf, List.filterMap_cons, List.filterMap_nil, Region.binds, depFacts, guardF, reduceIte, List.getD_eq_getElem?_getD, List.getElem?_cons_succ, List.getElem?_cons_zero, Option.getD_some, factAt, and_true]
          refine ⟨?_, ?_, ?_, ?_, ?_, ?_, ?_, ?_, ?_, ?_⟩
          all_goals intro ρ wv hρ hR hd
          all_goals try simp only [Is] at hd
          · exact opOk_move (.inl rfl) ⟨by simp only [Is]; (first | exact hρ.2 5 rfl | exact hd | exact hd.1 | exact hd.2 | simp [hd]), GrR.refl _⟩
          · exact opOk_move (.inl rfl) ⟨by simp only [Is]; (first | exact hρ.2 38 rfl | exact hd | exact hd.1 | exact hd.2 | simp [hd]), GrR.refl _⟩
          · refine ⟨fun _ => ?_, fun hg => absurd (by simp [hd]) hg⟩; exact opOk_val (v := .pointer (some ⟨w.heap.size, 0, none⟩)) (w' := wv) (by simp [execOp, go_sem, hρ.1.const, hρ.1.func, hd, (hρ.2 1 rfl)]) ⟨rfl, GrR.refl _⟩
          · refine ⟨fun _ => ?_, fun hg => absurd (by simp [hd]) hg⟩; (have h0 := cell?_of_below hR (HC4.out.at 0 (by simp)); simp only [List.getElem_cons_zero] at h0; exact opOk_val (v := .int .u8 (kc.toNat : Int)) (w' := wv) (by simp [execOp, go_sem, hd, h0]) ⟨rfl, GrR.refl _⟩)
          · refine ⟨fun _ => ?_, fun hg => absurd (by simp [hd]) hg⟩; exact opOk_loadRow rfl (w3.heap.size) (by first | exact hρ.2 _ rfl | simp [hd]) _ ([.int .u32 (d.tag : Int), .int .u32 (d.rwnd : Int), .int .u16 (d.out : Int), .int .u16 (d.in_ : Int), .int .u32 (d.tsn : Int), .slice p3 n3 c3]) _ (HV4.out.mono hR) Try.underlying70 rfl (by kernel_rfl) ⟨rfl, GrR.refl _⟩
          · refine ⟨fun _ => ?_, fun hg => absurd (by simp [hd]) hg⟩; exact opOk_call hρ.1 rfl rfl Try.func42 (by kernel_rfl) rfl (by simp [hd, hρ.1.const, hρ.1.func]) ((putInit_any kc _ d HQ.out.1 _ (HT4.out.mono hR) (Nat.le_trans HQ.out.2.2 HL.out)).mono fun e w' ⟨s, h1, h2, h3⟩ => ⟨_, h1, ⟨s, rfl, h2.rd⟩, h3⟩)
          · refine ⟨fun _ => ?_, fun hg => absurd (by simp [hd]) hg⟩; exact opOk_loadRow rfl (w.heap.size) (by first | exact hρ.2 _ rfl | simp [hd]) _ ([.int .u8 (kc.toNat : Int), .int .u8 (fc.toNat : Int), .slice p bc.length c]) _ (HC4.out.mono hR) Try.underlying28 rfl (by kernel_rfl) ⟨rfl, GrR.refl _⟩
          · refine ⟨fun _ => ?_, fun hg => absurd (by simp [hd]) hg⟩; exact opOk_call hρ.1 rfl rfl Try.func18 (by kernel_rfl) rfl (by simp [hd, hρ.1.const, hρ.1.func]) ((chkSame_yes _ _ ⟨kc, fc, bc⟩ _ (ChkF.v hd.1 HQ.out.2.1) ⟨_, rfl, (HV.out.mono G4.out).mono hR⟩).mono fun e w' ⟨h1, h2⟩ => ⟨_, h1, rfl, h2⟩)
          · exact opOk_val (v := .bool true) (w' := wv) (by simp [execOp, go_sem, hρ.1.const, hρ.1.func, hd]) ⟨rfl, GrR.refl _⟩
          · exact opOk_move (.inr rfl) ⟨by simp only [Is]; (first | exact hρ.2 46 rfl | exact hd | exact hd.1 | exact hd.2 | simp [hd]), GrR.refl _⟩
        · intro vals wv hR hall
          have hend := hall 9 (by simp)
          simp only [factAt, Is, List.getD_eq_getElem?_getD, List.getElem?_cons_succ, List.getElem?_cons_zero, Option.getD_some] at hend
          clear hall
          simp only [fillFrom, Act.put, hend, List.setIfInBounds_toArray, List.set_cons_zero, List.set_cons_succ]
          clear hend
          have HCE := hid (HC4.out.mono hR)
          have GE := hid (gr_trans G4.out hR)
          go_wp2_with fail
          go_meet
          exact ⟨m + 1, rfl, by have := HQE.out; omega, rfl, HCE.out, GE.out⟩
      · have HQE := hid (show gotB er = 0 by unfold gotB; rw [if_neg q])
        have hz : (er == 0) = false := by simp [q]
        clear q
        go_wp2_with fail
        go_meet
        exact ⟨m, rfl, by have := HQE.out; omega, rfl, HC4.out, G4.out⟩
    case rest =>
      obtain ⟨m, rfl, hm', rfl, hrow, hbel⟩ := hcut
      have HS1 := hid hm'
      have HGE1 := HGE
      have hmb1 : m ≤ 2 := by have := gotB_le er; omega
      clear hm' HGE
      have HCX := hid hrow
      have GX := hid hbel
      clear hrow hbel G3 G4 HC3 HC4 HQ0 HV4 HT4 HE4 HT3
      obtain ⟨k0, k1, k2⟩ := HCX.out.three
      go_wp2_with fail
      refine (getSack_any _ ⟨kc, fc, bc⟩ _ ⟨_, rfl, HV.out.mono GX.out⟩ hl).mono ?_
      rintro e w3 ⟨s3, rfl, ho3, hb3⟩
      obtain ⟨d, er, hg⟩ : ∃ d er, sackGet ⟨kc, fc, bc⟩ = (d, er) := ⟨_, _, rfl⟩
      rw [hg] at ho3 ⊢
      have HGE := hid (show (sackGet ⟨kc, fc, bc⟩).2 = er by rw [hg])
      have HQ0 := hid (fun (h : er = 0) => show d.wf ∧ d.chk = ⟨kc, fc, bc⟩ ∧ (d.gaps.length ≤ bc.length ∧ d.dups.length ≤ bc.length) by have := sackGet_ok ⟨kc, fc, bc⟩ (by rw [hg]; exact h); rw [hg] at this; exact this)
      clear hg
      obtain ⟨sg, sd, rfl, hg3, hd3⟩ := ho3
      simp only at hg3 hd3
      obtain ⟨p3, c3, hp3, -, -, -, -⟩ := id hg3
      obtain ⟨q3, e3, hq3, -, -, -⟩ := hd3.nums
      obtain ⟨n3, hn3⟩ : ∃ n, n = d.gaps.length := ⟨_, rfl⟩
      obtain ⟨m3, hm3⟩ : ∃ n, n = d.dups.length := ⟨_, rfl⟩
      rw [← hn3] at hp3
      rw [← hm3] at hq3
      subst hp3 hq3
      clear hn3 hm3
      have HT3 := hid (show SackAt w3 (.agg #[.int .u32 (d.cum : Int), .int .u32 (d.rwnd : Int), .slice p3 n3 c3, .slice q3 m3 e3]) d from ⟨_, _, rfl, hg3, hd3⟩)
      clear hg3 hd3
      have G3 := hid (gr_trans GX.out hb3)
      have HC3 := hid (HCX.out.mono hb3)
      obtain ⟨W4, hW4⟩ : ∃ W4, W4 = w3.alloc (.cells #[.int .u32 (d.cum : Int), .int .u32 (d.rwnd : Int), .slice p3 n3 c3, .slice q3 m3 e3] 45 (0, 0)) := ⟨_, rfl⟩
      have g4 : Below w3.heap.size w3 W4 := by rw [hW4]; exact (Below.refl _ _).alloc (Nat.le_refl _) _
      have HV4 := hid (show RowV W4 w3.heap.size 45 [.int .u32 (d.cum : Int), .int .u32 (d.rwnd : Int), .slice p3 n3 c3, .slice q3 m3 e3] by rw [hW4]; exact RowV.new w3 45 _)
      have HT4 := hid (HT3.out.mono g4)
      have G4 := hid (gr_trans G3.out g4)
      have HC4 := hid (HC3.out.mono g4)
      have HE4 := hid hW4
      clear hW4 g4 hb3 k0 k1 k2
      go_upto_if 53 with fail
      rw [← HE4.out]
      go_cut [4, 5] from 47 to 62 (fun s4 s5 wx => ∃ m' : Nat, s4 = .int .i64 (m' : Int) ∧ m' = m + gotB er ∧ s5 = .bool true ∧ RowV wx w.heap.size 28 [.int .u8 (kc.toNat : Int), .int .u8 (fc.toNat : Int), .slice p bc.length c] ∧ Below w.heap.size w wx)
      case first =>
        obtain ⟨k0, k1, k2⟩ := HC4.out.three
        by_cases q : er = 0
        · have HQ := hid (HQ0.out q)
          have HQE := hid (show gotB er = 1 by rw [q]; rfl)
          have hz : (er == 0) = true := by rw [q]; rfl
          have hadd : IntKind.i64.wrap ((m : Int) + 1) = ((m + 1 : Nat) : Int) := by rw [IntKind.wrap_i64]; omega
          clear q
          go_wp2_with fail
          clear k0 k1 k2
          refine wp_region_grL [Is (.bool true), Is (.bool true), Is (.agg ([.int .u32 (d.cum : Int), .int .u32 (d.rwnd : Int), .slice p3 n3 c3, .slice q3 m3 e3]).toArray), ChkF (d.chk), Is (.agg ([.int .u8 (kc.toNat : Int), .int .u8 (fc.toNat : Int), .slice p bc.length c]).toArray), Is (.bool true), Is (.bool true), Is (.bool true)] (by kernel_rfl) (by kernel_rfl) (by kernel_rfl) (by kernel_rfl) ?_ ?_ ?_
          · simp only [StabAll, Is.gr, RdF.gr, OwnF.gr, AnyF.gr, ChkF.gr, and_self]
          · rename_i Kk hKk; clear hKk Kk
            simp only [AllOps, List.map_cons, List.map_nil, depsOf, List.filterMap_cons, List.filterMap_nil, Region.binds, depFacts, guardF, reduceIte, List.getD_eq_getElem?_getD, List.getElem?_cons_succ, List.getElem?_cons_zero, Option.getD_some, factAt, and_true]
            refine ⟨?_, ?_, ?_, ?_, ?_, ?_, ?_, ?_⟩
            all_goals intro ρ wv hρ hR hd
            all_goals try simp only [Is] at hd
            · exact opOk_move (.inl rfl) ⟨by simp only [Is]; (first | exact hρ.2 5 rfl | exact hd | exact hd.1 | exact hd.2 | simp [hd]), GrR.refl _⟩
            · exact opOk_move (.inl rfl) ⟨by simp only [Is]; (first | exact hρ.2 56 rfl | exact hd | exact hd.1 | exact hd.2 | simp [hd]), GrR.refl _⟩
            · refine ⟨fun _ => ?_, fun hg => absurd (by simp [hd]) hg⟩; exact opOk_loadRow rfl (w3.heap.size) (by first | exact hρ.2 _ rfl | simp [hd]) _ ([.int .u32 (d.cum : Int), .int .u32 (d.rwnd : Int), .slice p3 n3 c3, .slice q3 m3 e3]) _ (HV4.out.mono hR) Try.underlying45 rfl (by kernel_rfl) ⟨rfl, GrR.refl _⟩
            · refine ⟨fun _ => ?_, fun hg => absurd (by simp [hd]) hg⟩; exact opOk_call hρ.1 rfl rfl Try.func24 (by kernel_rfl) rfl (by simp [hd, hρ.1.const, hρ.1.func]) ((putSack_any _ d HQ.out.1 _ (HT4.out.mono hR) (Nat.le_trans HQ.out.2.2.1 HL.out) (Nat.le_trans HQ.out.2.2.2 HL.out)).mono fun e w' ⟨s, h1, h2, h3⟩ => ⟨_, h1, ⟨s, rfl, h2.rd⟩, h3⟩)
            · refine ⟨fun _ => ?_, fun hg => absurd (by simp [hd]) hg⟩; exact opOk_loadRow rfl (w.heap.size) (by first | exact hρ.2 _ rfl | simp [hd]) _ ([.int .u8 (kc.toNat : Int), .int .u8 (fc.toNat : Int), .slice p bc.length c]) _ (HC4.out.mono hR) Try.underlying28 rfl (by kernel_rfl) ⟨rfl, GrR.refl _⟩
            · refine ⟨fun _ => ?_, fun hg => absurd (by simp [hd]) hg⟩; exact opOk_call hρ.1 rfl rfl Try.func18 (by kernel_rfl) rfl (by simp [hd, hρ.1.const, hρ.1.func]) ((chkSame_yes _ _ ⟨kc, fc, bc⟩ _ (ChkF.v hd.1 HQ.out.2.1) ⟨_, rfl, (HV.out.mono G4.out).mono hR⟩).mono fun e w' ⟨h1, h2⟩ => ⟨_, h1, rfl, h2⟩)
            · exact opOk_val (v := .bool true) (w' := wv) (by simp [execOp, go_sem, hρ.1.const, hρ.1.func, hd]) ⟨rfl, GrR.refl _⟩
            · exact opOk_move (.inr rfl) ⟨by simp only [Is]; (first | exact hρ.2 62 rfl | exact hd | exact hd.1 | exact hd.2 | simp [hd]), GrR.refl _⟩
          · intro vals wv hR hall
            have hend := hall 7 (by simp)
            simp only [factAt, Is, List.getD_eq_getElem?_getD, List.getElem?_cons_succ, List.getElem?_cons_zero, Option.getD_some] at hend
            clear hall
            simp only [fillFrom, Act.put, hend, List.setIfInBounds_toArray, List.set_cons_zero, List.set_cons_succ]
            clear hend
            have HCE := hid (HC4.out.mono hR)
            have GE := hid (gr_trans G4.out hR)
            go_wp2_with fail
            go_meet
            exact ⟨m + 1, rfl, by have := HQE.out; omega, rfl, HCE.out, GE.out⟩
        · have HQE := hid (show gotB er = 0 by unfold gotB; rw [if_neg q])
          have hz : (er == 0) = false := by simp [q]
          clear q
          go_wp2_with fail
          go_meet
          exact ⟨m, rfl, by have := HQE.out; omega, rfl, HC4.out, G4.out⟩
      case rest =>
        obtain ⟨m, rfl, hm', rfl, hrow, hbel⟩ := hcut
        have HS2 := hid hm'
        have HGE2 := HGE
        have hmb2 : m ≤ 3 := by have := gotB_le er; omega
        clear hm' HGE
        have HCX := hid hrow
        have GX := hid hbel
        clear hrow hbel G3 G4 HC3 HC4 HQ0 HV4 HT4 HE4 HT3
        obtain ⟨k0, k1, k2⟩ := HCX.out.three
        go_wp2_with fail
        refine (getFwd_any _ ⟨kc, fc, bc⟩ _ ⟨_, rfl, HV.out.mono GX.out⟩ hl).mono ?_
        rintro e w3 ⟨s3, rfl, ho3, hb3⟩
        obtain ⟨d, er, hg⟩ : ∃ d er, fwdGet ⟨kc, fc, bc⟩ = (d, er) := ⟨_, _, rfl⟩
        rw [hg] at ho3 ⊢
        have HGE := hid (show (fwdGet ⟨kc, fc, bc⟩).2 = er by rw [hg])
        have HQ0 := hid (fun (h : er = 0) => show d.wf ∧ d.chk = ⟨kc, fc, bc⟩ ∧ d.skips.length ≤ bc.length by have := fwdGet_ok ⟨kc, fc, bc⟩ (by rw [hg]; exact h); rw [hg] at this; exact this)
        clear hg
        simp only at ho3 ⊢
        obtain ⟨p3, c3, hp3, -, -, -, -⟩ := id ho3
        obtain ⟨n3, hn3⟩ : ∃ n, n = d.skips.length := ⟨_, rfl⟩
        rw [← hn3] at hp3
        subst hp3
        clear hn3
        have HT3 := hid (show FwdAt w3 (.agg #[.int .u32 (d.cum : Int), .slice p3 n3 c3]) d from ⟨_, rfl, ho3⟩)
        clear ho3
        have G3 := hid (gr_trans GX.out hb3)
        have HC3 := hid (HCX.out.mono hb3)
        obtain ⟨W4, hW4⟩ : ∃ W4, W4 = w3.alloc (.cells #[.int .u32 (d.cum : Int), .slice p3 n3 c3] 49 (0, 0)) := ⟨_, rfl⟩
        have g4 : Below w3.heap.size w3 W4 := by rw [hW4]; exact (Below.refl _ _).alloc (Nat.le_refl _) _
        have HV4 := hid (show RowV W4 w3.heap.size 49 [.int .u32 (d.cum : Int), .slice p3 n3 c3] by rw [hW4]; exact RowV.new w3 49 _)
        have HT4 := hid (HT3.out.mono g4)
        have G4 := hid (gr_trans G3.out g4)
        have HC4 := hid (HC3.out.mono g4)
        have HE4 := hid hW4
        clear hW4 g4 hb3 k0 k1 k2
        go_upto_if 69 with fail
        rw [← HE4.out]
        go_cut [4, 5] from 63 to 78 (fun s4 s5 wx => ∃ m' : Nat, s4 = .int .i64 (m' : Int) ∧ m' = m + gotB er ∧ s5 = .bool true ∧ RowV wx w.heap.size 28 [.int .u8 (kc.toNat : Int), .int .u8 (fc.toNat : Int), .slice p bc.length c] ∧ Below w.heap.size w wx)
        case first =>
          obtain ⟨k0, k1, k2⟩ := HC4.out.three
          by_cases q : er = 0
          · have HQ := hid (HQ0.out q)
            have HQE := hid (show gotB er = 1 by rw [q]; rfl)
            have hz : (er == 0) = true := by rw [q]; rfl
            have hadd : IntKind.i64.wrap ((m : Int) + 1) = ((m + 1 : Nat) : Int) := by rw [IntKind.wrap_i64]; omega
            clear q
            go_wp2_with fail
            clear k0 k1 k2
            refine wp_region_grL [Is (.bool true), Is (.bool true), Is (.agg ([.int .u32 (d.cum : Int), .slice p3 n3 c3]).toArray), ChkF (d.chk), Is (.agg ([.int .u8 (kc.toNat : Int), .int .u8 (fc.toNat : Int), .slice p bc.length c]).toArray), Is (.bool true), Is (.bool true), Is (.bool true)] (by kernel_rfl) (by kernel_rfl) (by kernel_rfl) (by kernel_rfl) ?_ ?_ ?_
            · simp only [StabAll, Is.gr, RdF.gr, OwnF.gr, AnyF.gr, ChkF.gr, and_self]
            · rename_i Kk hKk; clear hKk Kk
              simp only [AllOps, List.map_cons, List.map_nil, depsOf, List.filterMap_cons, List.filterMap_nil, Region.binds, depFacts, guardF, reduceIte, List.getD_eq_getElem?_getD, List.getElem?_cons_succ, List.getElem?_cons_zero, Option.getD_some, factAt, and_true]
              refine ⟨?_, ?_, ?_, ?_, ?_, ?_, ?_, ?_⟩
              all_goals intro ρ wv hρ hR hd
              all_goals try simp only [Is] at hd
              · exact opOk_move (.inl rfl) ⟨by simp only [Is]; (first | exact hρ.2 5 rfl | exact hd | exact hd.1 | exact hd.2 | simp [hd]), GrR.refl _⟩
              · exact opOk_move (.inl rfl) ⟨by simp only [Is]; (first | exact hρ.2 72 rfl | exact hd | exact hd.1 | exact hd.2 | simp [hd]), GrR.refl _⟩
              · refine ⟨fun _ => ?_, fun hg => absurd (by simp [hd]) hg⟩; exact opOk_loadRow rfl (w3.heap.size) (by first | exact hρ.2 _ rfl | simp [hd]) _ ([.int .u32 (d.cum : Int), .slice p3 n3 c3]) _ (HV4.out.mono hR) Try.underlying49 rfl (by kernel_rfl) ⟨rfl, GrR.refl _⟩
              · refine ⟨fun _ => ?_, fun hg => absurd (by simp [hd]) hg⟩; exact opOk_call hρ.1 rfl rfl Try.func29 (by kernel_rfl) rfl (by simp [hd, hρ.1.const, hρ.1.func]) ((putFwd_any _ d HQ.out.1 _ (HT4.out.mono hR) (Nat.le_trans HQ.out.2.2 HL.out)).mono fun e w' ⟨s, h1, h2, h3⟩ => ⟨_, h1, ⟨s, rfl, h2.rd⟩, h3⟩)
              · refine ⟨fun _ => ?_, fun hg => absurd (by simp [hd]) hg⟩; exact opOk_loadRow rfl (w.heap.size) (by first | exact hρ.2 _ rfl | simp [hd]) _ ([.int .u8 (kc.toNat : Int), .int .u8 (fc.toNat : Int), .slice p bc.length c]) _ (HC4.out.mono hR) Try.underlying28 rfl (by kernel_rfl) ⟨rfl, GrR.refl _⟩
              · refine ⟨fun _ => ?_, fun hg => absurd (by simp [hd]) hg⟩; exact opOk_call hρ.1 rfl rfl Try.func18 (by kernel_rfl) rfl (by simp [hd, hρ.1.const, hρ.1.func]) ((chkSame_yes _ _ ⟨kc, fc, bc⟩ _ (ChkF.v hd.1 HQ.out.2.1) ⟨_, rfl, (HV.out.mono G4.out).mono hR⟩).mono fun e w' ⟨h1, h2⟩ => ⟨_, h1, rfl, h2⟩)
              · exact opOk_val (v := .bool true) (w' := wv) (by simp [execOp, go_sem, hρ.1.const, hρ.1.func, hd]) ⟨rfl, GrR.refl _⟩
              · exact opOk_move (.inr rfl) ⟨by simp only [Is]; (first | exact hρ.2 78 rfl | exact hd | exact hd.1 | exact hd.2 | simp [hd]), GrR.refl _⟩
            · intro vals wv hR hall
              have hend := hall 7 (by simp)
              simp only [factAt, Is, List.getD_eq_getElem?_getD, List.getElem?_cons_succ, List.getElem?_cons_zero, Option.getD_some] at hend
              clear hall
              simp only [fillFrom, Act.put, hend, List.setIfInBounds_toArray, List.set_cons_zero, List.set_cons_succ]
              clear hend
              have HCE := hid (HC4.out.mono hR)
              have GE := hid (gr_trans G4.out hR)
              go_wp2_with fail
              go_meet
              exact ⟨m + 1, rfl, by have := HQE.out; omega, rfl, HCE.out, GE.out⟩
          · have HQE := hid (show gotB er = 0 by unfold gotB; rw [if_neg q])
            have hz : (er == 0) = false := by simp [q]
            clear q
            go_wp2_with fail
            go_meet
            exact ⟨m, rfl, by have := HQE.out; omega, rfl, HC4.out, G4.out⟩
        case rest =>
          obtain ⟨m, rfl, hm', rfl, hrow, hbel⟩ := hcut
          have HS3 := hid hm'
          have HGE3 := HGE
          have hmb3 : m ≤ 4 := by have := gotB_le er; omega
          clear hm' HGE
          have HCX := hid hrow
          have GX := hid hbel
          clear hrow hbel G3 G4 HC3 HC4 HQ0 HV4 HT4 HE4 HT3
          obtain ⟨k0, k1, k2⟩ := HCX.out.three
          go_wp2_with fail
          refine (getTime_any _ ⟨kc, fc, bc⟩ _ ⟨_, rfl, HV.out.mono GX.out⟩ hl).mono ?_
          rintro e w3 ⟨rfl, hb3⟩
          obtain ⟨d, er, hg⟩ : ∃ d er, timeGet ⟨kc, fc, bc⟩ = (d, er) := ⟨_, _, rfl⟩
          rw [hg]
          simp only
          have HGE := hid (show (timeGet ⟨kc, fc, bc⟩).2 = er by rw [hg])
          have HQ0 := hid (fun (h : er = 0) => show True ∧ timeChk kc d = ⟨kc, fc, bc⟩ by have := timeGet_ok ⟨kc, fc, bc⟩ (by rw [hg]; exact h); rw [hg] at this; exact this)
          clear hg
          have G3 := hid (gr_trans GX.out hb3)
          have HC3 := hid (HCX.out.mono hb3)
          have G4 := G3
          have HC4 := HC3
          clear hb3 k0 k1 k2
          go_upto_if 85 with fail
          go_cut [4, 5] from 79 to 96 (fun s4 s5 wx => ∃ m' : Nat, s4 = .int .i64 (m' : Int) ∧ m' = m + gotB er ∧ s5 = .bool true ∧ RowV wx w.heap.size 28 [.int .u8 (kc.toNat : Int), .int .u8 (fc.toNat : Int), .slice p bc.length c] ∧ Below w.heap.size w wx)
          case first =>
            obtain ⟨k0, k1, k2⟩ := HC4.out.three
            by_cases q : er = 0
            · have HQ := hid (HQ0.out q)
              have HQE := hid (show gotB er = 1 by rw [q]; rfl)
              have hz : (er == 0) = true := by rw [q]; rfl
              have hadd : IntKind.i64.wrap ((m : Int) + 1) = ((m + 1 : Nat) : Int) := by rw [IntKind.wrap_i64]; omega
              clear q
              go_wp2_with fail
              clear k0 k1 k2
              refine wp_region_grL [Is (.bool true), Is (.bool true), Is (.pointer (some ⟨w.heap.size, 0, none⟩)), Is (.int .u8 (kc.toNat : Int)), Is (.int .i64 d), ChkF (timeChk kc d), Is (.agg ([.int .u8 (kc.toNat : Int), .int .u8 (fc.toNat : Int), .slice p bc.length c]).toArray), Is (.bool true), Is (.bool true), Is (.bool true)] (by kernel_rfl) (by kernel_rfl) (by kernel_rfl) (by kernel_rfl) ?_ ?_ ?_
              · simp only [StabAll, Is.gr, RdF.gr, OwnF.gr, AnyF.gr, ChkF.gr, and_self]
              · rename_i Kk hKk; clear hKk Kk
                simp only [AllOps, List.map_cons, List.map_nil, depsOf, List.filterMap_cons, List.filterMap_nil, Region.binds, depFacts, guardF, reduceIte, List.getD_eq_getElem?_getD, List.getElem?_cons_succ, List.getElem?_cons_zero, Option.getD_some, factAt, and_true]
                refine ⟨?_, ?_, ?_, ?_, ?_, ?_, ?_, ?_, ?_, ?_⟩
                all_goals intro ρ wv hρ hR hd
                all_goals try simp only [Is] at hd
                · exact opOk_move (.inl rfl) ⟨by simp only [Is]; (first | exact hρ.2 5 rfl | exact hd | exact hd.1 | exact hd.2 | simp [hd]), GrR.refl _⟩
                · exact opOk_move (.inl rfl) ⟨by simp only [Is]; (first | exact hρ.2 88 rfl | exact hd | exact hd.1 | exact hd.2 | simp [hd]), GrR.refl _⟩
                · refine ⟨fun _ => ?_, fun hg => absurd (by simp [hd]) hg⟩; exact opOk_val (v := .pointer (some ⟨w.heap.size, 0, none⟩)) (w' := wv) (by simp [execOp, go_sem, hρ.1.const, hρ.1.func, hd, (hρ.2 1 rfl)]) ⟨rfl, GrR.refl _⟩
                · refine ⟨fun _ => ?_, fun hg => absurd (by simp [hd]) hg⟩; (have h0 := cell?_of_below hR (HC4.out.at 0 (by simp)); simp only [List.getElem_cons_zero] at h0; exact opOk_val (v := .int .u8 (kc.toNat : Int)) (w' := wv) (by simp [execOp, go_sem, hd, h0]) ⟨rfl, GrR.refl _⟩)
                · refine ⟨fun _ => ?_, fun hg => absurd (by simp [hd]) hg⟩; exact opOk_move (.inl rfl) ⟨by simp only [Is]; (first | exact hρ.2 11 rfl | exact hd | exact hd.1 | exact hd.2 | simp [hd]), GrR.refl _⟩
                · refine ⟨fun _ => ?_, fun hg => absurd (by simp [hd]) hg⟩; exact opOk_call hρ.1 rfl rfl Try.func38 (by kernel_rfl) rfl (by simp [hd, hρ.1.const, hρ.1.func]) ((putTime_any kc d _).mono fun e w' ⟨s, h1, h2, h3⟩ => ⟨_, h1, ⟨s, rfl, h2.rd⟩, h3⟩)
                · refine ⟨fun _ => ?_, fun hg => absurd (by simp [hd]) hg⟩; exact opOk_loadRow rfl (w.heap.size) (by first | exact hρ.2 _ rfl | simp [hd]) _ ([.int .u8 (kc.toNat : Int), .int .u8 (fc.toNat : Int), .slice p bc.length c]) _ (HC4.out.mono hR) Try.underlying28 rfl (by kernel_rfl) ⟨rfl, GrR.refl _⟩
                · refine ⟨fun _ => ?_, fun hg => absurd (by simp [hd]) hg⟩; exact opOk_call hρ.1 rfl rfl Try.func18 (by kernel_rfl) rfl (by simp [hd, hρ.1.const, hρ.1.func]) ((chkSame_yes _ _ ⟨kc, fc, bc⟩ _ (ChkF.v hd.1 HQ.out.2) ⟨_, rfl, (HV.out.mono G4.out).mono hR⟩).mono fun e w' ⟨h1, h2⟩ => ⟨_, h1, rfl, h2⟩)
                · exact opOk_val (v := .bool true) (w' := wv) (by simp [execOp, go_sem, hρ.1.const, hρ.1.func, hd]) ⟨rfl, GrR.refl _⟩
                · exact opOk_move (.inr rfl) ⟨by simp only [Is]; (first | exact hρ.2 96 rfl | exact hd | exact hd.1 | exact hd.2 | simp [hd]), GrR.refl _⟩
              · intro vals wv hR hall
                have hend := hall 9 (by simp)
                simp only [factAt, Is, List.getD_eq_getElem?_getD, List.getElem?_cons_succ, List.getElem?_cons_zero, Option.getD_some] at hend
                clear hall
                simp only [fillFrom, Act.put, hend, List.setIfInBounds_toArray, List.set_cons_zero, List.set_cons_succ]
                clear hend
                have HCE := hid (HC4.out.mono hR)
                have GE := hid (gr_trans G4.out hR)
                go_wp2_with fail
                go_meet
                exact ⟨m + 1, rfl, by have := HQE.out; omega, rfl, HCE.out, GE.out⟩
            · have HQE := hid (show gotB er = 0 by unfold gotB; rw [if_neg q])
              have hz : (er == 0) = false := by simp [q]
              clear q
              go_wp2_with fail
              go_meet
              exact ⟨m, rfl, by have := HQE.out; omega, rfl, HC4.out, G4.out⟩
          case rest =>
            obtain ⟨m, rfl, hm', rfl, hrow, hbel⟩ := hcut
            have HS4 := hid hm'
            have HGE4 := HGE
            have hmb4 : m ≤ 5 := by have := gotB_le er; omega
            clear hm' HGE
            have HCX := hid hrow
            have GX := hid hbel
            clear hrow hbel G3 G4 HC3 HC4 HQ0
            obtain ⟨k0, k1, k2⟩ := HCX.out.three
            go_wp2_with fail
            refine (getCum_any _ ⟨kc, fc, bc⟩ _ ⟨_, rfl, HV.out.mono GX.out⟩ hl).mono ?_
            rintro e w3 ⟨rfl, hb3⟩
            obtain ⟨d, er, hg⟩ : ∃ d er, cumGet ⟨kc, fc, bc⟩ = (d, er) := ⟨_, _, rfl⟩
            rw [hg]
            simp only
            have HGE := hid (show (cumGet ⟨kc, fc, bc⟩).2 = er by rw [hg])
            have HQ0 := hid (fun (h : er = 0) => show d < 4294967296 ∧ cumChk d = ⟨kc, fc, bc⟩ by have := cumGet_ok ⟨kc, fc, bc⟩ (by rw [hg]; exact h); rw [hg] at this; exact this)
            clear hg
            have G3 := hid (gr_trans GX.out hb3)
            have HC3 := hid (HCX.out.mono hb3)
            have G4 := G3
            have HC4 := HC3
            clear hb3 k0 k1 k2
            go_upto_if 103 with fail
            go_cut [4, 5] from 97 to 112 (fun s4 s5 wx => ∃ m' : Nat, s4 = .int .i64 (m' : Int) ∧ m' = m + gotB er ∧ s5 = .bool true ∧ RowV wx w.heap.size 28 [.int .u8 (kc.toNat : Int), .int .u8 (fc.toNat : Int), .slice p bc.length c] ∧ Below w.heap.size w wx)
            case first =>
              obtain ⟨k0, k1, k2⟩ := HC4.out.three
              by_cases q : er = 0
              · have HQ := hid (HQ0.out q)
                have HQE := hid (show gotB er = 1 by rw [q]; rfl)
                have hz : (er == 0) = true := by rw [q]; rfl
                have hadd : IntKind.i64.wrap ((m : Int) + 1) = ((m + 1 : Nat) : Int) := by rw [IntKind.wrap_i64]; omega
                clear q
                go_wp2_with fail
                clear k0 k1 k2
                refine wp_region_grL [Is (.bool true), Is (.bool true), Is (.int .u32 (d : Int)), ChkF (cumChk d), Is (.agg ([.int .u8 (kc.toNat : Int), .int .u8 (fc.toNat : Int), .slice p bc.length c]).toArray), Is (.bool true), Is (.bool true), Is (.bool true)] (by kernel_rfl) (by kernel_rfl) (by kernel_rfl) (by kernel_rfl) ?_ ?_ ?_
                · simp only [StabAll, Is.gr, RdF.gr, OwnF.gr, AnyF.gr, ChkF.gr, and_self]
                · rename_i Kk hKk; clear hKk Kk
                  simp only [AllOps, List.map_cons, List.map_nil, depsOf, List.filterMap_cons, List.filterMap_nil, Region.binds, depFacts, guardF, reduceIte, List.getD_eq_getElem?_getD, List.getElem?_cons_succ, List.getElem?_cons_zero, Option.getD_some, factAt, and_true]
                  refine ⟨?_, ?_, ?_, ?_, ?_, ?_, ?_, ?_⟩
                  all_goals intro ρ wv hρ hR hd
                  all_goals try simp only [Is] at hd
                  · exact opOk_move (.inl rfl) ⟨by simp only [Is]; (first | exact hρ.2 5 rfl | exact hd | exact hd.1 | exact hd.2 | simp [hd]), GrR.refl _⟩
                  · exact opOk_move (.inl rfl) ⟨by simp only [Is]; (first | exact hρ.2 106 rfl | exact hd | exact hd.1 | exact hd.2 | simp [hd]), GrR.refl _⟩
                  · refine ⟨fun _ => ?_, fun hg => absurd (by simp [hd]) hg⟩; exact opOk_move (.inl rfl) ⟨by simp only [Is]; (first | exact hρ.2 12 rfl | exact hd | exact hd.1 | exact hd.2 | simp [hd]), GrR.refl _⟩
                  · refine ⟨fun _ => ?_, fun hg => absurd (by simp [hd]) hg⟩; exact opOk_call hρ.1 rfl rfl Try.func40 (by kernel_rfl) rfl (by simp [hd, hρ.1.const, hρ.1.func]) ((putCum_any d HQ.out.1 _).mono fun e w' ⟨s, h1, h2, h3⟩ => ⟨_, h1, ⟨s, rfl, h2.rd⟩, h3⟩)
                  · refine ⟨fun _ => ?_, fun hg => absurd (by simp [hd]) hg⟩; exact opOk_loadRow rfl (w.heap.size) (by first | exact hρ.2 _ rfl | simp [hd]) _ ([.int .u8 (kc.toNat : Int), .int .u8 (fc.toNat : Int), .slice p bc.length c]) _ (HC4.out.mono hR) Try.underlying28 rfl (by kernel_rfl) ⟨rfl, GrR.refl _⟩
                  · refine ⟨fun _ => ?_, fun hg => absurd (by simp [hd]) hg⟩; exact opOk_call hρ.1 rfl rfl Try.func18 (by kernel_rfl) rfl (by simp [hd, hρ.1.const, hρ.1.func]) ((chkSame_yes _ _ ⟨kc, fc, bc⟩ _ (ChkF.v hd.1 HQ.out.2) ⟨_, rfl, (HV.out.mono G4.out).mono hR⟩).mono fun e w' ⟨h1, h2⟩ => ⟨_, h1, rfl, h2⟩)
                  · exact opOk_val (v := .bool true) (w' := wv) (by simp [execOp, go_sem, hρ.1.const, hρ.1.func, hd]) ⟨rfl, GrR.refl _⟩
                  · exact opOk_move (.inr rfl) ⟨by simp only [Is]; (first | exact hρ.2 112 rfl | exact hd | exact hd.1 | exact hd.2 | simp [hd]), GrR.refl _⟩
                · intro vals wv hR hall
                  have hend := hall 7 (by simp)
                  simp only [factAt, Is, List.getD_eq_getElem?_getD, List.getElem?_cons_succ, List.getElem?_cons_zero, Option.getD_some] at hend
                  clear hall
                  simp only [fillFrom, Act.put, hend, List.setIfInBounds_toArray, List.set_cons_zero, List.set_cons_succ]
                  clear hend
                  have HCE := hid (HC4.out.mono hR)
                  have GE := hid (gr_trans G4.out hR)
                  go_wp2_with fail
                  go_meet
                  exact ⟨m + 1, rfl, by have := HQE.out; omega, rfl, HCE.out, GE.out⟩
              · have HQE := hid (show gotB er = 0 by unfold gotB; rw [if_neg q])
                have hz : (er == 0) = false := by simp [q]
                clear q
                go_wp2_with fail
                go_meet
                exact ⟨m, rfl, by have := HQE.out; omega, rfl, HC4.out, G4.out⟩
            case rest =>
              obtain ⟨m, rfl, hm', rfl, hrow, hbel⟩ := hcut
              have HS5 := hid hm'
              have HGE5 := HGE
              have hmb5 : m ≤ 6 := by have := gotB_le er; omega
              clear hm' HGE
              have HCX := hid hrow
              have GX := hid hbel
              clear hrow hbel G3 G4 HC3 HC4 HQ0
              obtain ⟨k0, k1, k2⟩ := HCX.out.three
              have HN := hid (show gotN ⟨kc, fc, bc⟩ = m by unfold gotN; rw [HGE0.out, HGE1.out, HGE2.out, HGE3.out, HGE4.out, HGE5.out]; have := HS0.out; have := HS1.out; have := HS2.out; have := HS3.out; have := HS4.out; have := HS5.out; omega)
              go_wp2_with fail
              go_ret2
              refine ⟨?_, GX.out⟩
              rw [HN.out]
              rfl
end Go.Proofs.Ytfiblhdejglpaaa

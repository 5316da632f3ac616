/- AssocTags: which packets are taken. Conditions: the tables of sha hold what its text says. -/
import Derived.Test.YtiimlanbbfhkjaaDoorAsTagsM
import Derived.Lib.SlBytesConst
import Derived.Deep.CutRange
set_option linter.unusedSimpArgs false
set_option linter.unusedVariables false




namespace Go.Proofs.YtiimlanbbfhkjaaDoor

open Go.RowKit Go.FL Go.ChangeShapes

theorem infoChk : (Tryd.prog.info? 47).map (fun i => (i.zero, i.size, i.bytes)) = some (some (.agg #[.int .u8 0, .int .u8 0, .slice none 0 0]), 3, 32) := by kernel_rfl
abbrev jk (rb : Nat) (l m sp : List Value) : Nat → World → Prop
  | 0, w => RowV w rb 47 (l ++ sp)
  | _, w => RowV w rb 47 (l ++ m ++ sp.drop m.length)
theorem jk_st (rb : Nat) (l m sp : List Value) : ∀ k a b, jk rb l m sp k a → GrR a b → jk rb l m sp k b
  | 0, _, _, h, k => RowV.mono h k
  | _ + 1, _, _, h, k => RowV.mono h k
set_option maxRecDepth 100000 in
set_option maxHeartbeats 16000000 in
theorem assocTags_walk {w : World} (hlaid : ShaLaid w) (tg : Int) (htg : (Lit.int .u32 tg).wf = true) (l : List UInt8) {v : Value} (hv : Rd w v l) :
    Calls Tryd.prog 4 #[.int .u32 tg, v] w fun e w' => e = .returned (.bool true) ∧ Below w.heap.size w w' := by
  have HLAID := hid hlaid
  obtain ⟨tag, rfl, htl⟩ := natU32 htg
  obtain ⟨n, hn⟩ : ∃ n, n = l.length := ⟨_, rfl⟩
  have HN := hid hn
  by_cases q0 : n = 0 ∨ 20 < n
  · obtain ⟨p9, c9, rfl, -⟩ := id hv
    rw [← hn]
    clear hlaid htg htl hv hn
    go_enter Tryd.func4, Tryd.ntmps4
    by_cases q : n = 0
    · have z : ((n : Int) == 0) = true := by simp; omega
      clear q0 q
      go_wp2_with fail
      refine (works_any _ HLAID.out).mono ?_
      rintro e w1 ⟨rfl, hb1⟩
      go_wp2_with fail
      go_ret
      exact ⟨rfl, hb1⟩
    · have z : ((n : Int) == 0) = false := by simp; omega
      have z2 : (20 : Int) < (n : Int) := by omega
      clear q0 q
      go_wp2_with fail
      refine (works_any _ HLAID.out).mono ?_
      rintro e w1 ⟨rfl, hb1⟩
      go_wp2_with fail
      go_ret
      exact ⟨rfl, hb1⟩
  have HNL := hid (show 0 < n ∧ n ≤ 20 by omega)
  have HTL := hid htl
  obtain ⟨kb, ko, kc, rfl, hkc1, hkc2, hkc⟩ := hv.at (by rw [← hn]; exact HNL.out.1)
  have hkb : kb < w.heap.size := by
    have := hkc 0 (by rw [← hn]; exact HNL.out.1)
    exact World.block_lt_of_cell? w _ this
  have HKB := hid hkb
  have HKC := hid hkc
  have HV := hid hv
  rw [← hn]
  have zn : ((n : Int) == 0) = false := by simp; omega
  have zn2 : ¬ (20 : Int) < (n : Int) := by omega
  obtain ⟨W, hW⟩ : ∃ W, W = w.alloc (.cells #[.int .u32 (tag : Int), .slice none 0 0] 45 (0, 0)) := ⟨_, rfl⟩
  have HL0 := hid (show ∃ vs, RowV W w.heap.size 45 [.int .u32 (tag : Int), vs] ∧ OwnK W w.heap.size 47 3 vs 0 (kCells (l.take 0)) ∧ Below w.heap.size w W from ⟨.slice none 0 0, by rw [hW]; exact RowV.new w _ _, OwnK.nil _ _ _ _, by rw [hW]; exact (Below.refl _ _).alloc (Nat.le_refl _) _⟩)
  have HE := hid hW
  clear hlaid htg htl hv hn q0 hkb hkc hkc1 hkc2 hW
  go_enter Tryd.func4, Tryd.ntmps4
  go_wp2_with fail
  rw [← HE.out]
  clear zn zn2
  go_loopw [6, 7] (fun y6 y7 wr => ∃ i : Nat, i ≤ n ∧ y6 = .bool (initK (l.take i)) ∧ y7 = .int .i64 (i : Int) ∧ Hid (∃ vs, RowV wr w.heap.size 45 [.int .u32 (tag : Int), vs] ∧ OwnK wr w.heap.size 47 3 vs i (kCells (l.take i)) ∧ Below w.heap.size w wr)) (fun _ y7 _ => n - (intOf y7).toNat)
  case atStart => exact ⟨0, Nat.zero_le _, rfl, rfl, HL0⟩
  case round =>
    clear HL0
    obtain ⟨i, hi, hy6, rfl, HL⟩ := hrel
    by_cases hlt : i < n
    · obtain ⟨vs, hp, hok, hg⟩ := HL.out
      have hlt2 : i < l.length := by rw [← HN.out]; exact hlt
      obtain ⟨kk, hkk⟩ : ∃ k, k = l[i] := ⟨_, rfl⟩
      have HTK := hid (show l.take (i + 1) = l.take i ++ [kk] by rw [hkk, List.take_add_one, List.getElem?_eq_getElem hlt2]; rfl)
      have HP := hid hp
      have HOK := hid hok
      have HG := hid hg
      have HI := hid (show i < 20 by have := HNL.out; omega)
      have HKI := hid (show wr.cell? ⟨kb, ko + i, none⟩ = some (.int .u8 (kk.toNat : Int)) by rw [hkk]; rw [hg.cell HKB.out]; exact HKC.out i hlt2)
      have i0 : (0 : Int) ≤ (i : Int) := by omega
      have i1 : (i : Int) < (n : Int) := by omega
      have i2 : ((i : Int)).toNat = i := by omega
      have I012 := hid (And.intro i0 (And.intro i1 i2))
      have hwi : IntKind.i64.wrap ((i : Int) + 1) = ((i + 1 : Nat) : Int) := by have := HI.out; rw [IntKind.wrap_i64]; omega
      obtain ⟨ib, hib⟩ : ∃ b, b = initK (l.take i) := ⟨_, rfl⟩
      rw [← hib] at hy6
      subst hy6
      have HIB := hid hib
      have HLT := hid hlt
      clear hlt hlt2 hkk hp hok hg HL hi hib
      obtain ⟨wq, hwq⟩ : ∃ y, y = wr := ⟨_, rfl⟩
      subst hwq
      go_upto_region 8 with fail
      go_cut [] from 29 to 38 (fun wx => Hid (∃ vs, RowV wx w.heap.size 45 [.int .u32 (tag : Int), vs] ∧ OwnK wx w.heap.size 47 3 vs (i + 1) (kCells (l.take (i + 1))) ∧ Below w.heap.size w wx))
      case first =>
        obtain ⟨px, cx, rfl⟩ : ∃ p c, vs = Value.slice p i c := by
          obtain ⟨-, ⟨e, e2⟩ | ⟨gg, m, sp, -, e, -⟩⟩ := HOK.out
          · exact ⟨_, _, by rw [e, e2]⟩
          · exact ⟨_, _, e⟩
        have HSZ := hid (show w.heap.size ≤ wq.heap.size from HG.out.size)
        have HP1 := hid (HP.out.at 1 (by simp))
        simp only [List.getElem_cons_succ, List.getElem_cons_zero] at HP1
        have HONE := hid (show ∀ u ∈ ([.int .u8 (kk.toNat : Int), .int .u8 0, .slice none 0 0] : List Value), u.oneCell' = true from fun u hu => by
          simp only [List.mem_cons, List.not_mem_nil, or_false] at hu
          rcases hu with rfl | rfl | rfl <;> rfl)
        have HLL := hid (HOK.out.1)
        have HLN := hid (show (i + 1) * 32 ≤ 140737488355328 by have := HI.out; omega)
        have HLN2 := hid (show i + 1 ≤ 140737488355328 by have := HI.out; omega)
        have hcase : (∃ rb mm sp, px = some ⟨rb, 0, none⟩ ∧ cx = i + mm ∧ 1 ≤ mm ∧ w.heap.size ≤ rb ∧ List.length sp = mm * 3 ∧ RowV wq rb 47 ((kCells (l.take i)) ++ sp) ∧ i + mm ≤ maxLen) ∨ (∀ g mm, (Value.slice px i cx) = .slice (some ⟨g, 0, none⟩) i (i + mm) → mm < 1) := by
          obtain ⟨h0, ⟨e, e2⟩ | ⟨g, mz, sp, h1', e, h2', hr', hm'⟩⟩ := HOK.out
          · refine .inr (fun g mm h => ?_)
            rw [e] at h
            simp at h
          · by_cases hm0 : mz = 0
            · refine .inr (fun g' mm h => ?_)
              rw [e] at h
              simp only [Value.slice.injEq] at h
              omega
            · simp only [Value.slice.injEq] at e
              exact .inl ⟨g, mz, sp, e.1, e.2.2, by omega, h1', h2', hr', hm'⟩
        rcases hcase with ⟨rb, mm, sp, rfl, rfl, hmm, hg, hsp, hrow, hmx⟩ | hnr
        · have HGB := hid hg
          have HSP := hid hsp
          have HMX := hid hmx
          have HMM := hid hmm
          have HNE := hid (show ¬ w.heap.size = rb from rowV_ne HP.out hrow (by decide))
          have HNK := hid (show ¬ kb = rb from by have := HKB.out; have := HGB.out; omega)
          have HRB := hid (show rb < wq.heap.size from hrow.lt)
          have HJ0 := hid (show jk rb (kCells (l.take i)) [.int .u8 (kk.toNat : Int), .int .u8 0, .slice none 0 0] sp 0 wq from hrow)
          clear hg hsp hmx hmm hrow
          refine wp_region_take 10 rb [8] (fun k wx => jk rb (kCells (l.take i)) [.int .u8 (kk.toNat : Int), .int .u8 0, .slice none 0 0] sp k wx) [Is (.pointer (some ⟨w.heap.size, 1, none⟩)), Is (.slice (some ⟨rb, 0, none⟩) i (i + mm)), Is (.slice (some ⟨kb, ko, none⟩) n kc), Is (.int .i64 (i : Int)), Is (.pointer (some ⟨kb, ko + i, none⟩)), Is (.int .u8 (kk.toNat : Int)), Is (.agg #[.int .u8 (kk.toNat : Int), .int .u8 0, .slice none 0 0]), OwK wq.heap.size 47 3 1 [.int .u8 (kk.toNat : Int), .int .u8 0, .slice none 0 0], Is (.slice (some ⟨rb, 0, none⟩) (i + 1) (i + mm)), Is (.pointer (some ⟨w.heap.size, 1, none⟩))] (by kernel_rfl) (by kernel_rfl) (by kernel_rfl) (by kernel_rfl) (by kernel_rfl) (by kernel_rfl) (by kernel_rfl) (HJ0.out) (jk_st _ _ _ _) ?_ ?_ ?_
          · exact ⟨Is.stab _ _, Is.stab _ _, Is.stab _ _, Is.stab _ _, Is.stab _ _, Is.stab _ _, Is.stab _ _, OwK.gb _ _ _ _ (HRB.out), Is.stab _ _, Is.stab _ _, trivial⟩
          · try (rename_i Kk hKk; clear hKk Kk)
            simp only [List.take_succ_cons, List.take_zero, AllOpsC, wrAt, Nat.reduceAdd, Nat.reduceEqDiff, Option.map_some, Option.map_none, List.map_cons, List.map_nil, depsOf, List.filterMap_cons, List.filterMap_nil, Region.binds, depFacts, guardF, reduceIte, List.getD_eq_getElem?_getD, List.getElem?_cons_succ, List.getElem?_cons_zero, Option.getD_some, factAt, and_true]
            refine ⟨?_, ?_, ?_, ?_, ?_, ?_, ?_, ?_, ?_, ?_⟩
            all_goals intro ρ wv hρ hR hd
            all_goals try simp only [Is] at hd
            · exact opOk_val (v := .pointer (some ⟨w.heap.size, 1, none⟩)) (w' := wv) (by simp [execOp, go_sem, hρ.1.const, hρ.1.func, hd, (hρ.2 5 rfl)]) ⟨rfl, GrR.refl _⟩
            · (have h0 := cell_gb hR HP1.out (HNE.out); exact opOk_val (v := .slice (some ⟨rb, 0, none⟩) i (i + mm)) (w' := wv) (by simp [execOp, go_sem, hd, h0]) ⟨rfl, GrR.refl _⟩)
            · exact opOk_move (.inl rfl) ⟨by simp only [Is]; (first | exact hρ.2 1 rfl | exact hd | exact hd.1 | exact hd.2 | simp [hd]), GrR.refl _⟩
            · exact opOk_move (.inl rfl) ⟨by simp only [Is]; (first | exact hρ.2 7 rfl | exact hd | exact hd.1 | exact hd.2 | simp [hd]), GrR.refl _⟩
            · exact opOk_val (v := .pointer (some ⟨kb, ko + i, none⟩)) (w' := wv) (by simp [execOp, go_sem, hρ.1.const, hρ.1.func, hd, I012.out.1, I012.out.2.1, I012.out.2.2]) ⟨rfl, GrR.refl _⟩
            · (have h0 := cell_gb hR HKI.out (HNK.out); exact opOk_val (v := .int .u8 (kk.toNat : Int)) (w' := wv) (by simp [execOp, go_sem, hd, h0]) ⟨rfl, GrR.refl _⟩)
            · exact opOk_val (v := .agg #[.int .u8 (kk.toNat : Int), .int .u8 0, .slice none 0 0]) (w' := wv) (by simp [execOp, go_sem, hρ.1.const, hρ.1.func, hd]) ⟨rfl, GrR.refl _⟩
            · exact opOk_val (v := .slice (some ⟨wv.heap.size, 0, none⟩) 1 1) (w' := wv.alloc (.cells #[.int .u8 (kk.toNat : Int), .int .u8 0, .slice none 0 0] 47 (0, 0))) (by simp [execOp, go_sem, hρ.1.const, hd]) ⟨own_new wv _ 47 3 [.int .u8 (kk.toNat : Int), .int .u8 0, .slice none 0 0] hR.size rfl, (Below.refl _ _).alloc (Nat.le_refl _) _⟩
            · (first | refine ⟨rfl, fun hJ => ?_⟩ | refine ⟨trivial, fun hJ => ?_⟩ | intro hJ); (have h9 : OwK wq.heap.size 47 3 1 [.int .u8 (kk.toNat : Int), .int .u8 0, .slice none 0 0] (ρ (.tmp 36)) wv := (by first | exact hd.2.1 | exact hd.1 | exact hd.2); exact opOk_append_room rfl w.heap.size 47 (.agg #[.int .u8 0, .int .u8 0, .slice none 0 0]) 3 32 rfl (by decide) Tryd.underlying43 infoChk rb mm i 1 (kCells (l.take i)) [.int .u8 (kk.toNat : Int), .int .u8 0, .slice none 0 0] sp (by first | exact hd.1 | exact hd.2.1 | simp [hd]) HONE.out HLL.out HSP.out HGB.out hJ HMX.out h9.rd.lax HLN.out HLN2.out (Nat.le_trans HSZ.out hR.size) (by decide) HMM.out (fun w' h1 h2 => ⟨rfl, h2, h1⟩))
            · exact opOk_val (v := .pointer (some ⟨w.heap.size, 1, none⟩)) (w' := wv) (by simp [execOp, go_sem, hρ.1.const, hρ.1.func, hd, (hρ.2 5 rfl)]) ⟨rfl, GrR.refl _⟩
          · intro vals wv hR hJ hall
            have i8 := hall 8 (by omega)
            have i9 := hall 9 (by omega)
            simp only [factAt, Is, List.getD_eq_getElem?_getD, List.getElem?_cons_succ, List.getElem?_cons_zero, Option.getD_some] at i8 i9
            clear hall
            have hrow9 : RowV wv rb 47 ((kCells (l.take i)) ++ [.int .u8 (kk.toNat : Int), .int .u8 0, .slice none 0 0] ++ sp.drop 3) := hJ
            simp only [List.take_succ_cons, List.take_zero, List.drop_succ_cons, List.drop_zero, fillFrom, Act.put, i8, i9, List.setIfInBounds_toArray, List.set_cons_zero, List.set_cons_succ, Nat.zero_add, Nat.reduceAdd]
            obtain ⟨x1, x2, hx12⟩ : ∃ x1 x2, Value.slice x1 (i + 1) x2 = Value.slice (some ⟨rb, 0, none⟩) (i + 1) (i + mm) := ⟨_, _, rfl⟩
            have HKV := hid (show OwnK wv w.heap.size 47 3 (.slice x1 (i + 1) x2) (i + 1) ((kCells (l.take i)) ++ [.int .u8 (kk.toNat : Int), .int .u8 0, .slice none 0 0]) from ⟨by rw [List.length_append, HLL.out]; show i * 3 + 3 = _; omega, .inr ⟨rb, mm - 1, sp.drop 3, HGB.out, by rw [hx12, show i + 1 + (mm - 1) = i + mm by have := HMM.out; omega], by rw [List.length_drop, HSP.out]; omega, hrow9, by have := HMM.out; have := HMX.out; omega⟩⟩)
            have HRV := hid (HP.out.grown hR (fun e => HNE.out (by simp at e; exact e.symm)))
            have HG8 := hid (show Below w.heap.size w wv from HG.out.trans ((Chg.of_grown hR).below HG.out.size (fun k e => by simp at e; rw [← e]; exact HGB.out)))
            rw [← hx12]
            clear hx12 hR hrow9 i8 i9
            obtain ⟨wx, hwx⟩ : ∃ x, x = wv := ⟨_, rfl⟩
            subst hwx
            have y0 := HRV.out.at 1 (by simp)
            simp only [List.getElem_cons_succ, List.getElem_cons_zero] at y0
            have y1 := HRV.out.frozen 1
            go_wp2_with fail
            go_meet
            have hc9 := (Chg.refl (fun k => k = w.heap.size) wx).set ⟨w.heap.size, 1, none⟩ (.slice x1 (i + 1) x2) (.inl rfl)
            refine hid ⟨.slice x1 (i + 1) x2, HRV.out.store 1 (.slice x1 (i + 1) x2), ?_, HG8.out.trans (hc9.below HG8.out.size (fun k e => Nat.le_of_eq e.symm))⟩
            rw [HTK.out, kCells_snoc]
            exact HKV.out.chg hc9 (fun k hk e => by
              obtain ⟨l', hl'⟩ := HKV.out.rowV k hk
              exact rowV_ne HRV.out hl' (by decide) e.symm)
        · have HNR := hid hnr
          clear hnr
          refine wp_region_tail 10 [Is (.pointer (some ⟨w.heap.size, 1, none⟩)), Is (.slice px i cx), Is (.slice (some ⟨kb, ko, none⟩) n kc), Is (.int .i64 (i : Int)), Is (.pointer (some ⟨kb, ko + i, none⟩)), Is (.int .u8 (kk.toNat : Int)), Is (.agg #[.int .u8 (kk.toNat : Int), .int .u8 0, .slice none 0 0]), OwK wq.heap.size 47 3 1 [.int .u8 (kk.toNat : Int), .int .u8 0, .slice none 0 0], OwK wq.heap.size 47 3 (i + 1) ((kCells (l.take i)) ++ [.int .u8 (kk.toNat : Int), .int .u8 0, .slice none 0 0]), Is (.pointer (some ⟨w.heap.size, 1, none⟩))] (by kernel_rfl) (by kernel_rfl) (by kernel_rfl) (by kernel_rfl) (by kernel_rfl) (by kernel_rfl) ?_ ?_ ?_
          · simp only [StabAll, Is.gr, RdF.gr, OwnF.gr, AnyF.gr, OwK.gr, and_self]
          · try (rename_i Kk hKk; clear hKk Kk)
            simp only [List.take_succ_cons, List.take_zero, AllOps, List.map_cons, List.map_nil, depsOf, List.filterMap_cons, List.filterMap_nil, Region.binds, depFacts, guardF, reduceIte, List.getD_eq_getElem?_getD, List.getElem?_cons_succ, List.getElem?_cons_zero, Option.getD_some, factAt, and_true]
            refine ⟨?_, ?_, ?_, ?_, ?_, ?_, ?_, ?_, ?_, ?_⟩
            all_goals intro ρ wv hρ hR hd
            all_goals try simp only [Is] at hd
            · exact opOk_val (v := .pointer (some ⟨w.heap.size, 1, none⟩)) (w' := wv) (by simp [execOp, go_sem, hρ.1.const, hρ.1.func, hd, (hρ.2 5 rfl)]) ⟨rfl, GrR.refl _⟩
            · (have h0 := cell?_of_below hR HP1.out; exact opOk_val (v := .slice px i cx) (w' := wv) (by simp [execOp, go_sem, hd, h0]) ⟨rfl, GrR.refl _⟩)
            · exact opOk_move (.inl rfl) ⟨by simp only [Is]; (first | exact hρ.2 1 rfl | exact hd | exact hd.1 | exact hd.2 | simp [hd]), GrR.refl _⟩
            · exact opOk_move (.inl rfl) ⟨by simp only [Is]; (first | exact hρ.2 7 rfl | exact hd | exact hd.1 | exact hd.2 | simp [hd]), GrR.refl _⟩
            · exact opOk_val (v := .pointer (some ⟨kb, ko + i, none⟩)) (w' := wv) (by simp [execOp, go_sem, hρ.1.const, hρ.1.func, hd, I012.out.1, I012.out.2.1, I012.out.2.2]) ⟨rfl, GrR.refl _⟩
            · (have h0 := cell?_of_below hR HKI.out; exact opOk_val (v := .int .u8 (kk.toNat : Int)) (w' := wv) (by simp [execOp, go_sem, hd, h0]) ⟨rfl, GrR.refl _⟩)
            · exact opOk_val (v := .agg #[.int .u8 (kk.toNat : Int), .int .u8 0, .slice none 0 0]) (w' := wv) (by simp [execOp, go_sem, hρ.1.const, hρ.1.func, hd]) ⟨rfl, GrR.refl _⟩
            · exact opOk_val (v := .slice (some ⟨wv.heap.size, 0, none⟩) 1 1) (w' := wv.alloc (.cells #[.int .u8 (kk.toNat : Int), .int .u8 0, .slice none 0 0] 47 (0, 0))) (by simp [execOp, go_sem, hρ.1.const, hd]) ⟨own_new wv _ 47 3 [.int .u8 (kk.toNat : Int), .int .u8 0, .slice none 0 0] hR.size rfl, (Below.refl _ _).alloc (Nat.le_refl _) _⟩
            · (have h9 : OwK wq.heap.size 47 3 1 [.int .u8 (kk.toNat : Int), .int .u8 0, .slice none 0 0] (ρ (.tmp 36)) wv := (by first | exact hd.2.1 | exact hd.1 | exact hd.2); exact opOk_append_new rfl w.heap.size 47 (.agg #[.int .u8 0, .int .u8 0, .slice none 0 0]) 3 32 rfl (by decide) Tryd.underlying43 infoChk (.slice px i cx) (by first | exact hd.1 | exact hd.2.1 | simp [hd]) i 1 (kCells (l.take i)) [.int .u8 (kk.toNat : Int), .int .u8 0, .slice none 0 0] HONE.out (HOK.out.mono hR) h9.rd.lax HLN.out HLN2.out (Nat.le_trans HSZ.out hR.size) (by decide) HNR.out (fun v' w' h1 h2 => ⟨h1.base hR.size, h2⟩))
            · exact opOk_val (v := .pointer (some ⟨w.heap.size, 1, none⟩)) (w' := wv) (by simp [execOp, go_sem, hρ.1.const, hρ.1.func, hd, (hρ.2 5 rfl)]) ⟨rfl, GrR.refl _⟩
          · intro vals wv hR hall
            have i8 := hall 8 (by omega)
            have i9 := hall 9 (by omega)
            simp only [factAt, Is, OwK, List.getD_eq_getElem?_getD, List.getElem?_cons_succ, List.getElem?_cons_zero, Option.getD_some] at i8 i9
            clear hall
            obtain ⟨v9, hv9⟩ : ∃ v, vals 8 = v := ⟨_, rfl⟩
            rw [hv9] at i8
            simp only [List.take_succ_cons, List.take_zero, List.drop_succ_cons, List.drop_zero, fillFrom, Act.put, hv9, i9, List.setIfInBounds_toArray, List.set_cons_zero, List.set_cons_succ, Nat.zero_add, Nat.reduceAdd]
            obtain ⟨x1, x2, rfl⟩ : ∃ x1 x2, v9 = Value.slice x1 (i + 1) x2 := by
              obtain ⟨-, ⟨e, e2⟩ | ⟨gg, m, sp, -, e, -⟩⟩ := i8
              · omega
              · exact ⟨_, _, e⟩
            have HKV := hid (OwnK.base i8 HSZ.out)
            have HRV := hid (HP.out.mono hR)
            have HG8 := hid (gr_trans HG.out hR)
            clear hR i8 i9 hv9
            obtain ⟨wx, hwx⟩ : ∃ x, x = wv := ⟨_, rfl⟩
            subst hwx
            have y0 := HRV.out.at 1 (by simp)
            simp only [List.getElem_cons_succ, List.getElem_cons_zero] at y0
            have y1 := HRV.out.frozen 1
            go_wp2_with fail
            go_meet
            have hc9 := (Chg.refl (fun k => k = w.heap.size) wx).set ⟨w.heap.size, 1, none⟩ (.slice x1 (i + 1) x2) (.inl rfl)
            refine hid ⟨.slice x1 (i + 1) x2, HRV.out.store 1 (.slice x1 (i + 1) x2), ?_, HG8.out.trans (hc9.below HG8.out.size (fun k e => Nat.le_of_eq e.symm))⟩
            rw [HTK.out, kCells_snoc]
            exact HKV.out.chg hc9 (fun k hk e => by
              obtain ⟨l', hl'⟩ := HKV.out.rowV k hk
              exact rowV_ne HRV.out hl' (by decide) e.symm)
      obtain ⟨vs2, hp, hok, hg⟩ := hcut.out
      have hki : wc.cell? ⟨kb, ko + i, none⟩ = some (.int .u8 (kk.toNat : Int)) := by rw [hg.cell HKB.out, ← HG.out.cell HKB.out]; exact HKI.out
      have HL := hid (show ∃ vs, RowV wc w.heap.size 45 [.int .u32 (tag : Int), vs] ∧ OwnK wc w.heap.size 47 3 vs (i + 1) (kCells (l.take (i + 1))) ∧ Below w.heap.size w wc from ⟨vs2, hp, hok, hg⟩)
      clear hp hok hg hcut HP HOK HG
      cases ib with
      | true =>
        go_wp2_with fail
        have hn2 := HLT.out
        go_roundw
        case rel => exact ⟨i + 1, by omega, by rw [HTK.out, initK_snoc, ← HIB.out]; rfl, by go_num, HL⟩
        case measure => simp [intOf]; omega
      | false =>
        obtain ⟨kb1, hkb1⟩ : ∃ b, b = decide (kk = 1) := ⟨_, rfl⟩
        have hz : ((kk.toNat : Int) == 1) = kb1 := by rw [hkb1]; exact kind_eq kk 1 1 rfl
        have HKB1 := hid hkb1
        clear hkb1
        go_wp2_with fail
        have hn2 := HLT.out
        go_roundw
        case rel => exact ⟨i + 1, by omega, by rw [HTK.out, initK_snoc, ← HIB.out, ← HKB1.out]; rfl, by go_num, HL⟩
        case measure => simp [intOf]; omega
    · have hin : n = i := by omega
      subst hin
      obtain ⟨vs, hp, hok, hg⟩ := HL.out
      have htk : l.take n = l := by rw [HN.out]; exact List.take_length
      rw [htk] at hok hy6
      obtain ⟨it, hit⟩ : ∃ b, b = initK l := ⟨_, rfl⟩
      rw [← hit] at hy6
      subst hy6
      have HIT := hid hit
      have HP := hid hp
      have HOK := hid hok
      have HG := hid hg
      have HLNE := hid (show l ≠ [] from fun e => by have := HN.out; rw [e] at this; have := HNL.out; simp at *; omega)
      have hok2 := hok
      clear hp hok hg HL hi hlt htk hit
      rw [HN.out] at hok2
      obtain ⟨w3, hw3⟩ : ∃ y, y = wr := ⟨_, rfl⟩
      subst hw3
      have kx := Lib.run_convert_bytes_const (P := Tryd.prog) w3 25 5 #[.int .u8 97] 1 1 Tryd.underlying25 Tryd.underlying5
      have ky := Lib.run_convert_bytes_const (P := Tryd.prog) (w3.alloc (.cells #[.int .u8 97] 5 (1, 2))) 25 5 #[.int .u8 98] 1 1 Tryd.underlying25 Tryd.underlying5
      have hs0 : (w3.alloc (.cells #[.int .u8 97] 5 (1, 2))).heap.size = w3.heap.size + 1 := by simp
      rw [hs0] at ky
      simp only [List.size_toArray, List.length_cons, List.length_nil, Nat.zero_add] at kx ky
      obtain ⟨W1, hW1⟩ : ∃ W1, W1 = w3.alloc (.cells #[.int .u8 97] 5 (1, 2)) := ⟨_, rfl⟩
      have hs1 : W1.heap.size = w3.heap.size + 1 := by rw [hW1]; simp
      obtain ⟨W4, hW2⟩ : ∃ W2, W2 = W1.alloc (.cells #[.int .u8 98] 5 (1, 2)) := ⟨_, rfl⟩
      have HE2 := hid (show W4 = (w3.alloc (.cells #[.int .u8 97] 5 (1, 2))).alloc (.cells #[.int .u8 98] 5 (1, 2)) by rw [hW2, hW1])
      have g1 : Below w3.heap.size w3 W1 := by rw [hW1]; exact (Below.refl _ _).alloc (Nat.le_refl _) _
      have g2 : Below W1.heap.size W1 W4 := by rw [hW2]; exact (Below.refl _ _).alloc (Nat.le_refl _) _
      have HG12 := hid (gr_trans g1 g2)
      have HK1 := hid (show Rd W4 (.slice (some ⟨w3.heap.size, 0, none⟩) 1 1) kA from Rd.mono (by rw [hW1]; exact rd_newF w3 5 [97] 1 _ (1, 2) rfl rfl (by unfold maxLen; omega)) g2)
      have HK2 := hid (show Rd W4 (.slice (some ⟨w3.heap.size + 1, 0, none⟩) 1 1) kB by rw [hW2, ← hs1]; exact rd_newF W1 5 [98] 1 _ (1, 2) rfl rfl (by unfold maxLen; omega))
      clear hW1 hW2 g1 g2 hs0 hs1
      have HG4 := hid (gr_trans HG.out HG12.out)
      have HPP := hid (HP.out.mono HG12.out)
      have HP := hid (HP.out.mono HG12.out)
      have HPK := hid (show ∀ wx, Below W4.heap.size W4 wx → PkAt wx (.agg #[.int .u32 (tag : Int), vs]) tag (l.map kChk) from fun wx hx => ⟨vs, rfl, kChunks ((hok2.mono HG12.out).mono hx)⟩)
      have HL4 := hid (HLAID.out.mono HG4.out)
      obtain ⟨x, hxp, hx⟩ := pairK_ex 1
      have HX := hid hx
      have HXP := hid hxp
      clear hok2 hx hxp HOK HG HG12
      go_wp2_with fail
      rw [← HE2.out]
      refine (pair_any 0 kA kB _ _ W4 HK1.out HK2.out ⟨by decide, by decide⟩ ⟨by decide, by decide⟩ W4.heap.size (Nat.le_refl _)).mono ?_
      rintro e w5 ⟨t, ga, gb, rfl, hm, hb3⟩
      obtain ⟨vra, hvra⟩ : ∃ v, v = Value.slice none 0 0 := ⟨_, rfl⟩
      obtain ⟨vrb, hvrb⟩ : ∃ v, v = Value.slice none 0 0 := ⟨_, rfl⟩
      have HM := hid (show Two W4.heap.size w5 t ga gb vra vrb (pairD x.p kA kB) from by rw [hvra, hvrb, HXP.out]; exact hm)
      have HGX := hid hb3
      have HP := hid (HP.out.mono hb3)
      have HTC := hid (show takesB (pairD x.p kA kB).a tag (l.map kChk) = false from takes_closed x.p 40 kA tag l HLNE.out)
      clear hm hb3 kx ky hvra hvrb HK1 HK2 HE2
      have c0 := HM.out.two.at 0 (by simp [TwoD.cells])
      have c1 := HM.out.two.at 1 (by simp [TwoD.cells])
      simp only [TwoD.cells, List.getElem_cons_succ, List.getElem_cons_zero] at c0 c1
      have C0 := hid c0
      have C1 := hid c1
      go_wp2_with fail
      refine wp_region_tail 15 [Is (.pointer (some ⟨t, 0, none⟩)), Is (.bool false), Is (.bool false), Is (.pointer (some ⟨t, 0, none⟩)), Is (.pointer (some ⟨t, 0, none⟩)), Is (.pointer (some ⟨t, 0, none⟩)), Is (.pointer (some ⟨ga, 0, none⟩)), Is (.agg ([.int .u32 (tag : Int), vs]).toArray), Is (.bool false), Is (.bool false), Is (.bool false), Is (.pointer (some ⟨t, 0, none⟩)), Is (.pointer (some ⟨t, 0, none⟩)), Is (.pointer (some ⟨t, 1, none⟩)), Is (.pointer (some ⟨gb, 0, none⟩))] (by kernel_rfl) (by kernel_rfl) (by kernel_rfl) (by kernel_rfl) (by kernel_rfl) (by kernel_rfl) ?_ ?_ ?_
      · simp only [StabAll, Is.gr, RdF.gr, OwnF.gr, AnyF.gr, and_self]
      · try (rename_i Kk hKk; clear hKk Kk)
        simp only [List.take_succ_cons, List.take_zero, AllOps, List.map_cons, List.map_nil, depsOf, List.filterMap_cons, List.filterMap_nil, Region.binds, depFacts, guardF, reduceIte, List.getD_eq_getElem?_getD, List.getElem?_cons_succ, List.getElem?_cons_zero, Option.getD_some, factAt, and_true]
        refine ⟨?_, ?_, ?_, ?_, ?_, ?_, ?_, ?_, ?_, ?_, ?_, ?_, ?_, ?_, ?_⟩
        all_goals intro ρ wv hρ hR hd
        all_goals try simp only [Is] at hd
        · exact opOk_move (.inl rfl) ⟨by simp only [Is]; (first | exact hρ.2 8 rfl | exact hd | exact hd.1 | exact hd.2 | simp [hd]), GrR.refl _⟩
        · exact opOk_val (v := .bool false) (w' := wv) (by simp [execOp, go_sem, hρ.1.const, hρ.1.func, hd]) ⟨rfl, GrR.refl _⟩
        · exact opOk_move (.inl rfl) ⟨by simp only [Is]; (first | exact hρ.2 53 rfl | exact hd | exact hd.1 | exact hd.2 | simp [hd]), GrR.refl _⟩
        · refine ⟨fun _ => ?_, fun hg => absurd (by simp [hd]) hg⟩; exact opOk_move (.inl rfl) ⟨by simp only [Is]; (first | exact hρ.2 8 rfl | exact hd | exact hd.1 | exact hd.2 | simp [hd]), GrR.refl _⟩
        · refine ⟨fun _ => ?_, fun hg => absurd (by simp [hd]) hg⟩; exact opOk_val (v := .pointer (some ⟨t, 0, none⟩)) (w' := wv) (by simp [execOp, go_sem, hρ.1.const, hρ.1.func, hd]) ⟨rfl, GrR.refl _⟩
        · refine ⟨fun _ => ?_, fun hg => absurd (by simp [hd]) hg⟩; exact opOk_val (v := .pointer (some ⟨t, 0, none⟩)) (w' := wv) (by simp [execOp, go_sem, hρ.1.const, hρ.1.func, hd]) ⟨rfl, GrR.refl _⟩
        · refine ⟨fun _ => ?_, fun hg => absurd (by simp [hd]) hg⟩; (have h0 := cell?_of_below hR C0.out; exact opOk_val (v := .pointer (some ⟨ga, 0, none⟩)) (w' := wv) (by simp [execOp, go_sem, hd, h0]) ⟨rfl, GrR.refl _⟩)
        · refine ⟨fun _ => ?_, fun hg => absurd (by simp [hd]) hg⟩; exact opOk_loadRow rfl (w.heap.size) (by first | exact hρ.2 _ rfl | simp [hd]) _ ([.int .u32 (tag : Int), vs]) _ ((HP.out.mono hR)) Tryd.underlying45 rfl (by kernel_rfl) ⟨rfl, GrR.refl _⟩
        · refine ⟨fun _ => ?_, fun hg => absurd (by simp [hd]) hg⟩; exact opOk_call hρ.1 rfl rfl Tryd.func15 (by kernel_rfl) rfl (by simp [hd, hρ.1.const, hρ.1.func]) ((takes_any W4.heap.size wv ga vra ((pairD x.p kA kB).a) (AsAt.mono HM.out.pa hR) (by show (0 : Nat) < 256; omega) tag (l.map kChk) (.agg #[.int .u32 (tag : Int), vs]) (HPK.out wv (HGX.out.trans (hR.mono HGX.out.size)))).mono fun e w' ⟨h1, h2⟩ => ⟨_, h1, by rw [HTC.out]; rfl, h2⟩)
        · exact opOk_val (v := .bool false) (w' := wv) (by simp [execOp, go_sem, hρ.1.const, hρ.1.func, hd]) ⟨rfl, GrR.refl _⟩
        · exact opOk_move (.inl rfl) ⟨by simp only [Is]; (first | exact hρ.2 61 rfl | exact hd | exact hd.1 | exact hd.2 | simp [hd]), GrR.refl _⟩
        · refine ⟨fun _ => ?_, fun hg => absurd (by simp [hd]) hg⟩; exact opOk_move (.inl rfl) ⟨by simp only [Is]; (first | exact hρ.2 8 rfl | exact hd | exact hd.1 | exact hd.2 | simp [hd]), GrR.refl _⟩
        · refine ⟨fun _ => ?_, fun hg => absurd (by simp [hd]) hg⟩; exact opOk_val (v := .pointer (some ⟨t, 0, none⟩)) (w' := wv) (by simp [execOp, go_sem, hρ.1.const, hρ.1.func, hd]) ⟨rfl, GrR.refl _⟩
        · refine ⟨fun _ => ?_, fun hg => absurd (by simp [hd]) hg⟩; exact opOk_val (v := .pointer (some ⟨t, 1, none⟩)) (w' := wv) (by simp [execOp, go_sem, hρ.1.const, hρ.1.func, hd]) ⟨rfl, GrR.refl _⟩
        · refine ⟨fun _ => ?_, fun hg => absurd (by simp [hd]) hg⟩; (have h0 := cell?_of_below hR C1.out; exact opOk_val (v := .pointer (some ⟨gb, 0, none⟩)) (w' := wv) (by simp [execOp, go_sem, hd, h0]) ⟨rfl, GrR.refl _⟩)
      · intro vals wv hR hall
        have i10 := hall 10 (by omega)
        have i14 := hall 14 (by omega)
        simp only [factAt, Is, List.getD_eq_getElem?_getD, List.getElem?_cons_succ, List.getElem?_cons_zero, Option.getD_some] at i10 i14
        clear hall
        simp only [List.take_succ_cons, List.take_zero, List.drop_succ_cons, List.drop_zero, fillFrom, Act.put, i10, i14, List.setIfInBounds_toArray, List.set_cons_zero, List.set_cons_succ, Nat.zero_add, Nat.reduceAdd]
        obtain ⟨w6, hw6⟩ : ∃ y, y = wv := ⟨_, rfl⟩
        subst hw6
        have HM := hid (HM.out.mono hR)
        have HGX := hid (HGX.out.trans (hR.mono HGX.out.size))
        have HP := hid (HP.out.mono hR)
        clear hR i10 i14 c0 c1 C0 C1 HTC
        have c0 := HM.out.two.at 0 (by simp [TwoD.cells])
        have c1 := HM.out.two.at 1 (by simp [TwoD.cells])
        simp only [TwoD.cells, List.getElem_cons_succ, List.getElem_cons_zero] at c0 c1
        go_wp2_with fail
        refine (open_any W4.heap.size _ gb vrb (pairD x.p kA kB).b HM.out.pb 0 (by omega) false 2 20 (by omega) (by exact Nat.zero_le _)).mono ?_
        rintro e w7 ⟨rfl, hd⟩
        rw [show (pairD x.p kA kB).b = newD x.p 40 kB from rfl, open_b] at hd
        rw [show (pairD x.p kA kB).b = newD x.p 40 kB from rfl, open_b]
        obtain ⟨vrb, hm, hc⟩ := MidAt.didB HM.out (by decide) (by decide) (by decide) (by decide) (by decide) hd
        have HGX := hid (HGX.out.trans (hc.below HGX.out.size HM.out.pb.ge))
        have HM := hid (show Two W4.heap.size w7 t ga gb vra vrb ({ pairD x.p kA kB with b := bS0 x }) from hm)
        clear hm hc hd c0 c1
        have c0 := HM.out.two.at 0 (by simp [TwoD.cells])
        have c1 := HM.out.two.at 1 (by simp [TwoD.cells])
        simp only [TwoD.cells, List.getElem_cons_succ, List.getElem_cons_zero] at c0 c1
        have C0 := hid c0
        have C1 := hid c1
        have HP := hid (show RowV w7 w.heap.size 45 [.int .u32 (tag : Int), vs] from HPP.out.mono HGX.out)
        obtain ⟨k0, hk0⟩ : ∃ k, k = l[0]'(by rw [← HN.out]; exact HNL.out.1) := ⟨_, rfl⟩
        obtain ⟨ec, hec⟩ : ∃ b, b = echoK l := ⟨_, rfl⟩
        obtain ⟨ek, hek⟩ : ∃ b, b = decide (k0 = 10) := ⟨_, rfl⟩
        have HEC := hid hec
        have hz10 : ((k0.toNat : Int) == 10) = ek := by rw [hek]; exact kind_eq k0 10 10 rfl
        have HEK := hid (show ec = (ek && !it) by
          rw [hec, hek, HIT.out]
          unfold echoK
          have : l.head? = some k0 := by
            rw [hk0]
            cases l with
            | nil => exact absurd rfl HLNE.out
            | cons a l => rfl
          rw [this]
          simp)
        have HG7 := hid (gr_trans HG4.out HGX.out)
        have ck0 : w7.cell? ⟨kb, ko, none⟩ = some (.int .u8 (k0.toNat : Int)) := by rw [hk0, HG7.out.cell HKB.out]; exact HKC.out 0 (by rw [← HN.out]; exact HNL.out.1)
        have n0 : (0 : Int) < (n : Int) := by have := HNL.out; omega
        clear hec hek hk0
        go_upto_region 13 with fail
        go_cut [9] from 70 to 77 (fun s9 wx => s9 = .bool ec ∧ wx = w7)
        case first =>
          cases ek with
          | false =>
            go_wp2_with fail
            go_meet
            exact ⟨by rw [HEK.out]; simp, rfl⟩
          | true =>
            cases it with
            | false =>
              go_wp2_with fail
              go_meet
              exact ⟨by rw [HEK.out]; rfl, rfl⟩
            | true =>
              go_wp2_with fail
              go_meet
              exact ⟨by rw [HEK.out]; rfl, rfl⟩
        obtain ⟨rfl, hw7⟩ := hcut
        rw [hw7]
        clear hw7 wc ck0 hz10 HEK n0
        go_upto_region 14 with fail
        go_cut [92] from 78 to 92 (fun s wx => s = .bool false ∧ Hid (Below w7.heap.size w7 wx))
        case first =>
          cases it with
          | true =>
            have hec : ec = false := by rw [HEC.out]; unfold echoK; rw [← HIT.out]; simp
            subst hec
            by_cases qz : tag = 0
            · have HZ := hid (show ((tag : Int) == 0) = true by simp; omega)
              have HZD := hid (show decide (tag = 0) = true from decide_eq_true qz)
              clear qz
              have HTK := hid (show takesB (bS0 x) tag (l.map kChk) = true by rw [takes_listen x tag l HLNE.out, ← HIT.out, ← HEC.out, HZD.out]; rfl)
              refine wp_region_gr [Is (.pointer (some ⟨t, 0, none⟩)), Is (.pointer (some ⟨t, 0, none⟩)), Is (.pointer (some ⟨t, 1, none⟩)), Is (.pointer (some ⟨gb, 0, none⟩)), Is (.agg ([.int .u32 (tag : Int), vs]).toArray), Is (.bool true), Is (.bool true), Is (.bool true), Is (.int .u32 (tag : Int)), Is (.bool true), Is (.bool true), Is (.bool true), AnyF, Is (.bool true), Is (.bool false)] (by kernel_rfl) (by kernel_rfl) (by kernel_rfl) ?_ ?_ ?_
              · simp only [StabAll, Is.gr, RdF.gr, OwnF.gr, AnyF.gr, and_self]
              · try (rename_i Kk hKk; clear hKk Kk)
                simp only [AllOps, List.map_cons, List.map_nil, depsOf, List.filterMap_cons, List.filterMap_nil, Region.binds, depFacts, guardF, reduceIte, List.getD_eq_getElem?_getD, List.getElem?_cons_succ, List.getElem?_cons_zero, Option.getD_some, factAt, and_true]
                refine ⟨?_, ?_, ?_, ?_, ?_, ?_, ?_, ?_, ?_, ?_, ?_, ?_, ?_, ?_, ?_⟩
                all_goals intro ρ wv hρ hR hd
                all_goals try simp only [Is] at hd
                · exact opOk_move (.inl rfl) ⟨by simp only [Is]; (first | exact hρ.2 8 rfl | exact hd | exact hd.1 | exact hd.2 | simp [hd]), GrR.refl _⟩
                · exact opOk_val (v := .pointer (some ⟨t, 0, none⟩)) (w' := wv) (by simp [execOp, go_sem, hρ.1.const, hρ.1.func, hd]) ⟨rfl, GrR.refl _⟩
                · exact opOk_val (v := .pointer (some ⟨t, 1, none⟩)) (w' := wv) (by simp [execOp, go_sem, hρ.1.const, hρ.1.func, hd]) ⟨rfl, GrR.refl _⟩
                · (have h0 := cell?_of_below hR C1.out; exact opOk_val (v := .pointer (some ⟨gb, 0, none⟩)) (w' := wv) (by simp [execOp, go_sem, hd, h0]) ⟨rfl, GrR.refl _⟩)
                · exact opOk_loadRow rfl (w.heap.size) (by first | exact hρ.2 _ rfl | simp [hd]) _ ([.int .u32 (tag : Int), vs]) _ ((HP.out.mono hR)) Tryd.underlying45 rfl (by kernel_rfl) ⟨rfl, GrR.refl _⟩
                · exact opOk_call hρ.1 rfl rfl Tryd.func15 (by kernel_rfl) rfl (by simp [hd, hρ.1.const, hρ.1.func]) ((takes_any W4.heap.size wv gb vrb (bS0 x) (AsAt.mono HM.out.pb hR) (by show (1 : Nat) < 256; omega) tag (l.map kChk) (.agg #[.int .u32 (tag : Int), vs]) (HPK.out wv (HGX.out.trans (hR.mono HGX.out.size)))).mono fun e w' ⟨h1, h2⟩ => ⟨_, h1, by rw [HTK.out]; rfl, h2⟩)
                · exact opOk_move (.inl rfl) ⟨by simp only [Is]; (first | exact hρ.2 6 rfl | exact hd | exact hd.1 | exact hd.2 | simp [hd]), GrR.refl _⟩
                · exact opOk_move (.inl rfl) ⟨by simp only [Is]; (first | exact hρ.2 84 rfl | exact hd | exact hd.1 | exact hd.2 | simp [hd]), GrR.refl _⟩
                · refine ⟨fun _ => ?_, fun hg => absurd (by simp [hd]) hg⟩; exact opOk_move (.inl rfl) ⟨by simp only [Is]; (first | exact hρ.2 0 rfl | exact hd | exact hd.1 | exact hd.2 | simp [hd]), GrR.refl _⟩
                · refine ⟨fun _ => ?_, fun hg => absurd (by simp [hd]) hg⟩; exact opOk_val (v := .bool true) (w' := wv) (by simp [execOp, go_sem, hρ.1.const, hρ.1.func, hd, HZ.out]) ⟨rfl, GrR.refl _⟩
                · exact opOk_val (v := .bool true) (w' := wv) (by simp [execOp, go_sem, hρ.1.const, hρ.1.func, hd]) ⟨rfl, GrR.refl _⟩
                · exact opOk_move (.inl rfl) ⟨by simp only [Is]; (first | exact hρ.2 88 rfl | exact hd | exact hd.1 | exact hd.2 | simp [hd]), GrR.refl _⟩
                · exact ⟨fun hg => absurd hg (by simp [hd]), fun _ => trivial⟩
                · exact opOk_val (v := .bool true) (w' := wv) (by simp [execOp, go_sem, hρ.1.const, hρ.1.func, hd]) ⟨rfl, GrR.refl _⟩
                · exact opOk_val (v := .bool false) (w' := wv) (by simp [execOp, go_sem, hρ.1.const, hρ.1.func, hd]) ⟨rfl, GrR.refl _⟩
              · intro vals wv hR hall
                have i14 := hall 14 (by simp)
                simp only [factAt, Is, List.getD_eq_getElem?_getD, List.getElem?_cons_succ, List.getElem?_cons_zero, Option.getD_some] at i14
                clear hall
                simp only [fillFrom, Act.put, i14, List.setIfInBounds_toArray, List.set_cons_zero, List.set_cons_succ]
                go_wp2_with fail
                go_meet
                exact ⟨rfl, hid hR⟩
            · have HZ := hid (show ((tag : Int) == 0) = false by simp; omega)
              have HZD := hid (show decide (tag = 0) = false from decide_eq_false qz)
              clear qz
              have HTK := hid (show takesB (bS0 x) tag (l.map kChk) = false by rw [takes_listen x tag l HLNE.out, ← HIT.out, ← HEC.out, HZD.out]; rfl)
              refine wp_region_gr [Is (.pointer (some ⟨t, 0, none⟩)), Is (.pointer (some ⟨t, 0, none⟩)), Is (.pointer (some ⟨t, 1, none⟩)), Is (.pointer (some ⟨gb, 0, none⟩)), Is (.agg ([.int .u32 (tag : Int), vs]).toArray), Is (.bool false), Is (.bool true), Is (.bool true), Is (.int .u32 (tag : Int)), Is (.bool false), Is (.bool false), Is (.bool false), Is (.bool false), Is (.bool false), Is (.bool false)] (by kernel_rfl) (by kernel_rfl) (by kernel_rfl) ?_ ?_ ?_
              · simp only [StabAll, Is.gr, RdF.gr, OwnF.gr, AnyF.gr, and_self]
              · try (rename_i Kk hKk; clear hKk Kk)
                simp only [AllOps, List.map_cons, List.map_nil, depsOf, List.filterMap_cons, List.filterMap_nil, Region.binds, depFacts, guardF, reduceIte, List.getD_eq_getElem?_getD, List.getElem?_cons_succ, List.getElem?_cons_zero, Option.getD_some, factAt, and_true]
                refine ⟨?_, ?_, ?_, ?_, ?_, ?_, ?_, ?_, ?_, ?_, ?_, ?_, ?_, ?_, ?_⟩
                all_goals intro ρ wv hρ hR hd
                all_goals try simp only [Is] at hd
                · exact opOk_move (.inl rfl) ⟨by simp only [Is]; (first | exact hρ.2 8 rfl | exact hd | exact hd.1 | exact hd.2 | simp [hd]), GrR.refl _⟩
                · exact opOk_val (v := .pointer (some ⟨t, 0, none⟩)) (w' := wv) (by simp [execOp, go_sem, hρ.1.const, hρ.1.func, hd]) ⟨rfl, GrR.refl _⟩
                · exact opOk_val (v := .pointer (some ⟨t, 1, none⟩)) (w' := wv) (by simp [execOp, go_sem, hρ.1.const, hρ.1.func, hd]) ⟨rfl, GrR.refl _⟩
                · (have h0 := cell?_of_below hR C1.out; exact opOk_val (v := .pointer (some ⟨gb, 0, none⟩)) (w' := wv) (by simp [execOp, go_sem, hd, h0]) ⟨rfl, GrR.refl _⟩)
                · exact opOk_loadRow rfl (w.heap.size) (by first | exact hρ.2 _ rfl | simp [hd]) _ ([.int .u32 (tag : Int), vs]) _ ((HP.out.mono hR)) Tryd.underlying45 rfl (by kernel_rfl) ⟨rfl, GrR.refl _⟩
                · exact opOk_call hρ.1 rfl rfl Tryd.func15 (by kernel_rfl) rfl (by simp [hd, hρ.1.const, hρ.1.func]) ((takes_any W4.heap.size wv gb vrb (bS0 x) (AsAt.mono HM.out.pb hR) (by show (1 : Nat) < 256; omega) tag (l.map kChk) (.agg #[.int .u32 (tag : Int), vs]) (HPK.out wv (HGX.out.trans (hR.mono HGX.out.size)))).mono fun e w' ⟨h1, h2⟩ => ⟨_, h1, by rw [HTK.out]; rfl, h2⟩)
                · exact opOk_move (.inl rfl) ⟨by simp only [Is]; (first | exact hρ.2 6 rfl | exact hd | exact hd.1 | exact hd.2 | simp [hd]), GrR.refl _⟩
                · exact opOk_move (.inl rfl) ⟨by simp only [Is]; (first | exact hρ.2 84 rfl | exact hd | exact hd.1 | exact hd.2 | simp [hd]), GrR.refl _⟩
                · refine ⟨fun _ => ?_, fun hg => absurd (by simp [hd]) hg⟩; exact opOk_move (.inl rfl) ⟨by simp only [Is]; (first | exact hρ.2 0 rfl | exact hd | exact hd.1 | exact hd.2 | simp [hd]), GrR.refl _⟩
                · refine ⟨fun _ => ?_, fun hg => absurd (by simp [hd]) hg⟩; exact opOk_val (v := .bool false) (w' := wv) (by simp [execOp, go_sem, hρ.1.const, hρ.1.func, hd, HZ.out]) ⟨rfl, GrR.refl _⟩
                · exact opOk_val (v := .bool false) (w' := wv) (by simp [execOp, go_sem, hρ.1.const, hρ.1.func, hd]) ⟨rfl, GrR.refl _⟩
                · exact opOk_move (.inl rfl) ⟨by simp only [Is]; (first | exact hρ.2 88 rfl | exact hd | exact hd.1 | exact hd.2 | simp [hd]), GrR.refl _⟩
                · refine ⟨fun _ => ?_, fun hg => absurd (by simp [hd]) hg⟩; exact opOk_move (.inl rfl) ⟨by simp only [Is]; (first | exact hρ.2 9 rfl | exact hd | exact hd.1 | exact hd.2 | simp [hd]), GrR.refl _⟩
                · exact opOk_val (v := .bool false) (w' := wv) (by simp [execOp, go_sem, hρ.1.const, hρ.1.func, hd]) ⟨rfl, GrR.refl _⟩
                · exact opOk_val (v := .bool false) (w' := wv) (by simp [execOp, go_sem, hρ.1.const, hρ.1.func, hd]) ⟨rfl, GrR.refl _⟩
              · intro vals wv hR hall
                have i14 := hall 14 (by simp)
                simp only [factAt, Is, List.getD_eq_getElem?_getD, List.getElem?_cons_succ, List.getElem?_cons_zero, Option.getD_some] at i14
                clear hall
                simp only [fillFrom, Act.put, i14, List.setIfInBounds_toArray, List.set_cons_zero, List.set_cons_succ]
                go_wp2_with fail
                go_meet
                exact ⟨rfl, hid hR⟩
          | false =>
            cases ec with
            | true =>
              have HTK := hid (show takesB (bS0 x) tag (l.map kChk) = true by rw [takes_listen x tag l HLNE.out, ← HIT.out, ← HEC.out]; rfl)
              refine wp_region_gr [Is (.pointer (some ⟨t, 0, none⟩)), Is (.pointer (some ⟨t, 0, none⟩)), Is (.pointer (some ⟨t, 1, none⟩)), Is (.pointer (some ⟨gb, 0, none⟩)), Is (.agg ([.int .u32 (tag : Int), vs]).toArray), Is (.bool true), Is (.bool false), Is (.bool false), AnyF, AnyF, Is (.bool false), Is (.bool false), Is (.bool true), Is (.bool true), Is (.bool false)] (by kernel_rfl) (by kernel_rfl) (by kernel_rfl) ?_ ?_ ?_
              · simp only [StabAll, Is.gr, RdF.gr, OwnF.gr, AnyF.gr, and_self]
              · try (rename_i Kk hKk; clear hKk Kk)
                simp only [AllOps, List.map_cons, List.map_nil, depsOf, List.filterMap_cons, List.filterMap_nil, Region.binds, depFacts, guardF, reduceIte, List.getD_eq_getElem?_getD, List.getElem?_cons_succ, List.getElem?_cons_zero, Option.getD_some, factAt, and_true]
                refine ⟨?_, ?_, ?_, ?_, ?_, ?_, ?_, ?_, ?_, ?_, ?_, ?_, ?_, ?_, ?_⟩
                all_goals intro ρ wv hρ hR hd
                all_goals try simp only [Is] at hd
                · exact opOk_move (.inl rfl) ⟨by simp only [Is]; (first | exact hρ.2 8 rfl | exact hd | exact hd.1 | exact hd.2 | simp [hd]), GrR.refl _⟩
                · exact opOk_val (v := .pointer (some ⟨t, 0, none⟩)) (w' := wv) (by simp [execOp, go_sem, hρ.1.const, hρ.1.func, hd]) ⟨rfl, GrR.refl _⟩
                · exact opOk_val (v := .pointer (some ⟨t, 1, none⟩)) (w' := wv) (by simp [execOp, go_sem, hρ.1.const, hρ.1.func, hd]) ⟨rfl, GrR.refl _⟩
                · (have h0 := cell?_of_below hR C1.out; exact opOk_val (v := .pointer (some ⟨gb, 0, none⟩)) (w' := wv) (by simp [execOp, go_sem, hd, h0]) ⟨rfl, GrR.refl _⟩)
                · exact opOk_loadRow rfl (w.heap.size) (by first | exact hρ.2 _ rfl | simp [hd]) _ ([.int .u32 (tag : Int), vs]) _ ((HP.out.mono hR)) Tryd.underlying45 rfl (by kernel_rfl) ⟨rfl, GrR.refl _⟩
                · exact opOk_call hρ.1 rfl rfl Tryd.func15 (by kernel_rfl) rfl (by simp [hd, hρ.1.const, hρ.1.func]) ((takes_any W4.heap.size wv gb vrb (bS0 x) (AsAt.mono HM.out.pb hR) (by show (1 : Nat) < 256; omega) tag (l.map kChk) (.agg #[.int .u32 (tag : Int), vs]) (HPK.out wv (HGX.out.trans (hR.mono HGX.out.size)))).mono fun e w' ⟨h1, h2⟩ => ⟨_, h1, by rw [HTK.out]; rfl, h2⟩)
                · exact opOk_move (.inl rfl) ⟨by simp only [Is]; (first | exact hρ.2 6 rfl | exact hd | exact hd.1 | exact hd.2 | simp [hd]), GrR.refl _⟩
                · exact opOk_move (.inl rfl) ⟨by simp only [Is]; (first | exact hρ.2 84 rfl | exact hd | exact hd.1 | exact hd.2 | simp [hd]), GrR.refl _⟩
                · exact ⟨fun hg => absurd hg (by simp [hd]), fun _ => trivial⟩
                · exact ⟨fun hg => absurd hg (by simp [hd]), fun _ => trivial⟩
                · exact opOk_val (v := .bool false) (w' := wv) (by simp [execOp, go_sem, hρ.1.const, hρ.1.func, hd]) ⟨rfl, GrR.refl _⟩
                · exact opOk_move (.inl rfl) ⟨by simp only [Is]; (first | exact hρ.2 88 rfl | exact hd | exact hd.1 | exact hd.2 | simp [hd]), GrR.refl _⟩
                · refine ⟨fun _ => ?_, fun hg => absurd (by simp [hd]) hg⟩; exact opOk_move (.inl rfl) ⟨by simp only [Is]; (first | exact hρ.2 9 rfl | exact hd | exact hd.1 | exact hd.2 | simp [hd]), GrR.refl _⟩
                · exact opOk_val (v := .bool true) (w' := wv) (by simp [execOp, go_sem, hρ.1.const, hρ.1.func, hd]) ⟨rfl, GrR.refl _⟩
                · exact opOk_val (v := .bool false) (w' := wv) (by simp [execOp, go_sem, hρ.1.const, hρ.1.func, hd]) ⟨rfl, GrR.refl _⟩
              · intro vals wv hR hall
                have i14 := hall 14 (by simp)
                simp only [factAt, Is, List.getD_eq_getElem?_getD, List.getElem?_cons_succ, List.getElem?_cons_zero, Option.getD_some] at i14
                clear hall
                simp only [fillFrom, Act.put, i14, List.setIfInBounds_toArray, List.set_cons_zero, List.set_cons_succ]
                go_wp2_with fail
                go_meet
                exact ⟨rfl, hid hR⟩
            | false =>
              have HTK := hid (show takesB (bS0 x) tag (l.map kChk) = false by rw [takes_listen x tag l HLNE.out, ← HIT.out, ← HEC.out]; rfl)
              refine wp_region_gr [Is (.pointer (some ⟨t, 0, none⟩)), Is (.pointer (some ⟨t, 0, none⟩)), Is (.pointer (some ⟨t, 1, none⟩)), Is (.pointer (some ⟨gb, 0, none⟩)), Is (.agg ([.int .u32 (tag : Int), vs]).toArray), Is (.bool false), Is (.bool false), Is (.bool false), AnyF, AnyF, Is (.bool false), Is (.bool false), Is (.bool false), Is (.bool false), Is (.bool false)] (by kernel_rfl) (by kernel_rfl) (by kernel_rfl) ?_ ?_ ?_
              · simp only [StabAll, Is.gr, RdF.gr, OwnF.gr, AnyF.gr, and_self]
              · try (rename_i Kk hKk; clear hKk Kk)
                simp only [AllOps, List.map_cons, List.map_nil, depsOf, List.filterMap_cons, List.filterMap_nil, Region.binds, depFacts, guardF, reduceIte, List.getD_eq_getElem?_getD, List.getElem?_cons_succ, List.getElem?_cons_zero, Option.getD_some, factAt, and_true]
                refine ⟨?_, ?_, ?_, ?_, ?_, ?_, ?_, ?_, ?_, ?_, ?_, ?_, ?_, ?_, ?_⟩
                all_goals intro ρ wv hρ hR hd
                all_goals try simp only [Is] at hd
                · exact opOk_move (.inl rfl) ⟨by simp only [Is]; (first | exact hρ.2 8 rfl | exact hd | exact hd.1 | exact hd.2 | simp [hd]), GrR.refl _⟩
                · exact opOk_val (v := .pointer (some ⟨t, 0, none⟩)) (w' := wv) (by simp [execOp, go_sem, hρ.1.const, hρ.1.func, hd]) ⟨rfl, GrR.refl _⟩
                · exact opOk_val (v := .pointer (some ⟨t, 1, none⟩)) (w' := wv) (by simp [execOp, go_sem, hρ.1.const, hρ.1.func, hd]) ⟨rfl, GrR.refl _⟩
                · (have h0 := cell?_of_below hR C1.out; exact opOk_val (v := .pointer (some ⟨gb, 0, none⟩)) (w' := wv) (by simp [execOp, go_sem, hd, h0]) ⟨rfl, GrR.refl _⟩)
                · exact opOk_loadRow rfl (w.heap.size) (by first | exact hρ.2 _ rfl | simp [hd]) _ ([.int .u32 (tag : Int), vs]) _ ((HP.out.mono hR)) Tryd.underlying45 rfl (by kernel_rfl) ⟨rfl, GrR.refl _⟩
                · exact opOk_call hρ.1 rfl rfl Tryd.func15 (by kernel_rfl) rfl (by simp [hd, hρ.1.const, hρ.1.func]) ((takes_any W4.heap.size wv gb vrb (bS0 x) (AsAt.mono HM.out.pb hR) (by show (1 : Nat) < 256; omega) tag (l.map kChk) (.agg #[.int .u32 (tag : Int), vs]) (HPK.out wv (HGX.out.trans (hR.mono HGX.out.size)))).mono fun e w' ⟨h1, h2⟩ => ⟨_, h1, by rw [HTK.out]; rfl, h2⟩)
                · exact opOk_move (.inl rfl) ⟨by simp only [Is]; (first | exact hρ.2 6 rfl | exact hd | exact hd.1 | exact hd.2 | simp [hd]), GrR.refl _⟩
                · exact opOk_move (.inl rfl) ⟨by simp only [Is]; (first | exact hρ.2 84 rfl | exact hd | exact hd.1 | exact hd.2 | simp [hd]), GrR.refl _⟩
                · exact ⟨fun hg => absurd hg (by simp [hd]), fun _ => trivial⟩
                · exact ⟨fun hg => absurd hg (by simp [hd]), fun _ => trivial⟩
                · exact opOk_val (v := .bool false) (w' := wv) (by simp [execOp, go_sem, hρ.1.const, hρ.1.func, hd]) ⟨rfl, GrR.refl _⟩
                · exact opOk_move (.inl rfl) ⟨by simp only [Is]; (first | exact hρ.2 88 rfl | exact hd | exact hd.1 | exact hd.2 | simp [hd]), GrR.refl _⟩
                · refine ⟨fun _ => ?_, fun hg => absurd (by simp [hd]) hg⟩; exact opOk_move (.inl rfl) ⟨by simp only [Is]; (first | exact hρ.2 9 rfl | exact hd | exact hd.1 | exact hd.2 | simp [hd]), GrR.refl _⟩
                · exact opOk_val (v := .bool false) (w' := wv) (by simp [execOp, go_sem, hρ.1.const, hρ.1.func, hd]) ⟨rfl, GrR.refl _⟩
                · exact opOk_val (v := .bool false) (w' := wv) (by simp [execOp, go_sem, hρ.1.const, hρ.1.func, hd]) ⟨rfl, GrR.refl _⟩
              · intro vals wv hR hall
                have i14 := hall 14 (by simp)
                simp only [factAt, Is, List.getD_eq_getElem?_getD, List.getElem?_cons_succ, List.getElem?_cons_zero, Option.getD_some] at i14
                clear hall
                simp only [fillFrom, Act.put, i14, List.setIfInBounds_toArray, List.set_cons_zero, List.set_cons_succ]
                go_wp2_with fail
                go_meet
                exact ⟨rfl, hid hR⟩
        obtain ⟨rfl, hb8⟩ := hcut
        obtain ⟨w8, hw8⟩ : ∃ y, y = wc := ⟨_, rfl⟩
        subst hw8
        have HM := hid (HM.out.mono hb8.out)
        have HGX := hid (HGX.out.trans (hb8.out.mono HGX.out.size))
        clear hb8 c0 c1 C0 C1 HP HG7
        have c0 := HM.out.two.at 0 (by simp [TwoD.cells])
        have c1 := HM.out.two.at 1 (by simp [TwoD.cells])
        simp only [TwoD.cells, List.getElem_cons_succ, List.getElem_cons_zero] at c0 c1
        go_wp2_with fail
        refine (open_any W4.heap.size _ ga vra (pairD x.p kA kB).a HM.out.pa 0 (by omega) true 1 10 (by omega) (by exact Nat.zero_le _)).mono ?_
        rintro e w9 ⟨rfl, hd⟩
        rw [show (pairD x.p kA kB).a = newD x.p 40 kA from rfl, open_a] at hd
        rw [show (pairD x.p kA kB).a = newD x.p 40 kA from rfl, open_a]
        obtain ⟨vra, hm, hc⟩ := MidAt.didA HM.out (by decide) (by decide) (by decide) (by decide) (by decide) hd
        have HGX := hid (HGX.out.trans (hc.below HGX.out.size HM.out.pa.ge))
        have HM := hid (show Two W4.heap.size w9 t ga gb vra vrb (T0 x) from hm)
        clear hm hc hd c0 c1
        have c0 := HM.out.two.at 0 (by simp [TwoD.cells])
        have c1 := HM.out.two.at 1 (by simp [TwoD.cells])
        simp only [TwoD.cells, List.getElem_cons_succ, List.getElem_cons_zero] at c0 c1
        go_wp2_with fail
        refine (runs_any W4 HL4.out _ HGX.out t ga gb vra vrb (T0 x) (TM x) HM.out 0 (by omega) 40 (by omega) (meet x HX.out)).mono ?_
        rintro e w10 ⟨rfl, va7, vb7, hm, hg⟩
        have HGX := hid hg
        have HM := hid hm
        clear hg hm c0 c1
        have c0 := HM.out.two.at 0 (by simp [TwoD.cells])
        have c1 := HM.out.two.at 1 (by simp [TwoD.cells])
        simp only [TwoD.cells, List.getElem_cons_succ, List.getElem_cons_zero] at c0 c1
        go_wp2_with fail
        refine (met_yes W4.heap.size _ t ga gb va7 vb7 (TM x) HM.out (meet_met x HX.out)).mono ?_
        rintro e w11 ⟨rfl, hb⟩
        have HGX := hid (HGX.out.trans (hb.mono HGX.out.size))
        have HM := hid (HM.out.mono hb)
        clear hb c0 c1
        have c0 := HM.out.two.at 0 (by simp [TwoD.cells])
        have c1 := HM.out.two.at 1 (by simp [TwoD.cells])
        simp only [TwoD.cells, List.getElem_cons_succ, List.getElem_cons_zero] at c0 c1
        go_wp2_with fail
        refine (tags_any W4.heap.size _ ga va7 (aM x) HM.out.pa).mono ?_
        rintro e w12 ⟨rfl, n12, rfl⟩
        rw [show (aM x).tag = 1 from rfl]
        obtain ⟨w12, hw12⟩ : ∃ y, y = w11.drewN n12 := ⟨_, rfl⟩
        have hb : Below w11.heap.size w11 w12 := by rw [hw12]; exact ⟨rfl, rfl, rfl, Nat.le_refl _, fun _ _ => rfl⟩
        rw [← hw12]
        have HGX := hid (HGX.out.trans (hb.mono HGX.out.size))
        have HM := hid (HM.out.mono hb)
        clear hb c0 c1 hw12
        have c0 := HM.out.two.at 0 (by simp [TwoD.cells])
        have c1 := HM.out.two.at 1 (by simp [TwoD.cells])
        simp only [TwoD.cells, List.getElem_cons_succ, List.getElem_cons_zero] at c0 c1
        have C0 := hid c0
        have C1 := hid c1
        have HP := hid (show RowV w12 w.heap.size 45 [.int .u32 (tag : Int), vs] from HPP.out.mono HGX.out)
        go_wp2_with fail
        cases it with
        | true =>
          have hec : ec = false := by rw [HEC.out]; unfold echoK; rw [← HIT.out]; simp
          subst hec
          have HTM := hid (show takesB (aM x) tag (l.map kChk) = false by rw [takes_met x tag l HLNE.out, ← HIT.out, ← HEC.out]; rfl)
          refine wp_region_gr [Is (.pointer (some ⟨t, 0, none⟩)), Is (.pointer (some ⟨t, 0, none⟩)), Is (.pointer (some ⟨t, 0, none⟩)), Is (.pointer (some ⟨ga, 0, none⟩)), Is (.agg ([.int .u32 (tag : Int), vs]).toArray), Is (.bool false), Is (.bool true), Is (.bool false), Is (.bool false), Is undef, Is undef, AnyF, AnyF, AnyF, Is undef, Is (.bool false), Is (.bool true), Is (.bool true), Is (.bool true), Is (.bool true), Is (.bool true)] (by kernel_rfl) (by kernel_rfl) (by kernel_rfl) ?_ ?_ ?_
          · simp only [StabAll, Is.gr, RdF.gr, OwnF.gr, AnyF.gr, and_self]
          · try (rename_i Kk hKk; clear hKk Kk)
            simp only [AllOps, List.map_cons, List.map_nil, depsOf, List.filterMap_cons, List.filterMap_nil, Region.binds, depFacts, guardF, reduceIte, List.getD_eq_getElem?_getD, List.getElem?_cons_succ, List.getElem?_cons_zero, Option.getD_some, factAt, and_true]
            refine ⟨?_, ?_, ?_, ?_, ?_, ?_, ?_, ?_, ?_, ?_, ?_, ?_, ?_, ?_, ?_, ?_, ?_, ?_, ?_, ?_, ?_⟩
            all_goals intro ρ wv hρ hR hd
            all_goals try simp only [Is] at hd
            · exact opOk_move (.inl rfl) ⟨by simp only [Is]; (first | exact hρ.2 8 rfl | exact hd | exact hd.1 | exact hd.2 | simp [hd]), GrR.refl _⟩
            · exact opOk_val (v := .pointer (some ⟨t, 0, none⟩)) (w' := wv) (by simp [execOp, go_sem, hρ.1.const, hρ.1.func, hd]) ⟨rfl, GrR.refl _⟩
            · exact opOk_val (v := .pointer (some ⟨t, 0, none⟩)) (w' := wv) (by simp [execOp, go_sem, hρ.1.const, hρ.1.func, hd]) ⟨rfl, GrR.refl _⟩
            · (have h0 := cell?_of_below hR C0.out; exact opOk_val (v := .pointer (some ⟨ga, 0, none⟩)) (w' := wv) (by simp [execOp, go_sem, hd, h0]) ⟨rfl, GrR.refl _⟩)
            · exact opOk_loadRow rfl (w.heap.size) (by first | exact hρ.2 _ rfl | simp [hd]) _ ([.int .u32 (tag : Int), vs]) _ ((HP.out.mono hR)) Tryd.underlying45 rfl (by kernel_rfl) ⟨rfl, GrR.refl _⟩
            · exact opOk_call hρ.1 rfl rfl Tryd.func15 (by kernel_rfl) rfl (by simp [hd, hρ.1.const, hρ.1.func]) ((takes_any W4.heap.size wv ga va7 (aM x) (AsAt.mono HM.out.pa hR) (by show (4 : Nat) < 256; omega) tag (l.map kChk) (.agg #[.int .u32 (tag : Int), vs]) (HPK.out wv (HGX.out.trans (hR.mono HGX.out.size)))).mono fun e w' ⟨h1, h2⟩ => ⟨_, h1, by rw [HTM.out]; rfl, h2⟩)
            · exact opOk_move (.inl rfl) ⟨by simp only [Is]; (first | exact hρ.2 6 rfl | exact hd | exact hd.1 | exact hd.2 | simp [hd]), GrR.refl _⟩
            · exact opOk_val (v := .bool false) (w' := wv) (by simp [execOp, go_sem, hρ.1.const, hρ.1.func, hd]) ⟨rfl, GrR.refl _⟩
            · exact opOk_move (.inl rfl) ⟨by simp only [Is]; (first | exact hρ.2 124 rfl | exact hd | exact hd.1 | exact hd.2 | simp [hd]), GrR.refl _⟩
            · exact ⟨fun hg => absurd hg (by simp [hd]), fun _ => rfl⟩
            · exact ⟨fun hg => absurd hg (by simp [hd]), fun _ => rfl⟩
            · exact ⟨fun hg => absurd hg (by simp [hd, undef]), fun _ => trivial⟩
            · exact ⟨fun hg => absurd hg (by simp [hd, undef]), fun _ => trivial⟩
            · exact ⟨fun hg => absurd hg (by simp [hd, undef]), fun _ => trivial⟩
            · exact ⟨fun hg => absurd hg (by simp [hd]), fun _ => rfl⟩
            · exact opOk_val (v := .bool false) (w' := wv) (by simp [execOp, go_sem, hρ.1.const, hρ.1.func, hd]) ⟨rfl, GrR.refl _⟩
            · exact opOk_val (v := .bool true) (w' := wv) (by simp [execOp, go_sem, hρ.1.const, hρ.1.func, hd]) ⟨rfl, GrR.refl _⟩
            · exact opOk_move (.inl rfl) ⟨by simp only [Is]; (first | exact hρ.2 133 rfl | exact hd | exact hd.1 | exact hd.2 | simp [hd]), GrR.refl _⟩
            · refine ⟨fun _ => ?_, fun hg => absurd (by simp [hd]) hg⟩; exact opOk_call hρ.1 rfl rfl Tryd.func14 (by kernel_rfl) rfl (by simp [hd, hρ.1.const, hρ.1.func]) ((works_any wv (HL4.out.mono (HGX.out.trans (hR.mono HGX.out.size)))).mono fun e w' ⟨h1, h2⟩ => ⟨_, h1, rfl, h2⟩)
            · exact opOk_val (v := .bool true) (w' := wv) (by simp [execOp, go_sem, hρ.1.const, hρ.1.func, hd]) ⟨rfl, GrR.refl _⟩
            · exact opOk_move (.inr rfl) ⟨by simp only [Is]; (first | exact hρ.2 136 rfl | exact hd | exact hd.1 | exact hd.2 | simp [hd]), GrR.refl _⟩
          · intro vals wv hR hall
            have i9 := hall 20 (by simp)
            simp only [factAt, Is, List.getD_eq_getElem?_getD, List.getElem?_cons_succ, List.getElem?_cons_zero, Option.getD_some] at i9
            clear hall
            simp only [fillFrom, Act.put, i9, List.setIfInBounds_toArray, List.set_cons_zero, List.set_cons_succ]
            go_wp2_with fail
            go_ret
            exact ⟨rfl, gr_trans HG4.out (HGX.out.trans (hR.mono HGX.out.size))⟩
        | false =>
          cases ec with
          | true =>
            have HTM := hid (show takesB (aM x) tag (l.map kChk) = true by rw [takes_met x tag l HLNE.out, ← HIT.out, ← HEC.out]; rfl)
            refine wp_region_gr [Is (.pointer (some ⟨t, 0, none⟩)), Is (.pointer (some ⟨t, 0, none⟩)), Is (.pointer (some ⟨t, 0, none⟩)), Is (.pointer (some ⟨ga, 0, none⟩)), Is (.agg ([.int .u32 (tag : Int), vs]).toArray), Is (.bool true), Is (.bool false), Is (.bool true), Is (.bool true), Is (.bool true), Is (.bool true), Is undef, Is undef, Is undef, Is (.bool true), Is (.bool true), Is (.bool true), Is (.bool true), Is (.bool true), Is (.bool true), Is (.bool true)] (by kernel_rfl) (by kernel_rfl) (by kernel_rfl) ?_ ?_ ?_
            · simp only [StabAll, Is.gr, RdF.gr, OwnF.gr, AnyF.gr, and_self]
            · try (rename_i Kk hKk; clear hKk Kk)
              simp only [AllOps, List.map_cons, List.map_nil, depsOf, List.filterMap_cons, List.filterMap_nil, Region.binds, depFacts, guardF, reduceIte, List.getD_eq_getElem?_getD, List.getElem?_cons_succ, List.getElem?_cons_zero, Option.getD_some, factAt, and_true]
              refine ⟨?_, ?_, ?_, ?_, ?_, ?_, ?_, ?_, ?_, ?_, ?_, ?_, ?_, ?_, ?_, ?_, ?_, ?_, ?_, ?_, ?_⟩
              all_goals intro ρ wv hρ hR hd
              all_goals try simp only [Is] at hd
              · exact opOk_move (.inl rfl) ⟨by simp only [Is]; (first | exact hρ.2 8 rfl | exact hd | exact hd.1 | exact hd.2 | simp [hd]), GrR.refl _⟩
              · exact opOk_val (v := .pointer (some ⟨t, 0, none⟩)) (w' := wv) (by simp [execOp, go_sem, hρ.1.const, hρ.1.func, hd]) ⟨rfl, GrR.refl _⟩
              · exact opOk_val (v := .pointer (some ⟨t, 0, none⟩)) (w' := wv) (by simp [execOp, go_sem, hρ.1.const, hρ.1.func, hd]) ⟨rfl, GrR.refl _⟩
              · (have h0 := cell?_of_below hR C0.out; exact opOk_val (v := .pointer (some ⟨ga, 0, none⟩)) (w' := wv) (by simp [execOp, go_sem, hd, h0]) ⟨rfl, GrR.refl _⟩)
              · exact opOk_loadRow rfl (w.heap.size) (by first | exact hρ.2 _ rfl | simp [hd]) _ ([.int .u32 (tag : Int), vs]) _ ((HP.out.mono hR)) Tryd.underlying45 rfl (by kernel_rfl) ⟨rfl, GrR.refl _⟩
              · exact opOk_call hρ.1 rfl rfl Tryd.func15 (by kernel_rfl) rfl (by simp [hd, hρ.1.const, hρ.1.func]) ((takes_any W4.heap.size wv ga va7 (aM x) (AsAt.mono HM.out.pa hR) (by show (4 : Nat) < 256; omega) tag (l.map kChk) (.agg #[.int .u32 (tag : Int), vs]) (HPK.out wv (HGX.out.trans (hR.mono HGX.out.size)))).mono fun e w' ⟨h1, h2⟩ => ⟨_, h1, by rw [HTM.out]; rfl, h2⟩)
              · exact opOk_move (.inl rfl) ⟨by simp only [Is]; (first | exact hρ.2 6 rfl | exact hd | exact hd.1 | exact hd.2 | simp [hd]), GrR.refl _⟩
              · exact opOk_val (v := .bool true) (w' := wv) (by simp [execOp, go_sem, hρ.1.const, hρ.1.func, hd]) ⟨rfl, GrR.refl _⟩
              · exact opOk_move (.inl rfl) ⟨by simp only [Is]; (first | exact hρ.2 124 rfl | exact hd | exact hd.1 | exact hd.2 | simp [hd]), GrR.refl _⟩
              · refine ⟨fun _ => ?_, fun hg => absurd (by simp [hd]) hg⟩; exact opOk_move (.inl rfl) ⟨by simp only [Is]; (first | exact hρ.2 9 rfl | exact hd | exact hd.1 | exact hd.2 | simp [hd]), GrR.refl _⟩
              · refine ⟨fun _ => ?_, fun hg => absurd (by simp [hd]) hg⟩; exact opOk_move (.inl rfl) ⟨by simp only [Is]; (first | exact hρ.2 126 rfl | exact hd | exact hd.1 | exact hd.2 | simp [hd]), GrR.refl _⟩
              · exact ⟨fun hg => absurd hg (by simp [hd]), fun _ => rfl⟩
              · exact ⟨fun hg => absurd hg (by simp [hd]), fun _ => rfl⟩
              · exact ⟨fun hg => absurd hg (by simp [hd]), fun _ => rfl⟩
              · refine ⟨fun _ => ?_, fun hg => absurd (by simp [hd]) hg⟩; exact opOk_val (v := .bool true) (w' := wv) (by simp [execOp, go_sem, hρ.1.const, hρ.1.func, hd]) ⟨rfl, GrR.refl _⟩
              · exact opOk_val (v := .bool true) (w' := wv) (by simp [execOp, go_sem, hρ.1.const, hρ.1.func, hd]) ⟨rfl, GrR.refl _⟩
              · exact opOk_val (v := .bool true) (w' := wv) (by simp [execOp, go_sem, hρ.1.const, hρ.1.func, hd]) ⟨rfl, GrR.refl _⟩
              · exact opOk_move (.inl rfl) ⟨by simp only [Is]; (first | exact hρ.2 133 rfl | exact hd | exact hd.1 | exact hd.2 | simp [hd]), GrR.refl _⟩
              · refine ⟨fun _ => ?_, fun hg => absurd (by simp [hd]) hg⟩; exact opOk_call hρ.1 rfl rfl Tryd.func14 (by kernel_rfl) rfl (by simp [hd, hρ.1.const, hρ.1.func]) ((works_any wv (HL4.out.mono (HGX.out.trans (hR.mono HGX.out.size)))).mono fun e w' ⟨h1, h2⟩ => ⟨_, h1, rfl, h2⟩)
              · exact opOk_val (v := .bool true) (w' := wv) (by simp [execOp, go_sem, hρ.1.const, hρ.1.func, hd]) ⟨rfl, GrR.refl _⟩
              · exact opOk_move (.inr rfl) ⟨by simp only [Is]; (first | exact hρ.2 136 rfl | exact hd | exact hd.1 | exact hd.2 | simp [hd]), GrR.refl _⟩
            · intro vals wv hR hall
              have i9 := hall 20 (by simp)
              simp only [factAt, Is, List.getD_eq_getElem?_getD, List.getElem?_cons_succ, List.getElem?_cons_zero, Option.getD_some] at i9
              clear hall
              simp only [fillFrom, Act.put, i9, List.setIfInBounds_toArray, List.set_cons_zero, List.set_cons_succ]
              go_wp2_with fail
              go_ret
              exact ⟨rfl, gr_trans HG4.out (HGX.out.trans (hR.mono HGX.out.size))⟩
          | false =>
            by_cases qz : tag = 1
            · have HZ := hid (show ((tag : Int) == 1) = true by simp; omega)
              have HZD := hid (show decide (tag = 1) = true from decide_eq_true qz)
              clear qz
              have HTM := hid (show takesB (aM x) tag (l.map kChk) = true by rw [takes_met x tag l HLNE.out, ← HIT.out, ← HEC.out, HZD.out]; rfl)
              refine wp_region_gr [Is (.pointer (some ⟨t, 0, none⟩)), Is (.pointer (some ⟨t, 0, none⟩)), Is (.pointer (some ⟨t, 0, none⟩)), Is (.pointer (some ⟨ga, 0, none⟩)), Is (.agg ([.int .u32 (tag : Int), vs]).toArray), Is (.bool true), Is (.bool false), Is (.bool true), Is (.bool true), Is (.bool false), Is (.bool false), Is (.int .u32 (tag : Int)), Is (.int .u32 1), Is (.bool true), Is (.bool true), Is (.bool true), Is (.bool true), Is (.bool true), Is (.bool true), Is (.bool true), Is (.bool true)] (by kernel_rfl) (by kernel_rfl) (by kernel_rfl) ?_ ?_ ?_
              · simp only [StabAll, Is.gr, RdF.gr, OwnF.gr, AnyF.gr, and_self]
              · try (rename_i Kk hKk; clear hKk Kk)
                simp only [AllOps, List.map_cons, List.map_nil, depsOf, List.filterMap_cons, List.filterMap_nil, Region.binds, depFacts, guardF, reduceIte, List.getD_eq_getElem?_getD, List.getElem?_cons_succ, List.getElem?_cons_zero, Option.getD_some, factAt, and_true]
                refine ⟨?_, ?_, ?_, ?_, ?_, ?_, ?_, ?_, ?_, ?_, ?_, ?_, ?_, ?_, ?_, ?_, ?_, ?_, ?_, ?_, ?_⟩
                all_goals intro ρ wv hρ hR hd
                all_goals try simp only [Is] at hd
                · exact opOk_move (.inl rfl) ⟨by simp only [Is]; (first | exact hρ.2 8 rfl | exact hd | exact hd.1 | exact hd.2 | simp [hd]), GrR.refl _⟩
                · exact opOk_val (v := .pointer (some ⟨t, 0, none⟩)) (w' := wv) (by simp [execOp, go_sem, hρ.1.const, hρ.1.func, hd]) ⟨rfl, GrR.refl _⟩
                · exact opOk_val (v := .pointer (some ⟨t, 0, none⟩)) (w' := wv) (by simp [execOp, go_sem, hρ.1.const, hρ.1.func, hd]) ⟨rfl, GrR.refl _⟩
                · (have h0 := cell?_of_below hR C0.out; exact opOk_val (v := .pointer (some ⟨ga, 0, none⟩)) (w' := wv) (by simp [execOp, go_sem, hd, h0]) ⟨rfl, GrR.refl _⟩)
                · exact opOk_loadRow rfl (w.heap.size) (by first | exact hρ.2 _ rfl | simp [hd]) _ ([.int .u32 (tag : Int), vs]) _ ((HP.out.mono hR)) Tryd.underlying45 rfl (by kernel_rfl) ⟨rfl, GrR.refl _⟩
                · exact opOk_call hρ.1 rfl rfl Tryd.func15 (by kernel_rfl) rfl (by simp [hd, hρ.1.const, hρ.1.func]) ((takes_any W4.heap.size wv ga va7 (aM x) (AsAt.mono HM.out.pa hR) (by show (4 : Nat) < 256; omega) tag (l.map kChk) (.agg #[.int .u32 (tag : Int), vs]) (HPK.out wv (HGX.out.trans (hR.mono HGX.out.size)))).mono fun e w' ⟨h1, h2⟩ => ⟨_, h1, by rw [HTM.out]; rfl, h2⟩)
                · exact opOk_move (.inl rfl) ⟨by simp only [Is]; (first | exact hρ.2 6 rfl | exact hd | exact hd.1 | exact hd.2 | simp [hd]), GrR.refl _⟩
                · exact opOk_val (v := .bool true) (w' := wv) (by simp [execOp, go_sem, hρ.1.const, hρ.1.func, hd]) ⟨rfl, GrR.refl _⟩
                · exact opOk_move (.inl rfl) ⟨by simp only [Is]; (first | exact hρ.2 124 rfl | exact hd | exact hd.1 | exact hd.2 | simp [hd]), GrR.refl _⟩
                · refine ⟨fun _ => ?_, fun hg => absurd (by simp [hd]) hg⟩; exact opOk_move (.inl rfl) ⟨by simp only [Is]; (first | exact hρ.2 9 rfl | exact hd | exact hd.1 | exact hd.2 | simp [hd]), GrR.refl _⟩
                · refine ⟨fun _ => ?_, fun hg => absurd (by simp [hd]) hg⟩; exact opOk_move (.inl rfl) ⟨by simp only [Is]; (first | exact hρ.2 126 rfl | exact hd | exact hd.1 | exact hd.2 | simp [hd]), GrR.refl _⟩
                · refine ⟨fun _ => ?_, fun hg => absurd (by simp [hd]) hg⟩; exact opOk_move (.inl rfl) ⟨by simp only [Is]; (first | exact hρ.2 0 rfl | exact hd | exact hd.1 | exact hd.2 | simp [hd]), GrR.refl _⟩
                · refine ⟨fun _ => ?_, fun hg => absurd (by simp [hd]) hg⟩; exact opOk_move (.inl rfl) ⟨by simp only [Is]; (first | exact hρ.2 10 rfl | exact hd | exact hd.1 | exact hd.2 | simp [hd]), GrR.refl _⟩
                · refine ⟨fun _ => ?_, fun hg => absurd (by simp [hd]) hg⟩; exact opOk_val (v := .bool true) (w' := wv) (by simp [execOp, go_sem, hρ.1.const, hρ.1.func, hd, HZ.out]) ⟨rfl, GrR.refl _⟩
                · refine ⟨fun _ => ?_, fun hg => absurd (by simp [hd]) hg⟩; exact opOk_val (v := .bool true) (w' := wv) (by simp [execOp, go_sem, hρ.1.const, hρ.1.func, hd]) ⟨rfl, GrR.refl _⟩
                · exact opOk_val (v := .bool true) (w' := wv) (by simp [execOp, go_sem, hρ.1.const, hρ.1.func, hd]) ⟨rfl, GrR.refl _⟩
                · exact opOk_val (v := .bool true) (w' := wv) (by simp [execOp, go_sem, hρ.1.const, hρ.1.func, hd]) ⟨rfl, GrR.refl _⟩
                · exact opOk_move (.inl rfl) ⟨by simp only [Is]; (first | exact hρ.2 133 rfl | exact hd | exact hd.1 | exact hd.2 | simp [hd]), GrR.refl _⟩
                · refine ⟨fun _ => ?_, fun hg => absurd (by simp [hd]) hg⟩; exact opOk_call hρ.1 rfl rfl Tryd.func14 (by kernel_rfl) rfl (by simp [hd, hρ.1.const, hρ.1.func]) ((works_any wv (HL4.out.mono (HGX.out.trans (hR.mono HGX.out.size)))).mono fun e w' ⟨h1, h2⟩ => ⟨_, h1, rfl, h2⟩)
                · exact opOk_val (v := .bool true) (w' := wv) (by simp [execOp, go_sem, hρ.1.const, hρ.1.func, hd]) ⟨rfl, GrR.refl _⟩
                · exact opOk_move (.inr rfl) ⟨by simp only [Is]; (first | exact hρ.2 136 rfl | exact hd | exact hd.1 | exact hd.2 | simp [hd]), GrR.refl _⟩
              · intro vals wv hR hall
                have i9 := hall 20 (by simp)
                simp only [factAt, Is, List.getD_eq_getElem?_getD, List.getElem?_cons_succ, List.getElem?_cons_zero, Option.getD_some] at i9
                clear hall
                simp only [fillFrom, Act.put, i9, List.setIfInBounds_toArray, List.set_cons_zero, List.set_cons_succ]
                go_wp2_with fail
                go_ret
                exact ⟨rfl, gr_trans HG4.out (HGX.out.trans (hR.mono HGX.out.size))⟩
            · have HZ := hid (show ((tag : Int) == 1) = false by simp; omega)
              have HZD := hid (show decide (tag = 1) = false from decide_eq_false qz)
              clear qz
              have HTM := hid (show takesB (aM x) tag (l.map kChk) = false by rw [takes_met x tag l HLNE.out, ← HIT.out, ← HEC.out, HZD.out]; rfl)
              refine wp_region_gr [Is (.pointer (some ⟨t, 0, none⟩)), Is (.pointer (some ⟨t, 0, none⟩)), Is (.pointer (some ⟨t, 0, none⟩)), Is (.pointer (some ⟨ga, 0, none⟩)), Is (.agg ([.int .u32 (tag : Int), vs]).toArray), Is (.bool false), Is (.bool false), Is (.bool true), Is (.bool true), Is (.bool false), Is (.bool false), Is (.int .u32 (tag : Int)), Is (.int .u32 1), Is (.bool false), Is (.bool false), Is (.bool false), Is (.bool true), Is (.bool true), Is (.bool true), Is (.bool true), Is (.bool true)] (by kernel_rfl) (by kernel_rfl) (by kernel_rfl) ?_ ?_ ?_
              · simp only [StabAll, Is.gr, RdF.gr, OwnF.gr, AnyF.gr, and_self]
              · try (rename_i Kk hKk; clear hKk Kk)
                simp only [AllOps, List.map_cons, List.map_nil, depsOf, List.filterMap_cons, List.filterMap_nil, Region.binds, depFacts, guardF, reduceIte, List.getD_eq_getElem?_getD, List.getElem?_cons_succ, List.getElem?_cons_zero, Option.getD_some, factAt, and_true]
                refine ⟨?_, ?_, ?_, ?_, ?_, ?_, ?_, ?_, ?_, ?_, ?_, ?_, ?_, ?_, ?_, ?_, ?_, ?_, ?_, ?_, ?_⟩
                all_goals intro ρ wv hρ hR hd
                all_goals try simp only [Is] at hd
                · exact opOk_move (.inl rfl) ⟨by simp only [Is]; (first | exact hρ.2 8 rfl | exact hd | exact hd.1 | exact hd.2 | simp [hd]), GrR.refl _⟩
                · exact opOk_val (v := .pointer (some ⟨t, 0, none⟩)) (w' := wv) (by simp [execOp, go_sem, hρ.1.const, hρ.1.func, hd]) ⟨rfl, GrR.refl _⟩
                · exact opOk_val (v := .pointer (some ⟨t, 0, none⟩)) (w' := wv) (by simp [execOp, go_sem, hρ.1.const, hρ.1.func, hd]) ⟨rfl, GrR.refl _⟩
                · (have h0 := cell?_of_below hR C0.out; exact opOk_val (v := .pointer (some ⟨ga, 0, none⟩)) (w' := wv) (by simp [execOp, go_sem, hd, h0]) ⟨rfl, GrR.refl _⟩)
                · exact opOk_loadRow rfl (w.heap.size) (by first | exact hρ.2 _ rfl | simp [hd]) _ ([.int .u32 (tag : Int), vs]) _ ((HP.out.mono hR)) Tryd.underlying45 rfl (by kernel_rfl) ⟨rfl, GrR.refl _⟩
                · exact opOk_call hρ.1 rfl rfl Tryd.func15 (by kernel_rfl) rfl (by simp [hd, hρ.1.const, hρ.1.func]) ((takes_any W4.heap.size wv ga va7 (aM x) (AsAt.mono HM.out.pa hR) (by show (4 : Nat) < 256; omega) tag (l.map kChk) (.agg #[.int .u32 (tag : Int), vs]) (HPK.out wv (HGX.out.trans (hR.mono HGX.out.size)))).mono fun e w' ⟨h1, h2⟩ => ⟨_, h1, by rw [HTM.out]; rfl, h2⟩)
                · exact opOk_move (.inl rfl) ⟨by simp only [Is]; (first | exact hρ.2 6 rfl | exact hd | exact hd.1 | exact hd.2 | simp [hd]), GrR.refl _⟩
                · exact opOk_val (v := .bool true) (w' := wv) (by simp [execOp, go_sem, hρ.1.const, hρ.1.func, hd]) ⟨rfl, GrR.refl _⟩
                · exact opOk_move (.inl rfl) ⟨by simp only [Is]; (first | exact hρ.2 124 rfl | exact hd | exact hd.1 | exact hd.2 | simp [hd]), GrR.refl _⟩
                · refine ⟨fun _ => ?_, fun hg => absurd (by simp [hd]) hg⟩; exact opOk_move (.inl rfl) ⟨by simp only [Is]; (first | exact hρ.2 9 rfl | exact hd | exact hd.1 | exact hd.2 | simp [hd]), GrR.refl _⟩
                · refine ⟨fun _ => ?_, fun hg => absurd (by simp [hd]) hg⟩; exact opOk_move (.inl rfl) ⟨by simp only [Is]; (first | exact hρ.2 126 rfl | exact hd | exact hd.1 | exact hd.2 | simp [hd]), GrR.refl _⟩
                · refine ⟨fun _ => ?_, fun hg => absurd (by simp [hd]) hg⟩; exact opOk_move (.inl rfl) ⟨by simp only [Is]; (first | exact hρ.2 0 rfl | exact hd | exact hd.1 | exact hd.2 | simp [hd]), GrR.refl _⟩
                · refine ⟨fun _ => ?_, fun hg => absurd (by simp [hd]) hg⟩; exact opOk_move (.inl rfl) ⟨by simp only [Is]; (first | exact hρ.2 10 rfl | exact hd | exact hd.1 | exact hd.2 | simp [hd]), GrR.refl _⟩
                · refine ⟨fun _ => ?_, fun hg => absurd (by simp [hd]) hg⟩; exact opOk_val (v := .bool false) (w' := wv) (by simp [execOp, go_sem, hρ.1.const, hρ.1.func, hd, HZ.out]) ⟨rfl, GrR.refl _⟩
                · refine ⟨fun _ => ?_, fun hg => absurd (by simp [hd]) hg⟩; exact opOk_val (v := .bool false) (w' := wv) (by simp [execOp, go_sem, hρ.1.const, hρ.1.func, hd]) ⟨rfl, GrR.refl _⟩
                · exact opOk_val (v := .bool false) (w' := wv) (by simp [execOp, go_sem, hρ.1.const, hρ.1.func, hd]) ⟨rfl, GrR.refl _⟩
                · exact opOk_val (v := .bool true) (w' := wv) (by simp [execOp, go_sem, hρ.1.const, hρ.1.func, hd]) ⟨rfl, GrR.refl _⟩
                · exact opOk_move (.inl rfl) ⟨by simp only [Is]; (first | exact hρ.2 133 rfl | exact hd | exact hd.1 | exact hd.2 | simp [hd]), GrR.refl _⟩
                · refine ⟨fun _ => ?_, fun hg => absurd (by simp [hd]) hg⟩; exact opOk_call hρ.1 rfl rfl Tryd.func14 (by kernel_rfl) rfl (by simp [hd, hρ.1.const, hρ.1.func]) ((works_any wv (HL4.out.mono (HGX.out.trans (hR.mono HGX.out.size)))).mono fun e w' ⟨h1, h2⟩ => ⟨_, h1, rfl, h2⟩)
                · exact opOk_val (v := .bool true) (w' := wv) (by simp [execOp, go_sem, hρ.1.const, hρ.1.func, hd]) ⟨rfl, GrR.refl _⟩
                · exact opOk_move (.inr rfl) ⟨by simp only [Is]; (first | exact hρ.2 136 rfl | exact hd | exact hd.1 | exact hd.2 | simp [hd]), GrR.refl _⟩
              · intro vals wv hR hall
                have i9 := hall 20 (by simp)
                simp only [factAt, Is, List.getD_eq_getElem?_getD, List.getElem?_cons_succ, List.getElem?_cons_zero, Option.getD_some] at i9
                clear hall
                simp only [fillFrom, Act.put, i9, List.setIfInBounds_toArray, List.set_cons_zero, List.set_cons_succ]
                go_wp2_with fail
                go_ret
                exact ⟨rfl, gr_trans HG4.out (HGX.out.trans (hR.mono HGX.out.size))⟩
end Go.Proofs.YtiimlanbbfhkjaaDoor

/- say: a chunk more in the row. Conditions: the association lies as it should; its row is not too long. -/
import Derived.Test.YtiimlanbbfhkjaaDoorAsSmall
import Derived.Test.YtiimlanbbfhkjaaDoorAsReg
set_option linter.unusedSimpArgs false
set_option linter.unusedVariables false



namespace Go.FL

open Go.RowKit

theorem own_ne_row {w : World} {B eB e g : Nat} {v : Value} {l : List UInt8} {m : List Value} (h : Own w B eB v l) (hr : RowV w g e m) (hne : e ≠ eB) : ∀ k, v.ownBlock = some k → ¬ k = g := by
  intro k hk e1
  subst e1
  rcases h with ⟨rfl, rfl⟩ | ⟨g', sp, h1, rfl, hr', hm⟩
  · simp [Value.ownBlock] at hk
  · simp [Value.ownBlock] at hk
    subst hk
    exact hne (rowV_fun hr (RowV.of_row hr')).1
/-- Bytes of one's own, behind what changed, and a cell of block g laid. -/
theorem keepB {S : Nat → Prop} {w wx : World} {B eB e g i : Nat} {x v : Value} {l : List UInt8} {m : List Value} (hc : Chg S w wx) (hS : NoBytes eB S w) (hr : RowV wx g e m) (hne : e ≠ eB) (h : Own w B eB v l) : Own (wx.setCell ⟨g, i, none⟩ x) B eB v l := by
  have h1 := h.chg hc (h.free hS)
  exact h1.chg ((Chg.refl (fun k => k = g) _).set ⟨g, i, none⟩ x (.inl rfl)) (own_ne_row h1 hr hne)
theorem OutsAt.setg {eO eB B e g i : Nat} {wx : World} {v x : Value} {l : List OutD} {m : List Value} (hO : e ≠ eO) (hB : e ≠ eB) (hr : RowV wx g e m) (h : OutsAt eO eB B wx v l) : OutsAt eO eB B (wx.setCell ⟨g, i, none⟩ x) v l := by
  refine h.chg ((Chg.refl (fun k => k = g) _).set ⟨g, i, none⟩ x (.inl rfl)) (fun k l' hk hl' => by subst hk; exact hB (rowV_fun hr hl').1) (fun k hk e1 => ?_)
  obtain ⟨ss, -, h2, -⟩ := h
  obtain ⟨l', hl'⟩ := h2.rowV k hk
  subst e1
  exact hO (rowV_fun hr hl').1
end Go.FL

namespace Go.Proofs.YtiimlanbbfhkjaaDoor

open Go.RowKit Go.FL Go.ChangeShapes

theorem infoOut : (Tryd.prog.info? 59).map (fun i => (i.zero, i.size, i.bytes)) = some (some (.agg #[.int .i64 0, .int .u32 0, .int .u8 0, .int .u8 0, .slice none 0 0]), 5, 48) := by kernel_rfl

abbrev jo (rb : Nat) (l m sp : List Value) : Nat → World → Prop
  | 0, w => RowV w rb 59 (l ++ sp)
  | _, w => RowV w rb 59 (l ++ m ++ sp.drop m.length)
theorem jo_st (rb : Nat) (l m sp : List Value) : ∀ k a b, jo rb l m sp k a → GrR a b → jo rb l m sp k b
  | 0, _, _, h, k => RowV.mono h k
  | _ + 1, _, _, h, k => RowV.mono h k
set_option maxRecDepth 100000 in
set_option maxHeartbeats 8000000 in
theorem say_any (B : Nat) (w : World) (g : Nat) (vr : Value) (a : AsD) (h : As B w g vr a) (path tag : Nat) (c : Chk) (s : Value) (hs : Own w B 5 s c.b) (hl : a.row.length ≤ 1000000) :
    Calls Tryd.prog 47 #[.pointer (some ⟨g, 0, none⟩), .int .i64 (path : Int), .int .u32 (tag : Int), .agg #[.int .u8 (c.k.toNat : Int), .int .u8 (c.f.toNat : Int), s]] w fun e w' => e = .returned (.tuple #[]) ∧ DidA B w g vr { a with row := a.row ++ [⟨path, tag, c⟩] } w' := by
  have HNB := hid h.noB
  obtain ⟨vk, vp, vs, hr, hB, hk, hp, ⟨ss, hsl, hok, hbd⟩, hsd⟩ := h
  obtain ⟨p9, c9, hsf, -⟩ := hs.rd
  have HS1 := hid (show s.oneCell' = true by rw [hsf]; rfl)
  have HS := hid hs
  have HB := hid hB
  have HK1 := hid hk
  have HK2 := hid hp
  have HK3 := hid hsd
  have HSL := hid hsl
  have HBD := hid hbd
  obtain ⟨n, hn⟩ : ∃ n, n = a.row.length := ⟨_, rfl⟩
  rw [← hn] at hok hl
  have HN := hid hn
  obtain ⟨px, cx, rfl⟩ : ∃ p c, vr = Value.slice p n c := by
    obtain ⟨-, ⟨e, e2⟩ | ⟨gg, m, sp, -, e, -⟩⟩ := hok
    · exact ⟨_, _, by rw [e, e2]⟩
    · exact ⟨_, _, e⟩
  obtain ⟨W, hW⟩ : ∃ W, W = w.alloc (.cells #[.int .u8 (c.k.toNat : Int), .int .u8 (c.f.toNat : Int), s] 47 (0, 0)) := ⟨_, rfl⟩
  have HCB := hid (show RowV W w.heap.size 47 [.int .u8 (c.k.toNat : Int), .int .u8 (c.f.toNat : Int), s] by rw [hW]; exact RowV.new w _ _)
  have G0 := hid (show Below w.heap.size w W by rw [hW]; exact (Below.refl _ _).alloc (Nat.le_refl _) _)
  have HAR := hid (hr.mono G0.out)
  have HOK := hid (hok.mono G0.out)
  have HSW := hid G0.out.size
  have HSZ := hid (show B ≤ W.heap.size from Nat.le_trans hB (Nat.le_trans (Nat.le_of_lt hr.lt) G0.out.size))
  have HRC := hid (HAR.out.at 26 (by simp [AsD.cells]))
  simp only [AsD.cells, List.getElem_cons_succ, List.getElem_cons_zero] at HRC
  have HONE := hid (outCell_one ⟨path, tag, c⟩ hs)
  have HLL := hid hok.1
  have HLN := hid (show (n + 1) * 48 ≤ 140737488355328 by omega)
  have HLN2 := hid (show n + 1 ≤ 140737488355328 by omega)
  have hcase : (∃ rb mm sp, px = some ⟨rb, 0, none⟩ ∧ cx = n + mm ∧ 1 ≤ mm ∧ B ≤ rb ∧ List.length sp = mm * 5 ∧ RowV W rb 59 ((outCells a.row ss) ++ sp) ∧ n + mm ≤ maxLen) ∨ (∀ g mm, (Value.slice px n cx) = .slice (some ⟨g, 0, none⟩) n (n + mm) → mm < 1) := by
    obtain ⟨h0, ⟨e, e2⟩ | ⟨g, m, sp, h1', e, h2', hr', hm'⟩⟩ := HOK.out
    · refine .inr (fun g mm h => ?_)
      rw [e] at h
      simp at h
    · by_cases hm0 : m = 0
      · refine .inr (fun g' mm h => ?_)
        rw [e] at h
        simp only [Value.slice.injEq] at h
        omega
      · simp only [Value.slice.injEq] at e
        exact .inl ⟨g, m, sp, e.1, e.2.2, by omega, h1', h2', hr', hm'⟩
  have HE := hid hW
  clear hr hB hk hp hsl hok hbd hsd hs hsf hW hn
  go_enter Tryd.func47, Tryd.ntmps47
  go_wp2_with fail
  rw [← HE.out]
  rcases hcase with ⟨rb, mm, sp, rfl, rfl, hmm, hg, hsp, hrow, hmx⟩ | hnr
  · have HGB := hid hg
    have HSP := hid hsp
    have HMX := hid hmx
    have HMM := hid hmm
    have HNE := hid (show ¬ g = rb from rowV_ne HAR.out hrow (by decide))
    have HNC := hid (show some rb ≠ some w.heap.size by intro e; simp at e; exact rowV_ne hrow HCB.out (by decide) e)
    have HRB := hid (show rb < W.heap.size from hrow.lt)
    have HJ0 := hid (show jo rb (outCells a.row ss) (outCell ⟨path, tag, c⟩ s) sp 0 W from hrow)
    clear hg hsp hmx hmm hrow
    refine wp_region_take 13 rb [10] (fun k wx => jo rb (outCells a.row ss) (outCell ⟨path, tag, c⟩ s) sp k wx) [Is (.pointer (some ⟨g, 0, none⟩)), Is (.pointer (some ⟨g, 0, none⟩)), Is (.pointer (some ⟨g, 0, none⟩)), Is (.pointer (some ⟨g, 26, none⟩)), Is (.slice (some ⟨rb, 0, none⟩) n (n + mm)), Is (.int .i64 (path : Int)), Is (.int .u32 (tag : Int)), Is (.agg ([.int .u8 (c.k.toNat : Int), .int .u8 (c.f.toNat : Int), s]).toArray), Is (.agg #[.int .i64 (path : Int), .int .u32 (tag : Int), .int .u8 (c.k.toNat : Int), .int .u8 (c.f.toNat : Int), s]), OwK W.heap.size 59 5 1 (outCell ⟨path, tag, c⟩ s), Is (.slice (some ⟨rb, 0, none⟩) (n + 1) (n + mm)), Is (.pointer (some ⟨g, 0, none⟩)), Is (.pointer (some ⟨g, 26, none⟩))] (by kernel_rfl) (by kernel_rfl) (by kernel_rfl) (by kernel_rfl) (by kernel_rfl) (by kernel_rfl) (by kernel_rfl) (HJ0.out) (jo_st _ _ _ _) ?_ ?_ ?_
    · exact ⟨Is.stab _ _, Is.stab _ _, Is.stab _ _, Is.stab _ _, Is.stab _ _, Is.stab _ _, Is.stab _ _, Is.stab _ _, Is.stab _ _, OwK.gb _ _ _ _ (HRB.out), Is.stab _ _, Is.stab _ _, Is.stab _ _, trivial⟩
    · try (rename_i Kk hKk; clear hKk Kk)
      simp only [List.take_succ_cons, List.take_zero, AllOpsC, wrAt, Nat.reduceAdd, Nat.reduceEqDiff, Option.map_some, Option.map_none, List.map_cons, List.map_nil, depsOf, List.filterMap_cons, List.filterMap_nil, Region.binds, depFacts, guardF, reduceIte, List.getD_eq_getElem?_getD, List.getElem?_cons_succ, List.getElem?_cons_zero, Option.getD_some, factAt, and_true]
      refine ⟨?_, ?_, ?_, ?_, ?_, ?_, ?_, ?_, ?_, ?_, ?_, ?_, ?_⟩
      all_goals intro ρ wv hρ hR hd
      all_goals try simp only [Is] at hd
      · exact opOk_move (.inl rfl) ⟨by simp only [Is]; (first | exact hρ.2 0 rfl | exact hd | exact hd.1 | exact hd.2 | simp [hd]), GrR.refl _⟩
      · exact opOk_move (.inl rfl) ⟨by simp only [Is]; (first | exact hρ.2 0 rfl | exact hd | exact hd.1 | exact hd.2 | simp [hd]), GrR.refl _⟩
      · exact opOk_val (v := .pointer (some ⟨g, 0, none⟩)) (w' := wv) (by simp [execOp, go_sem, hρ.1.const, hρ.1.func, hd]) ⟨rfl, GrR.refl _⟩
      · exact opOk_val (v := .pointer (some ⟨g, 26, none⟩)) (w' := wv) (by simp [execOp, go_sem, hρ.1.const, hρ.1.func, hd]) ⟨rfl, GrR.refl _⟩
      · (have h0 := cell_gb hR HRC.out (HNE.out); exact opOk_val (v := .slice (some ⟨rb, 0, none⟩) n (n + mm)) (w' := wv) (by simp [execOp, go_sem, hd, h0]) ⟨rfl, GrR.refl _⟩)
      · exact opOk_move (.inl rfl) ⟨by simp only [Is]; (first | exact hρ.2 1 rfl | exact hd | exact hd.1 | exact hd.2 | simp [hd]), GrR.refl _⟩
      · exact opOk_move (.inl rfl) ⟨by simp only [Is]; (first | exact hρ.2 2 rfl | exact hd | exact hd.1 | exact hd.2 | simp [hd]), GrR.refl _⟩
      · exact opOk_loadRow rfl (w.heap.size) (by first | exact hρ.2 _ rfl | simp [hd]) _ ([.int .u8 (c.k.toNat : Int), .int .u8 (c.f.toNat : Int), s]) _ ((HCB.out.grown hR HNC.out)) Tryd.underlying47 rfl (by kernel_rfl) ⟨rfl, GrR.refl _⟩
      · exact opOk_val (v := .agg #[.int .i64 (path : Int), .int .u32 (tag : Int), .int .u8 (c.k.toNat : Int), .int .u8 (c.f.toNat : Int), s]) (w' := wv) (by simp [execOp, go_sem, hρ.1.const, hρ.1.func, hd]) ⟨rfl, GrR.refl _⟩
      · exact opOk_val (v := .slice (some ⟨wv.heap.size, 0, none⟩) 1 1) (w' := wv.alloc (.cells #[.int .i64 (path : Int), .int .u32 (tag : Int), .int .u8 (c.k.toNat : Int), .int .u8 (c.f.toNat : Int), s] 59 (0, 0))) (by simp [execOp, go_sem, hρ.1.const, hd, HS1.out]) ⟨own_new wv _ 59 5 (outCell ⟨path, tag, c⟩ s) hR.size rfl, (Below.refl _ _).alloc (Nat.le_refl _) _⟩
      · (first | refine ⟨rfl, fun hJ => ?_⟩ | refine ⟨trivial, fun hJ => ?_⟩ | intro hJ); (have h9 : OwK W.heap.size 59 5 1 (outCell ⟨path, tag, c⟩ s) (ρ (.tmp 17)) wv := (by first | exact hd.2.1 | exact hd.1 | exact hd.2); exact opOk_append_room rfl B 59 (.agg #[.int .i64 0, .int .u32 0, .int .u8 0, .int .u8 0, .slice none 0 0]) 5 48 rfl (by decide) Tryd.underlying28 infoOut rb mm n 1 (outCells a.row ss) (outCell ⟨path, tag, c⟩ s) sp (by first | exact hd.1 | exact hd.2.1 | simp [hd]) HONE.out HLL.out HSP.out HGB.out hJ HMX.out h9.rd.lax HLN.out HLN2.out (Nat.le_trans HSZ.out hR.size) (by decide) HMM.out (fun w' h1 h2 => ⟨rfl, h2, h1⟩))
      · exact opOk_val (v := .pointer (some ⟨g, 0, none⟩)) (w' := wv) (by simp [execOp, go_sem, hρ.1.const, hρ.1.func, hd]) ⟨rfl, GrR.refl _⟩
      · exact opOk_val (v := .pointer (some ⟨g, 26, none⟩)) (w' := wv) (by simp [execOp, go_sem, hρ.1.const, hρ.1.func, hd]) ⟨rfl, GrR.refl _⟩
    · intro vals wv hR hJ hall
      have i10 := hall 10 (by omega)
      have i12 := hall 12 (by omega)
      simp only [factAt, Is, List.getD_eq_getElem?_getD, List.getElem?_cons_succ, List.getElem?_cons_zero, Option.getD_some] at i10 i12
      clear hall
      have hrow9 : RowV wv rb 59 ((outCells a.row ss) ++ (outCell ⟨path, tag, c⟩ s) ++ sp.drop 5) := hJ
      simp only [List.take_succ_cons, List.take_zero, List.drop_succ_cons, List.drop_zero, fillFrom, Act.put, i10, i12, List.setIfInBounds_toArray, List.set_cons_zero, List.set_cons_succ, Nat.zero_add, Nat.reduceAdd]
      obtain ⟨x1, x2, hx12⟩ : ∃ x1 x2, Value.slice x1 (n + 1) x2 = Value.slice (some ⟨rb, 0, none⟩) (n + 1) (n + mm) := ⟨_, _, rfl⟩
      have HKV := hid (show OwnK wv B 59 5 (.slice x1 (n + 1) x2) (n + 1) ((outCells a.row ss) ++ (outCell ⟨path, tag, c⟩ s)) from ⟨by rw [List.length_append, HLL.out]; show n * 5 + 5 = _; omega, .inr ⟨rb, mm - 1, sp.drop 5, HGB.out, by rw [hx12, show n + 1 + (mm - 1) = n + mm by have := HMM.out; omega], by rw [List.length_drop, HSP.out]; omega, hrow9, by have := HMM.out; have := HMX.out; omega⟩⟩)
      have HCH := hid (show Chg (Mine g (.slice (some ⟨rb, 0, none⟩) n (n + mm))) W wv from (Chg.of_grown hR).weak (fun i _ e => .inr (by simp at e; simp [Value.ownBlock, e])))
      have HRT := hid (show RowTo w (.slice (some ⟨rb, 0, none⟩) n (n + mm)) (.slice x1 (n + 1) x2) from fun k hk => .inl (by rw [hx12] at hk; simpa [Value.ownBlock] using hk))
      have HRV := hid (HAR.out.grown hR (fun e => HNE.out (by simp at e; exact e.symm)))
      rw [← hx12]
      clear hx12 hR hrow9 i10 i12
      obtain ⟨wx, hwx⟩ : ∃ x, x = wv := ⟨_, rfl⟩
      subst hwx
      have HCH2 := hid (show Chg (Mine g (.slice (some ⟨rb, 0, none⟩) n (n + mm))) w wx from (Chg.of_gr G0.out).then HCH.out (fun i _ h => h))
      have y0 := HRV.out.at 26 (by simp [AsD.cells])
      simp only [AsD.cells, List.getElem_cons_succ, List.getElem_cons_zero] at y0
      have y1 := HRV.out.frozen 26
      go_wp2_with fail
      go_end0
      refine ⟨rfl, _, ⟨vk, vp, vs, HRV.out.store 26 (.slice x1 (n + 1) x2), HB.out, ?_, ?_, ?_, ?_⟩, HRT.out, HCH2.out.set ⟨g, 26, none⟩ _ (.inl (.inl rfl))⟩
      · exact keepB HCH2.out HNB.out HRV.out (by decide) HK1.out
      · exact keepB HCH2.out HNB.out HRV.out (by decide) HK2.out
      · refine OutsAt.setg (by decide) (by decide) HRV.out (outsAt_mk HSL.out (by rw [← HN.out]; exact HKV.out) (fun i x y => (HBD.out i x y).chg HCH2.out ((HBD.out i x y).free HNB.out)) (HS.out.chg HCH2.out (HS.out.free HNB.out)))
      · exact keepB HCH2.out HNB.out HRV.out (by decide) HK3.out
  · have HNR := hid hnr
    clear hnr
    refine wp_region_tail 13 [Is (.pointer (some ⟨g, 0, none⟩)), Is (.pointer (some ⟨g, 0, none⟩)), Is (.pointer (some ⟨g, 0, none⟩)), Is (.pointer (some ⟨g, 26, none⟩)), Is (.slice px n cx), Is (.int .i64 (path : Int)), Is (.int .u32 (tag : Int)), Is (.agg ([.int .u8 (c.k.toNat : Int), .int .u8 (c.f.toNat : Int), s]).toArray), Is (.agg #[.int .i64 (path : Int), .int .u32 (tag : Int), .int .u8 (c.k.toNat : Int), .int .u8 (c.f.toNat : Int), s]), OwK W.heap.size 59 5 1 (outCell ⟨path, tag, c⟩ s), OwK W.heap.size 59 5 (n + 1) ((outCells a.row ss) ++ (outCell ⟨path, tag, c⟩ s)), Is (.pointer (some ⟨g, 0, none⟩)), Is (.pointer (some ⟨g, 26, none⟩))] (by kernel_rfl) (by kernel_rfl) (by kernel_rfl) (by kernel_rfl) (by kernel_rfl) (by kernel_rfl) ?_ ?_ ?_
    · simp only [StabAll, Is.gr, RdF.gr, OwnF.gr, AnyF.gr, OwK.gr, and_self]
    · try (rename_i Kk hKk; clear hKk Kk)
      simp only [List.take_succ_cons, List.take_zero, AllOps, List.map_cons, List.map_nil, depsOf, List.filterMap_cons, List.filterMap_nil, Region.binds, depFacts, guardF, reduceIte, List.getD_eq_getElem?_getD, List.getElem?_cons_succ, List.getElem?_cons_zero, Option.getD_some, factAt, and_true]
      refine ⟨?_, ?_, ?_, ?_, ?_, ?_, ?_, ?_, ?_, ?_, ?_, ?_, ?_⟩
      all_goals intro ρ wv hρ hR hd
      all_goals try simp only [Is] at hd
      · exact opOk_move (.inl rfl) ⟨by simp only [Is]; (first | exact hρ.2 0 rfl | exact hd | exact hd.1 | exact hd.2 | simp [hd]), GrR.refl _⟩
      · exact opOk_move (.inl rfl) ⟨by simp only [Is]; (first | exact hρ.2 0 rfl | exact hd | exact hd.1 | exact hd.2 | simp [hd]), GrR.refl _⟩
      · exact opOk_val (v := .pointer (some ⟨g, 0, none⟩)) (w' := wv) (by simp [execOp, go_sem, hρ.1.const, hρ.1.func, hd]) ⟨rfl, GrR.refl _⟩
      · exact opOk_val (v := .pointer (some ⟨g, 26, none⟩)) (w' := wv) (by simp [execOp, go_sem, hρ.1.const, hρ.1.func, hd]) ⟨rfl, GrR.refl _⟩
      · (have h0 := cell?_of_below hR HRC.out; exact opOk_val (v := .slice px n cx) (w' := wv) (by simp [execOp, go_sem, hd, h0]) ⟨rfl, GrR.refl _⟩)
      · exact opOk_move (.inl rfl) ⟨by simp only [Is]; (first | exact hρ.2 1 rfl | exact hd | exact hd.1 | exact hd.2 | simp [hd]), GrR.refl _⟩
      · exact opOk_move (.inl rfl) ⟨by simp only [Is]; (first | exact hρ.2 2 rfl | exact hd | exact hd.1 | exact hd.2 | simp [hd]), GrR.refl _⟩
      · exact opOk_loadRow rfl (w.heap.size) (by first | exact hρ.2 _ rfl | simp [hd]) _ ([.int .u8 (c.k.toNat : Int), .int .u8 (c.f.toNat : Int), s]) _ ((HCB.out.mono hR)) Tryd.underlying47 rfl (by kernel_rfl) ⟨rfl, GrR.refl _⟩
      · exact opOk_val (v := .agg #[.int .i64 (path : Int), .int .u32 (tag : Int), .int .u8 (c.k.toNat : Int), .int .u8 (c.f.toNat : Int), s]) (w' := wv) (by simp [execOp, go_sem, hρ.1.const, hρ.1.func, hd]) ⟨rfl, GrR.refl _⟩
      · exact opOk_val (v := .slice (some ⟨wv.heap.size, 0, none⟩) 1 1) (w' := wv.alloc (.cells #[.int .i64 (path : Int), .int .u32 (tag : Int), .int .u8 (c.k.toNat : Int), .int .u8 (c.f.toNat : Int), s] 59 (0, 0))) (by simp [execOp, go_sem, hρ.1.const, hd, HS1.out]) ⟨own_new wv _ 59 5 (outCell ⟨path, tag, c⟩ s) hR.size rfl, (Below.refl _ _).alloc (Nat.le_refl _) _⟩
      · (have h9 : OwK W.heap.size 59 5 1 (outCell ⟨path, tag, c⟩ s) (ρ (.tmp 17)) wv := (by first | exact hd.2.1 | exact hd.1 | exact hd.2); exact opOk_append_new rfl B 59 (.agg #[.int .i64 0, .int .u32 0, .int .u8 0, .int .u8 0, .slice none 0 0]) 5 48 rfl (by decide) Tryd.underlying28 infoOut (.slice px n cx) (by first | exact hd.1 | exact hd.2.1 | simp [hd]) n 1 (outCells a.row ss) (outCell ⟨path, tag, c⟩ s) HONE.out (HOK.out.mono hR) h9.rd.lax HLN.out HLN2.out (Nat.le_trans HSZ.out hR.size) (by decide) HNR.out (fun v' w' h1 h2 => ⟨h1.base hR.size, h2⟩))
      · exact opOk_val (v := .pointer (some ⟨g, 0, none⟩)) (w' := wv) (by simp [execOp, go_sem, hρ.1.const, hρ.1.func, hd]) ⟨rfl, GrR.refl _⟩
      · exact opOk_val (v := .pointer (some ⟨g, 26, none⟩)) (w' := wv) (by simp [execOp, go_sem, hρ.1.const, hρ.1.func, hd]) ⟨rfl, GrR.refl _⟩
    · intro vals wv hR hall
      have i10 := hall 10 (by omega)
      have i12 := hall 12 (by omega)
      simp only [factAt, Is, OwK, List.getD_eq_getElem?_getD, List.getElem?_cons_succ, List.getElem?_cons_zero, Option.getD_some] at i10 i12
      clear hall
      obtain ⟨v9, hv9⟩ : ∃ v, vals 10 = v := ⟨_, rfl⟩
      rw [hv9] at i10
      simp only [List.take_succ_cons, List.take_zero, List.drop_succ_cons, List.drop_zero, fillFrom, Act.put, hv9, i12, List.setIfInBounds_toArray, List.set_cons_zero, List.set_cons_succ, Nat.zero_add, Nat.reduceAdd]
      obtain ⟨x1, x2, rfl⟩ : ∃ x1 x2, v9 = Value.slice x1 (n + 1) x2 := by
        obtain ⟨-, ⟨e, e2⟩ | ⟨gg, m, sp, -, e, -⟩⟩ := i10
        · omega
        · exact ⟨_, _, e⟩
      have HKV := hid (OwnK.base i10 HSZ.out)
      have HCH := hid (show Chg (Mine g (.slice px n cx)) W wv from Chg.of_gr hR)
      have HRT := hid (show RowTo w (.slice px n cx) (.slice x1 (n + 1) x2) from fun k hk => .inr (Nat.le_trans HSW.out (OwnK.ge i10 k hk)))
      have HRV := hid (HAR.out.mono hR)
      clear hR i10 i12 hv9
      obtain ⟨wx, hwx⟩ : ∃ x, x = wv := ⟨_, rfl⟩
      subst hwx
      have HCH2 := hid (show Chg (Mine g (.slice px n cx)) w wx from (Chg.of_gr G0.out).then HCH.out (fun i _ h => h))
      have y0 := HRV.out.at 26 (by simp [AsD.cells])
      simp only [AsD.cells, List.getElem_cons_succ, List.getElem_cons_zero] at y0
      have y1 := HRV.out.frozen 26
      go_wp2_with fail
      go_end0
      refine ⟨rfl, _, ⟨vk, vp, vs, HRV.out.store 26 (.slice x1 (n + 1) x2), HB.out, ?_, ?_, ?_, ?_⟩, HRT.out, HCH2.out.set ⟨g, 26, none⟩ _ (.inl (.inl rfl))⟩
      · exact keepB HCH2.out HNB.out HRV.out (by decide) HK1.out
      · exact keepB HCH2.out HNB.out HRV.out (by decide) HK2.out
      · refine OutsAt.setg (by decide) (by decide) HRV.out (outsAt_mk HSL.out (by rw [← HN.out]; exact HKV.out) (fun i x y => (HBD.out i x y).chg HCH2.out ((HBD.out i x y).free HNB.out)) (HS.out.chg HCH2.out (HS.out.free HNB.out)))
      · exact keepB HCH2.out HNB.out HRV.out (by decide) HK3.out
end Go.Proofs.YtiimlanbbfhkjaaDoor

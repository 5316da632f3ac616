/- The document's Copy of a packet. Conditions: what comes in reads as it should, and is not huge. -/
import Derived.Test.YtahpklciafpdaaaPktRead
import Derived.Test.YtahpklciafpdaaaBaseC
set_option linter.unusedSimpArgs false
set_option linter.unusedVariables false
namespace Go.FL
open Go.RowKit
/-- A chunk by value, its body in a row of its own. -/
def CkF (B e : Nat) (c : Chk) : Value → World → Prop := fun v w => ChkOwn B e w v c
theorem CkF.gr (B e : Nat) (c : Chk) : Stab GrR (CkF B e c) := fun _ _ _ ⟨s, h1, h2⟩ k => ⟨s, h1, h2.mono k⟩
/-- A new row of one such chunk. -/
def NewCkF (B eC e : Nat) (c : Chk) : Value → World → Prop := fun v w => ∃ h s, v = .slice (some ⟨h, 0, none⟩) 1 1 ∧ B ≤ h ∧ RowV w h eC (chkCell c s) ∧ Own w B e s c.b
theorem NewCkF.gr (B eC e : Nat) (c : Chk) : Stab GrR (NewCkF B eC e c) := fun _ _ _ ⟨h, s, h1, h2, h3, h4⟩ k => ⟨h, s, h1, h2, h3.mono k, h4.mono k⟩
theorem rdK_row {w : World} {g e n K : Nat} {l : List Value} (h : RowV w g e l) (hl : l.length = n * K) (hm : n ≤ maxLen) : RdK w K (.slice (some ⟨g, 0, none⟩) n n) n l := by
  unfold RowV at h
  have : OwnK w 0 e K (.slice (some ⟨g, 0, none⟩) n n) n l := ⟨hl, .inr ⟨g, 0, [], Nat.zero_le _, rfl, by simp, by simpa using h, by simpa using hm⟩⟩
  exact this.rd
end Go.FL
namespace Go.Proofs.Ytahpklciafpdaaa
open Go.RowKit Go.FL Go.ChangeShapes

theorem copy_ret {a : Act} {W : World} {g : Nat} {R : Ending → World → Prop} (v0 v1 : Value) (h2 : a.tmps.getD 2 undef = .pointer (some ⟨g, 0, none⟩)) (hd : a.defers = [])
    (hc : RowV W g 25 [v0, v1]) (hR : R (.returned (.agg #[v0, v1])) W) : bodyPost Try.prog Try.f13 R .ret a W := by
  refine bodyPost_ret (v := .agg #[v0, v1]) ?_ hd hR
  have c0 : W.cell? ⟨g, 0, none⟩ = some v0 := hc.at 0 (by simp)
  have c1 : W.cell? ⟨g, 1, none⟩ = some v1 := hc.at 1 (by simp)
  simp only [Array.getD_eq_getD_getElem?] at h2
  simp [results, Try.results13, go_sem, h2, asAddr, c0, c1]

set_option maxRecDepth 100000 in
set_option maxHeartbeats 2000000 in
theorem rcopy_any (p : Pkt) (v : Value) (w : World) (h : PktAt w v p) (hn5 : p.cs.length ≤ 100000) (hb5 : ∀ c ∈ p.cs, c.b.length ≤ 1000000) :
    Calls Try.prog 13 #[v] w fun e w' => ∃ u, e = .returned u ∧ PktOwn w.heap.size 41 5 w' u p ∧ Below w.heap.size w w' := by
  obtain ⟨s, rfl, hcs, ht⟩ := h
  obtain ⟨tag, cs⟩ := p
  simp only at *
  obtain ⟨q, cp, rfl, hlc, hcm, hel⟩ := hcs
  have HEL := hid hel
  have HB5 := hid hb5
  unfold maxLen at hcm
  clear hel hb5
  obtain ⟨n, hn⟩ : ∃ n, n = cs.length := ⟨_, rfl⟩
  have HN := hid hn
  rw [← hn] at hlc hn5 ⊢
  clear hn
  obtain ⟨W0, hW0⟩ : ∃ W0, W0 = w.alloc (.cells #[.int .u32 (tag : Int), .slice q n cp] 25 (0, 0)) := ⟨_, rfl⟩
  have hs0 : W0.heap.size = w.heap.size + 1 := by rw [hW0]; simp
  obtain ⟨W, hW⟩ : ∃ W, W = W0.alloc (.cells #[.int .u32 0, .slice none 0 0] 25 (0, 0)) := ⟨_, rfl⟩
  have HRA := hid (show RowV W w.heap.size 25 [.int .u32 (tag : Int), .slice q n cp] by rw [hW, hW0]; exact (RowV.new w 25 _).alloc _)
  have HRB := hid (show RowV W (w.heap.size + 1) 25 [.int .u32 0, .slice none 0 0] by rw [hW, ← hs0]; exact RowV.new W0 25 _)
  have G0 := hid (show Below w.heap.size w W by rw [hW, hW0]; exact ((Below.refl _ _).alloc (Nat.le_refl _) _).alloc (by simp) _)
  have hsz : W.heap.size = w.heap.size + 2 := by rw [hW]; simp [hs0]
  rw [hW0] at hW
  have HE := hid hW
  have HSZ := hid hsz
  clear hW hW0 hs0 hsz
  go_enter Try.func13, Try.ntmps13
  go_wp2_with fail
  rw [← HE.out]
  go_loopw [3, 4] (fun y y9 wr => ∃ i : Nat, i ≤ n ∧ y9 = .int .i64 (i : Int) ∧ Hid (ChunksOwn W.heap.size 41 5 wr y (cs.take i)) ∧ Hid (Below W.heap.size W wr)) (fun _ y9 _ => n - (intOf y9).toNat)
  case atStart => exact ⟨0, Nat.zero_le _, rfl, hid (by rw [List.take_zero]; exact ChunksOwn.nil _ _ _ _), hid (Below.refl _ _)⟩
  case round =>
    obtain ⟨i, hi, rfl, HO, HB⟩ := hrel
    have HA := hid (HRA.out.mono HB.out)
    have f1 := HA.out.at 1 (by simp)
    simp only [List.getElem_cons_succ, List.getElem_cons_zero] at f1
    by_cases hlt : i < n
    · have hlt2 : i < cs.length := by rw [← HN.out]; exact hlt
      obtain ⟨gb, go, sl, rfl, k0, k1, k2, hrd⟩ := HEL.out i hlt2
      have GB := hid (gr_trans G0.out HB.out)
      have h0 := cell?_of_below GB.out k0
      have h1 := cell?_of_below GB.out k1
      have h2 := cell?_of_below GB.out k2
      have HSL := hid (hrd.mono GB.out)
      have HBL := hid (HB5.out _ (List.getElem_mem hlt2))
      have HTK := hid (List.take_succ_eq_append_getElem hlt2)
      have i0 : (0 : Int) ≤ (i : Int) := by omega
      have i1 : (i : Int) < (n : Int) := by omega
      have i2 : ((i : Int)).toNat = i := by omega
      obtain ⟨ss, q1, q2, q3⟩ := HO.out
      have htl : (cs.take i).length = i := by rw [List.length_take]; omega
      obtain ⟨tk, htk⟩ : ∃ t, t = cs.take i := ⟨_, rfl⟩
      rw [← htk] at q1 q2 q3 HTK htl
      generalize cs[i] = cx at *
      obtain ⟨kk, ff, b⟩ := cx
      simp only at h0 h1 h2 hrd HSL HBL
      obtain ⟨ps, cps, rfl, -, -, -, -⟩ := hrd
      obtain ⟨up, uc, rfl⟩ := q2.form
      obtain ⟨WB, hWB⟩ : ∃ WB, WB = wr.alloc (.cells #[.int .u8 (kk.toNat : Int), .int .u8 (ff.toNat : Int), .slice ps b.length cps] 41 (0, 0)) := ⟨_, rfl⟩
      have GW := hid (show Below wr.heap.size wr WB by rw [hWB]; exact (Below.refl _ _).alloc (Nat.le_refl _) _)
      have HBX := hid (show RowV WB wr.heap.size 41 [.int .u8 (kk.toNat : Int), .int .u8 (ff.toNat : Int), .slice ps b.length cps] by rw [hWB]; exact RowV.new wr _ _)
      have HSLW := hid (HSL.out.mono GW.out)
      have HQ2 := hid (q2.mono GW.out)
      have HQ3 := hid (show ∀ j (_ : j < tk.length) (_ : j < ss.length), Go.FL.Own WB W.heap.size 5 ss[j] tk[j].b from fun j x y => (q3 j x y).mono GW.out)
      have HQ1 := hid q1
      have HTL := hid htl
      have HWE := hid hWB
      have HGB := hid (show W.heap.size ≤ WB.heap.size from Nat.le_trans HB.out.size GW.out.size)
      clear k0 k1 k2 hlt2 q1 q2 q3 htk htl hWB
      rw [HTL.out] at HQ2
      go_wp2_with fail
      rw [HTL.out, ← HWE.out]
      clear h0 h1 h2 f1
      have HK0 := hid (HBX.out.at 0 (by simp))
      have HK1 := hid (HBX.out.at 1 (by simp))
      have HK2 := hid (HBX.out.at 2 (by simp))
      simp only [List.getElem_cons_succ, List.getElem_cons_zero] at HK0 HK1 HK2
      refine wp_region_tail 10 [Is (.slice up i uc), Is (.pointer (some ⟨wr.heap.size, 0, none⟩)), Is (.int .u8 (kk.toNat : Int)), Is (.pointer (some ⟨wr.heap.size, 1, none⟩)), Is (.int .u8 (ff.toNat : Int)), Is (.pointer (some ⟨wr.heap.size, 2, none⟩)), Is (.slice ps b.length cps), OwnF W.heap.size 5 b, CkF W.heap.size 5 ⟨kk, ff, b⟩, NewCkF W.heap.size 41 5 ⟨kk, ff, b⟩] (by kernel_rfl) (by kernel_rfl) (by kernel_rfl) (by kernel_rfl) (by kernel_rfl) (by kernel_rfl) ?_ ?_ ?_
      · simp only [StabAll, Is.gr, RdF.gr, OwnF.gr, AnyF.gr, CkF.gr, NewCkF.gr, and_self]
      · rename_i Kk hKk; clear hKk Kk
        simp only [List.take_succ_cons, List.take_zero, AllOps, List.map_cons, List.map_nil, depsOf, List.filterMap_cons, List.filterMap_nil, Region.binds, depFacts, guardF, reduceIte, List.getD_eq_getElem?_getD, List.getElem?_cons_succ, List.getElem?_cons_zero, Option.getD_some, factAt, and_true]
        refine ⟨?_, ?_, ?_, ?_, ?_, ?_, ?_, ?_, ?_, ?_⟩
        all_goals intro ρ wv hρ hR hd
        all_goals try simp only [Is] at hd
        · exact opOk_move (.inl rfl) ⟨by simp only [Is]; (first | exact hρ.2 3 rfl | exact hd | exact hd.1 | exact hd.2 | simp [hd]), GrR.refl _⟩
        · exact opOk_val (v := .pointer (some ⟨wr.heap.size, 0, none⟩)) (w' := wv) (by simp [execOp, go_sem, hρ.1.const, hρ.1.func, hd, (hρ.2 5 rfl)]) ⟨rfl, GrR.refl _⟩
        · (have h0 := cell?_of_below hR HK0.out; exact opOk_val (v := .int .u8 (kk.toNat : Int)) (w' := wv) (by simp [execOp, go_sem, hd, h0]) ⟨rfl, GrR.refl _⟩)
        · exact opOk_val (v := .pointer (some ⟨wr.heap.size, 1, none⟩)) (w' := wv) (by simp [execOp, go_sem, hρ.1.const, hρ.1.func, hd, (hρ.2 5 rfl)]) ⟨rfl, GrR.refl _⟩
        · (have h0 := cell?_of_below hR HK1.out; exact opOk_val (v := .int .u8 (ff.toNat : Int)) (w' := wv) (by simp [execOp, go_sem, hd, h0]) ⟨rfl, GrR.refl _⟩)
        · exact opOk_val (v := .pointer (some ⟨wr.heap.size, 2, none⟩)) (w' := wv) (by simp [execOp, go_sem, hρ.1.const, hρ.1.func, hd, (hρ.2 5 rfl)]) ⟨rfl, GrR.refl _⟩
        · (have h0 := cell?_of_below hR HK2.out; exact opOk_val (v := .slice ps b.length cps) (w' := wv) (by simp [execOp, go_sem, hd, h0]) ⟨rfl, GrR.refl _⟩)
        · exact opOk_call hρ.1 rfl rfl Try.func26 (by kernel_rfl) rfl (by simp [hd, hρ.1.const, hρ.1.func]) ((copyBytes_any _ b _ (HSLW.out.mono hR) (by have := HBL.out; omega)).mono fun e w' ⟨v', h1, h2, h3⟩ => ⟨v', h1, h2.base (Nat.le_trans HGB.out hR.size), h3⟩)
        · (have hr : OwnF W.heap.size 5 b (ρ (.tmp 25)) wv := (by first | exact hd.2.2 | exact hd.2.2.1 | exact hd.1 | exact hd.2.1); obtain ⟨p9, c9, h9⟩ := RdF.form hr.rd; exact opOk_val (v := .agg #[.int .u8 (kk.toNat : Int), .int .u8 (ff.toNat : Int), .slice p9 b.length c9]) (w' := wv) (by simp [execOp, go_sem, hd, h9]) ⟨⟨_, rfl, h9 ▸ hr⟩, GrR.refl _⟩)
        · (obtain ⟨s9, hv9, ho9⟩ : CkF W.heap.size 5 ⟨kk, ff, b⟩ (ρ (.tmp 26)) wv := (by first | exact hd | exact hd.1); obtain ⟨p9, n9, c9, rfl⟩ : ∃ x y z, s9 = Value.slice x y z := (let ⟨x, z, hh⟩ := RdF.form ho9.rd; ⟨x, _, z, hh⟩); exact opOk_val (v := .slice (some ⟨wv.heap.size, 0, none⟩) 1 1) (w' := wv.alloc (.cells #[.int .u8 (kk.toNat : Int), .int .u8 (ff.toNat : Int), .slice p9 n9 c9] 41 (0, 0))) (by simp [execOp, go_sem, hd, hv9]) ⟨⟨_, _, rfl, Nat.le_trans HGB.out hR.size, RowV.new wv 41 _, ho9.alloc _⟩, (Below.refl _ _).alloc (Nat.le_refl _) _⟩)
      · intro vals wv hR hall
        have h0 := hall 0 (by simp)
        have h9 := hall 9 (by simp)
        simp only [factAt, Is, NewCkF, List.getD_eq_getElem?_getD, List.getElem?_cons_succ, List.getElem?_cons_zero, Option.getD_some] at h0 h9
        clear hall
        obtain ⟨h, s9, hv9, hge9, hrow9, hown9⟩ := h9
        simp only [List.take_succ_cons, List.take_zero, List.drop_succ_cons, List.drop_zero, fillFrom, Act.put, h0, hv9, List.setIfInBounds_toArray, List.set_cons_zero, List.set_cons_succ, Nat.zero_add, Nat.reduceAdd]
        have HQ2w := hid (HQ2.out.mono hR)
        have HQ3w := hid (show ∀ j (_ : j < tk.length) (_ : j < ss.length), Go.FL.Own wv W.heap.size 5 ss[j] tk[j].b from fun j x y => (HQ3.out j x y).mono hR)
        have HNW := hid (rdK_row hrow9 (n := 1) (K := 3) rfl (by unfold maxLen; omega))
        have HO9 := hid hown9
        have GWV := hid (show Below W.heap.size W wv from (HB.out.trans (GW.out.mono HB.out.size)).trans (hR.mono HGB.out))
        clear h0 hv9 hrow9 hown9 hR hge9
        go_wp2_with (at_builtin; refine wpList_append_OwnK rfl (.tmp 18) (.tmp 27) 23 rfl W.heap.size 41 (.agg #[.int .u8 0, .int .u8 0, .slice none 0 0]) 3 32 rfl (by decide) Try.underlying23 infoChkP _ _ _ 1 _ _ ?h1m rfl HQ2w.out rfl HNW.out ?hlen ?hlen2 GWV.out.size ?_)
        case h1m =>
          intro x hx
          simp only [chkCell, List.mem_cons, List.not_mem_nil, or_false] at hx
          rcases hx with rfl | rfl | rfl
          · rfl
          · rfl
          · obtain ⟨x1, x3, hh⟩ := RdF.form HO9.out.rd
            rw [hh]
            rfl
        case hlen => omega
        case hlen2 => omega
        intro v' w2 hnn hg
        have HSN := hid (ChunksOwn.snoc (show (41 : Nat) ≠ 5 by decide) HQ1.out (by rw [HTL.out]; exact HQ2w.out) HQ3w.out HO9.out hg (by rw [HTL.out]; exact hnn))
        rw [← HTK.out] at HSN
        have HB2 := hid (GWV.out.grown hg GWV.out.size (fun k e => HQ2w.out.ge k e))
        clear hg hnn
        go_wp2_with fail
        go_roundw
        case rel => exact ⟨i + 1, by omega, by go_num, HSN, HB2⟩
        case measure => simp [intOf]; omega
    · obtain rfl : i = n := by omega
      rw [List.take_of_length_le (by rw [← HN.out]; exact Nat.le_refl _)] at HO
      have f0 := HA.out.at 0 (by simp)
      have HC := hid (HRB.out.mono HB.out)
      have g0 := HC.out.at 0 (by simp)
      have g1 := HC.out.at 1 (by simp)
      have g2 := HC.out.frozen 0
      have g3 := HC.out.frozen 1
      simp only [List.getElem_cons_succ, List.getElem_cons_zero] at f0 g0 g1
      obtain ⟨ss, q1, q2, q3⟩ := id HO.out
      obtain ⟨up, uc, rfl⟩ := q2.form
      clear q1 q2 q3
      go_wp2_with fail
      refine copy_ret (g := w.heap.size + 1) (.int .u32 (tag : Int)) (.slice up cs.length uc) rfl rfl ?_ ⟨_, rfl, ⟨_, rfl, (HO.out.hold ?_).base (by have := HSZ.out; omega), ht⟩, ((gr_trans G0.out HB.out).setCell (p := ⟨w.heap.size + 1, 0, none⟩) (by simp) _).setCell (p := ⟨w.heap.size + 1, 1, none⟩) (by simp) _⟩
      · have hq := (HC.out.store 0 (.int .u32 (tag : Int))).store 1 (.slice up cs.length uc)
        simpa using hq
      · intro k o hk ho _
        have := HSZ.out
        exact (Below.heap_setCell _ _ _ _ (by simp; omega)).trans ((Below.heap_setCell _ _ _ _ (by simp; omega)).trans ho)
end Go.Proofs.Ytahpklciafpdaaa

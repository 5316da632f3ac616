/- Fits, the program's and the document's: whether a packet may have one chunk more. Conditions: not too many, not too long. -/
import Derived.Test.YtahpklciafpdaaaPktClone
import Derived.Test.YtahpklciafpdaaaPktSize
set_option linter.unusedSimpArgs false
set_option linter.unusedVariables false
namespace Go.FL
open Go.RowKit
theorem CloF.gs_all {B e n : Nat} {l : List Value} {Φ : Nat → Value → Prop} (hΦ : ∀ i v, i < l.length → Φ i v → l[i]? = some v) : Stab (GrS B Φ) (CloF B e n l) := own_stab hΦ
theorem own_one (w : World) (B e : Nat) (l : List Value) (hB : B ≤ w.heap.size) (h3 : l.length = 3 := by rfl) : OwnK (w.alloc (.cells l.toArray e (0, 0))) B e 3 (.slice (some ⟨w.heap.size, 0, none⟩) 1 1) 1 l :=
  ⟨by rw [h3], .inr ⟨w.heap.size, 0, [], hB, rfl, rfl, by simpa using heap_alloc_new w _, by unfold maxLen; omega⟩⟩
theorem chkCell_length (c : Chk) (s : Value) : (chkCell c s).length = 3 := rfl
end Go.FL
namespace Go.Proofs.Ytahpklciafpdaaa
open Go.RowKit Go.FL Go.ChangeShapes

set_option maxRecDepth 100000 in
set_option maxHeartbeats 2000000 in
theorem fits_any (p : Pkt) (c : Chk) (mtu : Int) (v u : Value) (w : World) (h : PktAt w v p) (k : ChkAt w u c) (hn : p.cs.length ≤ 1000000) (hs : sizesN p.cs ≤ 100000000000) (hc : c.b.length ≤ 1000000000000) :
    Calls Try.prog 27 #[v, u, .int .i64 mtu] w fun e w' => e = .returned (.bool (fitsB p c mtu)) ∧ Below w.heap.size w w' := by
  obtain ⟨sl, rfl, hcs, ht⟩ := h
  obtain ⟨s, rfl, hrs⟩ := k
  obtain ⟨tg, cs⟩ := p
  simp only at *
  obtain ⟨q, cp, rfl, hle, hcm, -⟩ := id hcs
  unfold maxLen at hcm
  obtain ⟨ss, hl⟩ := hcs.cells
  obtain ⟨n, hnn⟩ : ∃ n, n = cs.length := ⟨_, rfl⟩
  have HN := hid hnn
  have HN6 := hid hn
  have HSZ := hid hs
  have HCB := hid hc
  have HTG := hid ht
  obtain ⟨ps, cps, hsl, hslc, hscm, -⟩ := id hrs
  have HSS := hid (show s.oneCell' = true by rw [hsl]; rfl)
  rw [← hnn] at hle hn
  rw [show (Value.slice q cs.length cp) = .slice q n cp by rw [hnn]] at hcs hl ⊢
  obtain ⟨W0, hW0⟩ : ∃ W, W = w.alloc (.cells #[.int .u32 (tg : Int), .slice q n cp] 25 (0, 0)) := ⟨_, rfl⟩
  have hs0 : W0.heap.size = w.heap.size + 1 := by rw [hW0]; simp
  obtain ⟨W, hW⟩ : ∃ W, W = W0.alloc (.cells #[.int .u8 (c.k.toNat : Int), .int .u8 (c.f.toNat : Int), s] 41 (0, 0)) := ⟨_, rfl⟩
  have HP := hid (show RowV W w.heap.size 25 [.int .u32 (tg : Int), .slice q n cp] by rw [hW, hW0]; exact (RowV.new w _ _).alloc _)
  have HC := hid (show RowV W (w.heap.size + 1) 41 [.int .u8 (c.k.toNat : Int), .int .u8 (c.f.toNat : Int), s] by rw [hW, ← hs0]; exact RowV.new W0 _ _)
  have G0 := hid (show Below w.heap.size w W by rw [hW, hW0]; exact ((Below.refl _ _).alloc (Nat.le_refl _) _).alloc (by simp) _)
  have HL := hid (hl.mono G0.out)
  have HAT := hid (hcs.mono G0.out)
  have HRS := hid (hrs.mono G0.out)
  have HP1 := hid (HP.out.at 1 (by simp))
  simp only [List.getElem_cons_succ, List.getElem_cons_zero] at HP1
  have HONE := hid (show ∀ u ∈ chkCell c s, u.oneCell' = true from fun u hu => by
    simp only [chkCell, List.mem_cons, List.not_mem_nil, or_false] at hu
    rcases hu with rfl | rfl | rfl
    · rfl
    · rfl
    · exact HSS.out)
  have HCL := hid (show (chkCells cs ss).length = 3 * n by rw [chkCells_length _ _ hl.1, HN.out]; omega)
  have HLN := hid (show (n + 1) * 32 ≤ 140737488355328 by omega)
  have HLN2 := hid (show n + 1 ≤ 140737488355328 by omega)
  obtain ⟨mb, hmb⟩ : ∃ b, mayB (cs ++ [c]) = b := ⟨_, rfl⟩
  have HMB := hid hmb
  obtain ⟨sz, hsz⟩ : ∃ b, (⟨tg, cs⟩ : Pkt).size = b := ⟨_, rfl⟩
  have HPS := hid hsz
  obtain ⟨cz, hcz⟩ : ∃ b, sizeC c = b := ⟨_, rfl⟩
  have HCZ := hid hcz
  obtain ⟨tt, htt⟩ : ∃ b, b = sz + cz := ⟨_, rfl⟩
  have HTT := hid (show IntKind.i64.wrap ((sz : Int) + (cz : Int)) = (tt : Int) by
    have h1 : cz ≤ 1000000000100 := by
      rw [← hcz, sizeC]
      have := roundN_lt c.b.length
      omega
    have h2 : sz ≤ 100000000012 := by
      rw [← hsz, Pkt.size]
      have := HSZ.out
      show 12 + sizesN cs ≤ _
      omega
    rw [IntKind.wrap_i64]
    omega)
  obtain ⟨lb, hlb⟩ : ∃ b, decide ((tt : Int) ≤ mtu) = b := ⟨_, rfl⟩
  have HLB := hid hlb
  have HRES := hid (show fitsB ⟨tg, cs⟩ c mtu = (mb && lb) by rw [fitsB, hmb, hsz, hcz, ← htt, hlb])
  have hsts : ∀ i v, i < (chkCell c s).length → (∃ j, i = 3 * n + j ∧ (chkCell c s)[j]? = some v) → (chkCell c s)[i]? = some v := by
    rintro i v hi ⟨j, rfl, hj⟩
    have hn0 : n = 0 := by
      rw [chkCell_length] at hi
      omega
    rw [hn0]
    simpa using hj
  have hstc : ∀ i v, i < (chkCells cs ss).length → (∃ j, i = 3 * n + j ∧ (chkCell c s)[j]? = some v) → (chkCells cs ss)[i]? = some v := by
    rintro i v hi ⟨j, rfl, hj⟩
    have := HCL.out
    omega
  have hstm : ∀ i v, i < (chkCells cs ss ++ chkCell c s).length → (∃ j, i = 3 * n + j ∧ (chkCell c s)[j]? = some v) → (chkCells cs ss ++ chkCell c s)[i]? = some v := by
    rintro i v hi ⟨j, rfl, hj⟩
    rw [List.getElem?_append_right (by rw [HCL.out]; omega), HCL.out, Nat.add_sub_cancel_left]
    exact hj
  have gs1 := CloF.gs_all (B := W.heap.size) (e := 41) (n := 1) hsts
  have gs2 := CloF.gs_all (B := W.heap.size) (e := 41) (n := n) hstc
  have gs3 := CloF.gs_all (B := W.heap.size) (e := 41) (n := n + 1) hstm
  have HS1 := hid hsts
  clear hsts hstc hstm hmb hsz hcz htt hlb hcs hl hrs hnn hn hs hc ht hsl hslc hscm
  rw [hW0] at hW
  have HE := hid hW
  clear hW hW0 hs0 W0
  go_enter Try.func27, Try.ntmps27
  go_wp2_with fail
  rw [← HE.out]
  cases mb
  · skip
    refine wp_region_gs (W.heap.size) (fun i u => ∃ j, i = 3 * n + j ∧ (chkCell c s)[j]? = some u) [Is (.pointer (some ⟨w.heap.size, 1, none⟩)), Is (.slice q n cp), CloF W.heap.size 41 n (chkCells cs ss), Is (.agg ([.int .u8 (c.k.toNat : Int), .int .u8 (c.f.toNat : Int), s]).toArray), CloF W.heap.size 41 1 (chkCell c s), CloF W.heap.size 41 (n + 1) (chkCells cs ss ++ chkCell c s), Is (.bool false), Is (.bool false), AnyF, AnyF, AnyF, AnyF, AnyF, AnyF, AnyF, Is (.bool false), Is (.bool false)] (by kernel_rfl) (by kernel_rfl) (by kernel_rfl) ?_ ?_ ?_
    · simp only [StabAll, Is.gs, AnyF.gs, gs1, gs2, gs3, and_self]
    · rename_i Kk hKk; clear hKk Kk
      simp only [AllOps, List.map_cons, List.map_nil, depsOf, List.filterMap_cons, List.filterMap_nil, Region.binds, depFacts, guardF, reduceIte, List.getD_eq_getElem?_getD, List.getElem?_cons_succ, List.getElem?_cons_zero, Option.getD_some, factAt, and_true]
      refine ⟨?_, ?_, ?_, ?_, ?_, ?_, ?_, ?_, ?_, ?_, ?_, ?_, ?_, ?_, ?_, ?_, ?_⟩
      all_goals intro ρ wv hρ hR hd
      all_goals try simp only [Is] at hd
      · exact opOk_val (v := .pointer (some ⟨w.heap.size, 1, none⟩)) (w' := wv) (by simp [execOp, go_sem, hρ.1.const, hρ.1.func, hd, (hρ.2 3 rfl)]) ⟨rfl, GrS.refl _ _ _⟩
      · (have h0 := cell?_of_below hR.below HP1.out; exact opOk_val (v := .slice q n cp) (w' := wv) (by simp [execOp, go_sem, hd, h0]) ⟨rfl, GrS.refl _ _ _⟩)
      · exact opOk_call hρ.1 rfl rfl Try.func48 (by kernel_rfl) rfl (by simp [hd, hρ.1.const, hρ.1.func]) ((cclone_any cs ss (.slice q n cp) wv (HL.out.mono hR.below) HN6.out).mono fun e w' ⟨v', h1, h2, h3⟩ => ⟨v', h1, (by rw [← HN.out] at h2; exact h2.base hR.size), GrS.of_gr _ hR.size h3⟩)
      · exact opOk_loadRow rfl (w.heap.size + 1) (by first | exact hρ.2 _ rfl | simp [hd]) _ ([.int .u8 (c.k.toNat : Int), .int .u8 (c.f.toNat : Int), s]) _ (HC.out.mono hR.below) Try.underlying41 rfl (by kernel_rfl) ⟨rfl, GrS.refl _ _ _⟩
      · exact opOk_val (v := .slice (some ⟨wv.heap.size, 0, none⟩) 1 1) (w' := wv.alloc (.cells #[.int .u8 (c.k.toNat : Int), .int .u8 (c.f.toNat : Int), s] 41 (0, 0))) (by simp [execOp, go_sem, hρ.1.const, hd, HSS.out]) ⟨own_one wv _ _ _ hR.size, GrS.of_gr _ hR.size ((Below.refl _ _).alloc (Nat.le_refl _) _)⟩
      · exact opOk_append_gs rfl W.heap.size _ 41 (.agg #[.int .u8 0, .int .u8 0, .slice none 0 0]) 3 32 rfl (by decide) Try.underlying23 infoChkP n 1 (chkCells cs ss) (chkCell c s) HONE.out (show CloF W.heap.size 41 n (chkCells cs ss) (ρ (.tmp 9)) wv by first | exact hd.1 | exact hd.2.1) (OwnK.rdL (show CloF W.heap.size 41 1 (chkCell c s) (ρ (.tmp 11)) wv by first | exact hd.2.1 | exact hd.1 | exact hd.2)) HLN.out HLN2.out hR.size (fun j u hu => ⟨j, by rw [HCL.out], hu⟩) (fun v' w' h1 h2 => ⟨h1, h2⟩)
      · exact opOk_call hρ.1 rfl rfl Try.func31 (by kernel_rfl) rfl (by simp [hd, hρ.1.const, hρ.1.func]) ((may_any (cs ++ [c]) (ρ (.tmp 12)) wv (at_snoc HL.out.1 (by have h9 : CloF W.heap.size 41 (n + 1) (chkCells cs ss ++ chkCell c s) (ρ (.tmp 12)) wv := (by first | exact hd | exact hd.1); rw [← HN.out]; exact h9.rdL) (fun i a b => (HL.out.2.2.1 i a b).mono hR.below) (HRS.out.mono hR.below))).mono fun e w' ⟨h1, h2⟩ => ⟨_, h1, by rw [HMB.out]; rfl, GrS.of_gr _ hR.size h2⟩)
      · exact opOk_move (.inl rfl) ⟨by simp only [Is]; (first | exact hρ.2 13 rfl | exact hd | exact hd.1 | exact hd.2 | simp [hd]), GrS.refl _ _ _⟩
      · exact ⟨fun hg => absurd hg (by simp [hd]), fun _ => trivial⟩
      · exact ⟨fun hg => absurd hg (by simp [hd]), fun _ => trivial⟩
      · exact ⟨fun hg => absurd hg (by simp [hd]), fun _ => trivial⟩
      · exact ⟨fun hg => absurd hg (by simp [hd]), fun _ => trivial⟩
      · exact ⟨fun hg => absurd hg (by simp [hd]), fun _ => trivial⟩
      · exact ⟨fun hg => absurd hg (by simp [hd]), fun _ => trivial⟩
      · exact ⟨fun hg => absurd hg (by simp [hd]), fun _ => trivial⟩
      · exact opOk_val (v := .bool false) (w' := wv) (by simp [execOp, go_sem, hρ.1.const, hρ.1.func, hd]) ⟨rfl, GrS.refl _ _ _⟩
      · exact opOk_move (.inr rfl) ⟨by simp only [Is]; (first | exact hρ.2 22 rfl | exact hd | exact hd.1 | exact hd.2 | simp [hd]), GrS.refl _ _ _⟩
    · intro vals wv hR hall
      have h16 := hall 16 (by simp)
      simp only [factAt, Is, List.getD_eq_getElem?_getD, List.getElem?_cons_succ, List.getElem?_cons_zero, Option.getD_some] at h16
      clear hall
      simp only [fillFrom, Act.put, h16, List.setIfInBounds_toArray, List.set_cons_zero, List.set_cons_succ]
      rename_i Kk hKk
      refine hKk _ _ ?_
      clear hKk Kk h16
      have GF := hid (gr_trans G0.out hR.below)
      clear hR
      go_wp2_with fail
      go_ret
      exact ⟨by rw [HRES.out]; rfl, GF.out⟩
  · skip
    refine wp_region_gs (W.heap.size) (fun i u => ∃ j, i = 3 * n + j ∧ (chkCell c s)[j]? = some u) [Is (.pointer (some ⟨w.heap.size, 1, none⟩)), Is (.slice q n cp), CloF W.heap.size 41 n (chkCells cs ss), Is (.agg ([.int .u8 (c.k.toNat : Int), .int .u8 (c.f.toNat : Int), s]).toArray), CloF W.heap.size 41 1 (chkCell c s), CloF W.heap.size 41 (n + 1) (chkCells cs ss ++ chkCell c s), Is (.bool true), Is (.bool true), Is (.agg ([.int .u32 (tg : Int), .slice q n cp]).toArray), Is (.int .i64 (sz : Int)), Is (.agg ([.int .u8 (c.k.toNat : Int), .int .u8 (c.f.toNat : Int), s]).toArray), Is (.int .i64 (cz : Int)), Is (.int .i64 (tt : Int)), Is (.int .i64 mtu), Is (.bool lb), Is (.bool lb), Is (.bool lb)] (by kernel_rfl) (by kernel_rfl) (by kernel_rfl) ?_ ?_ ?_
    · simp only [StabAll, Is.gs, AnyF.gs, gs1, gs2, gs3, and_self]
    · rename_i Kk hKk; clear hKk Kk
      simp only [AllOps, List.map_cons, List.map_nil, depsOf, List.filterMap_cons, List.filterMap_nil, Region.binds, depFacts, guardF, reduceIte, List.getD_eq_getElem?_getD, List.getElem?_cons_succ, List.getElem?_cons_zero, Option.getD_some, factAt, and_true]
      refine ⟨?_, ?_, ?_, ?_, ?_, ?_, ?_, ?_, ?_, ?_, ?_, ?_, ?_, ?_, ?_, ?_, ?_⟩
      all_goals intro ρ wv hρ hR hd
      all_goals try simp only [Is] at hd
      · exact opOk_val (v := .pointer (some ⟨w.heap.size, 1, none⟩)) (w' := wv) (by simp [execOp, go_sem, hρ.1.const, hρ.1.func, hd, (hρ.2 3 rfl)]) ⟨rfl, GrS.refl _ _ _⟩
      · (have h0 := cell?_of_below hR.below HP1.out; exact opOk_val (v := .slice q n cp) (w' := wv) (by simp [execOp, go_sem, hd, h0]) ⟨rfl, GrS.refl _ _ _⟩)
      · exact opOk_call hρ.1 rfl rfl Try.func48 (by kernel_rfl) rfl (by simp [hd, hρ.1.const, hρ.1.func]) ((cclone_any cs ss (.slice q n cp) wv (HL.out.mono hR.below) HN6.out).mono fun e w' ⟨v', h1, h2, h3⟩ => ⟨v', h1, (by rw [← HN.out] at h2; exact h2.base hR.size), GrS.of_gr _ hR.size h3⟩)
      · exact opOk_loadRow rfl (w.heap.size + 1) (by first | exact hρ.2 _ rfl | simp [hd]) _ ([.int .u8 (c.k.toNat : Int), .int .u8 (c.f.toNat : Int), s]) _ (HC.out.mono hR.below) Try.underlying41 rfl (by kernel_rfl) ⟨rfl, GrS.refl _ _ _⟩
      · exact opOk_val (v := .slice (some ⟨wv.heap.size, 0, none⟩) 1 1) (w' := wv.alloc (.cells #[.int .u8 (c.k.toNat : Int), .int .u8 (c.f.toNat : Int), s] 41 (0, 0))) (by simp [execOp, go_sem, hρ.1.const, hd, HSS.out]) ⟨own_one wv _ _ _ hR.size, GrS.of_gr _ hR.size ((Below.refl _ _).alloc (Nat.le_refl _) _)⟩
      · exact opOk_append_gs rfl W.heap.size _ 41 (.agg #[.int .u8 0, .int .u8 0, .slice none 0 0]) 3 32 rfl (by decide) Try.underlying23 infoChkP n 1 (chkCells cs ss) (chkCell c s) HONE.out (show CloF W.heap.size 41 n (chkCells cs ss) (ρ (.tmp 9)) wv by first | exact hd.1 | exact hd.2.1) (OwnK.rdL (show CloF W.heap.size 41 1 (chkCell c s) (ρ (.tmp 11)) wv by first | exact hd.2.1 | exact hd.1 | exact hd.2)) HLN.out HLN2.out hR.size (fun j u hu => ⟨j, by rw [HCL.out], hu⟩) (fun v' w' h1 h2 => ⟨h1, h2⟩)
      · exact opOk_call hρ.1 rfl rfl Try.func31 (by kernel_rfl) rfl (by simp [hd, hρ.1.const, hρ.1.func]) ((may_any (cs ++ [c]) (ρ (.tmp 12)) wv (at_snoc HL.out.1 (by have h9 : CloF W.heap.size 41 (n + 1) (chkCells cs ss ++ chkCell c s) (ρ (.tmp 12)) wv := (by first | exact hd | exact hd.1); rw [← HN.out]; exact h9.rdL) (fun i a b => (HL.out.2.2.1 i a b).mono hR.below) (HRS.out.mono hR.below))).mono fun e w' ⟨h1, h2⟩ => ⟨_, h1, by rw [HMB.out]; rfl, GrS.of_gr _ hR.size h2⟩)
      · exact opOk_move (.inl rfl) ⟨by simp only [Is]; (first | exact hρ.2 13 rfl | exact hd | exact hd.1 | exact hd.2 | simp [hd]), GrS.refl _ _ _⟩
      · refine ⟨fun _ => ?_, fun hg => absurd (by simp [hd]) hg⟩; exact opOk_loadRow rfl (w.heap.size) (by first | exact hρ.2 _ rfl | simp [hd]) _ ([.int .u32 (tg : Int), .slice q n cp]) _ (HP.out.mono hR.below) Try.underlying25 rfl (by kernel_rfl) ⟨rfl, GrS.refl _ _ _⟩
      · refine ⟨fun _ => ?_, fun hg => absurd (by simp [hd]) hg⟩; exact opOk_call hρ.1 rfl rfl Try.func15 (by kernel_rfl) rfl (by simp [hd, hρ.1.const, hρ.1.func]) ((psize_any ⟨tg, cs⟩ (.agg #[.int .u32 (tg : Int), .slice q n cp]) wv ⟨_, rfl, (HAT.out.mono hR.below), HTG.out⟩ HSZ.out).mono fun e w' ⟨h1, h2⟩ => ⟨_, h1, by rw [HPS.out]; rfl, GrS.of_gr _ hR.size h2⟩)
      · refine ⟨fun _ => ?_, fun hg => absurd (by simp [hd]) hg⟩; exact opOk_loadRow rfl (w.heap.size + 1) (by first | exact hρ.2 _ rfl | simp [hd]) _ ([.int .u8 (c.k.toNat : Int), .int .u8 (c.f.toNat : Int), s]) _ (HC.out.mono hR.below) Try.underlying41 rfl (by kernel_rfl) ⟨rfl, GrS.refl _ _ _⟩
      · refine ⟨fun _ => ?_, fun hg => absurd (by simp [hd]) hg⟩; exact opOk_call hρ.1 rfl rfl Try.func35 (by kernel_rfl) rfl (by simp [hd, hρ.1.const, hρ.1.func]) ((csize_any c (.agg #[.int .u8 (c.k.toNat : Int), .int .u8 (c.f.toNat : Int), s]) wv ⟨_, rfl, HRS.out.mono hR.below⟩ HCB.out).mono fun e w' ⟨h1, h2⟩ => ⟨_, h1, by rw [HCZ.out]; rfl, GrS.of_gr _ hR.size h2⟩)
      · refine ⟨fun _ => ?_, fun hg => absurd (by simp [hd]) hg⟩; exact opOk_val (v := .int .i64 (tt : Int)) (w' := wv) (by simp [execOp, go_sem, hρ.1.const, hρ.1.func, hd, HTT.out]) ⟨rfl, GrS.refl _ _ _⟩
      · refine ⟨fun _ => ?_, fun hg => absurd (by simp [hd]) hg⟩; exact opOk_move (.inl rfl) ⟨by simp only [Is]; (first | exact hρ.2 2 rfl | exact hd | exact hd.1 | exact hd.2 | simp [hd]), GrS.refl _ _ _⟩
      · refine ⟨fun _ => ?_, fun hg => absurd (by simp [hd]) hg⟩; exact opOk_val (v := .bool lb) (w' := wv) (by simp [execOp, go_sem, hρ.1.const, hρ.1.func, hd, HLB.out]) ⟨rfl, GrS.refl _ _ _⟩
      · exact opOk_val (v := .bool lb) (w' := wv) (by simp [execOp, go_sem, hρ.1.const, hρ.1.func, hd]) ⟨rfl, GrS.refl _ _ _⟩
      · exact opOk_move (.inr rfl) ⟨by simp only [Is]; (first | exact hρ.2 22 rfl | exact hd | exact hd.1 | exact hd.2 | simp [hd]), GrS.refl _ _ _⟩
    · intro vals wv hR hall
      have h16 := hall 16 (by simp)
      simp only [factAt, Is, List.getD_eq_getElem?_getD, List.getElem?_cons_succ, List.getElem?_cons_zero, Option.getD_some] at h16
      clear hall
      simp only [fillFrom, Act.put, h16, List.setIfInBounds_toArray, List.set_cons_zero, List.set_cons_succ]
      rename_i Kk hKk
      refine hKk _ _ ?_
      clear hKk Kk h16
      have GF := hid (gr_trans G0.out hR.below)
      clear hR
      go_wp2_with fail
      go_ret
      exact ⟨by rw [HRES.out]; rfl, GF.out⟩

end Go.Proofs.Ytahpklciafpdaaa

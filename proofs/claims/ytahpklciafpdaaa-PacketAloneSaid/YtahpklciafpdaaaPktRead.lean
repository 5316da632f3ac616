/- packet.Read. Conditions: what comes in reads as it should, and is not huge. -/
import Derived.Test.YtahpklciafpdaaaPktOwn
import Derived.Test.YtahpklciafpdaaaSliEq
set_option linter.unusedSimpArgs false
set_option linter.unusedVariables false
namespace Go.FL
open Go.RowKit
theorem run_slice_lohi {P : Program} (t e : TypeId) (ht : P.underlying t = some (.slice e)) (hz : (P.info? e).map (·.size) = some 1) (p : Option Addr) (n c i j : Nat) (hi : i ≤ j) (hj : j ≤ c) (k k' : IntKind) (w : World) :
    (Instr.slice t (.slice p n c) (some (.int k (i : Int))) (some (.int k' (j : Int))) none).run P w = .ok (sliced p i j c 1) w := by
  cases hq : P.info? e with
  | none => simp [hq] at hz
  | some inf =>
    have hs : inf.size = 1 := by simpa [hq] using hz
    simp [Instr.slice, run_underlying ht, Instr.sliceBounds, run_sliceBound, sizeOf, typeInfo, hq, hs, hi, hj, sliced]
/-- A slice operation whose answer is known, as a step of the walk. -/
theorem wpList_slice_known {P : Program} {w : World} {ops : Array Oper} {rest : List Oper} {o : Oper} {a : Act} {Q : Exit → Act → World → Prop} (hgd : o.guard = none) (t : TypeId) (x lo : Operand)
    (ho : o.op = .slice t x (some lo) none none) (e : TypeId) (ht : P.underlying t = some (.slice e)) (u l v : Value) (hx : a.eval x = u) (hl : a.eval lo = l) (hrun : (Instr.slice t u (some l) none none).run P w = .ok v w)
    (h : wpList P ops Q rest (a.put o.dst v) w) : wpList P ops Q (o :: rest) a w := by
  refine wpList_plain hgd fun K hK => ?_
  unfold Oper.wp execOp
  have hrun' : (Instr.sliceAt t u (some l) none none).run P w = .ok v w := by simpa [Instr.sliceAt, run_underlying ht] using hrun
  simp only [ho, Option.map_some, Option.map_none, Sem.run_bind, hx, hl, hrun', Result.andThen_ok, Sem.run_pure]
  exact hK _ _ h
theorem OwnK.cells {w : World} {base e K n : Nat} {v : Value} {l : List Value} (h : OwnK w base e K v n l) : ∀ (j : Nat) (o : Obj), v.ownBlock = some j → w.heap[j]? = some o → o.isCells = true := by
  intro j o hj ho
  obtain ⟨h0, ⟨rfl, rfl⟩ | ⟨g, m, sp, h1, rfl, h2, hr, hm⟩⟩ := h
  · simp [Value.ownBlock] at hj
  · simp [Value.ownBlock] at hj
    subst hj
    rw [hr] at ho
    injection ho with ho
    subst ho
    rfl
/-- What is told of a packet. -/
def TellsPkt (w : World) (eC eB : Nat) (t : Pkt × Int) (en : Ending) (w' : World) : Prop :=
  ∃ v, en = .returned (.tuple #[v, .int .i64 t.2]) ∧ PktOwn w.heap.size eC eB w' v t.1 ∧ Below w.heap.size w w'
def TellsPktA (w : World) (eC eB : Nat) (t : Pkt × Int) (en : Ending) (w' : World) : Prop :=
  ∃ v, en = .returned (.tuple #[v, .int .i64 t.2]) ∧ PktOwnA w.heap.size eC eB w' v t.1 ∧ Below w.heap.size w w'
theorem PktOwnA.zero (n₀ eC eB : Nat) (w : World) : PktOwnA n₀ eC eB w (.agg #[.int .u32 0, .slice none 0 0]) .zero := ⟨_, [], rfl, ChunksOwnS.nil _ _ _ _, List.Pairwise.nil, by simp [Pkt.zero]⟩
theorem PktOwn.zero (n₀ eC eB : Nat) (w : World) : PktOwn n₀ eC eB w (.agg #[.int .u32 0, .slice none 0 0]) .zero := ⟨_, rfl, ChunksOwn.nil _ _ _ _, by simp [Pkt.zero]⟩
/-- Is the sum that stands in bytes that of them? -/
theorem sum_says (b : List UInt8) (h : 12 ≤ b.length) : decide (beBytes 4 (sumB b) = (b.drop 8).take 4) = decide (numAt b 8 4 = sumB b) := by
  have h2 := numAt_bytes b 8 4 (by omega)
  rw [← h2]
  have hn := numAt_lt b 8 4
  have hs := sumB_lt b
  rw [decide_eq_decide]
  constructor
  · intro e
    have := congrArg beVal e
    rw [beVal_of 4 _ (by simpa using hs), beVal_of 4 _ (by simpa using hn)] at this
    exact this.symm
  · intro e
    rw [e]
end Go.FL
namespace Go.Proofs.Ytahpklciafpdaaa
open Go.RowKit Go.FL Go.ChangeShapes Go.Shelf
attribute [local go_sem] Oper.semAt_some
theorem infoChkP : (Try.prog.info? 41).map (fun i => (i.zero, i.size, i.bytes)) = some (some (.agg #[.int .u8 0, .int .u8 0, .slice none 0 0]), 3, 32) := by kernel_rfl

theorem pread_out {tmps : Array Value} {W : World} {g n : Nat} {R : Ending → World → Prop} (tg s : Value) (er : Int) (h2 : tmps.getD 2 undef = .pointer (some ⟨g, 0, none⟩)) (h3 : tmps.getD 3 undef = .pointer (some ⟨n, 0, none⟩))
    (hc : RowV W g 25 [tg, s]) (hn : RowV W n 37 [.int .i64 er]) (hR : R (.returned (.tuple #[.agg #[tg, s], .int .i64 er])) W) : LeavesInM Fence.wide 0 Try.prog Try.f22 tmps R [] .returning W := by
  refine ⟨.tuple #[.agg #[tg, s], .int .i64 er], ?_, hR⟩
  have c0 : W.cell? ⟨g, 0, none⟩ = some tg := hc.at 0 (by simp)
  have c1 : W.cell? ⟨g, 1, none⟩ = some s := hc.at 1 (by simp)
  have cn : W.cell? ⟨n, 0, none⟩ = some (.int .i64 er) := hn.at 0 (by simp)
  simp only [Array.getD_eq_getD_getElem?] at h2 h3
  simp [results, Try.results22, go_sem, h2, h3, asAddr, c0, c1, cn]
theorem pread_end {tmps : Array Value} {W : World} {g n D : Nat} {R : Ending → World → Prop} (tg s : Value) (er : Int) (h2 : tmps.getD 2 undef = .pointer (some ⟨g, 0, none⟩)) (h3 : tmps.getD 3 undef = .pointer (some ⟨n, 0, none⟩))
    (hc : RowV W g 25 [tg, s]) (hn : RowV W n 37 [.int .i64 er]) (hK : W.heap[D]? = some (.deferred (some []))) (hR : R (.returned (.tuple #[.agg #[tg, s], .int .i64 er])) (W.putObj D (.deferred none))) :
    bodyPostM Fence.wide 0 Try.prog Try.f22 R .ret { tmps := tmps, defers := [{ target := .collected D, args := #[] }] } W := by
  have hk : ∀ {q e : Nat} {l : List Value}, RowV W q e l → RowV (W.putObj D (.deferred none)) q e l := fun {q e l} h => h.grown (grownBy_putObj' W D _) (fun e => by
    simp at e
    subst e
    unfold RowV at h
    rw [h] at hK
    simp at hK)
  exact ⟨by simp, .inl ⟨D, _, rfl, run_takeDeferred hK, pread_out tg s er h2 h3 (hk hc) (hk hn) hR⟩⟩

set_option maxRecDepth 100000 in
set_option maxHeartbeats 4000000 in
theorem pread_all (v : Value) (b : List UInt8) (w : World) (h : Rd w v b) (hl : b.length ≤ 1000000000000) :
    Calls Try.prog 22 #[v] w (TellsPktA w 41 5 (readP b)) := by
  have HV := hid h
  obtain ⟨p, c, rfl, hlc, hcm, -, -⟩ := h
  unfold maxLen at hcm
  obtain ⟨n, hn⟩ : ∃ n, n = b.length := ⟨_, rfl⟩
  have HN := hid hn
  rw [← hn] at HV hlc hl ⊢
  clear hn
  have G0 := hid (Below.refl w.heap.size w)
  obtain ⟨W, hW⟩ : ∃ W, W = (w.alloc (.cells #[.int .u32 0, .slice none 0 0] 25 (0, 0))).alloc (.cells #[.int .i64 0] 37 (0, 0)) := ⟨_, rfl⟩
  have G := hid (show Below w.heap.size w W by rw [hW]; exact ((Below.refl _ _).alloc (Nat.le_refl _) _).alloc (by simp) _)
  have HP := hid (show RowV W w.heap.size 25 [.int .u32 0, .slice none 0 0] by rw [hW]; exact (RowV.new w _ _).alloc _)
  have HEr := hid (show RowV W (w.heap.size + 1) 37 [.int .i64 0] by
    rw [hW]
    have := RowV.new (w.alloc (.cells #[.int .u32 0, .slice none 0 0] 25 (0, 0))) 37 [.int .i64 0]
    rwa [World.size_alloc] at this)
  have HSW := hid (show W.heap.size = w.heap.size + 2 by rw [hW]; simp)
  have HE := hid hW
  clear hW
  refine callsIn_wide.1 (callsIn_of_wp_marks (n := 0) Try.func22 rfl trivial ?_ rfl)
  simp only [Try.ntmps22, List.size_toArray, List.length_cons, List.length_nil, Nat.reduceAdd, Nat.reduceSub, Array.replicate_succ, Array.replicate_zero, List.push_toArray, List.append_toArray, List.nil_append, List.cons_append]
  refine wpIn_wide.2 ?_
  by_cases hs : n < 12
  · have HRD := hid (show readP b = (.zero, 7) by rw [readP, if_pos (by rw [← HN.out]; exact hs)])
    have e1 : (n : Int) < 12 := by omega
    go_wp2_with fail
    refine pread_out (g := w.heap.size) (n := w.heap.size + 1) (.int .u32 0) (.slice none 0 0) 7 rfl rfl ((RowV.new w _ _).alloc _) ?_ ?_
    · have := RowV.new (w.alloc (.cells #[.int .u32 0, .slice none 0 0] 25 (0, 0))) 37 [.int .i64 7]
      rwa [World.size_alloc] at this
    · rw [HRD.out]
      exact ⟨_, rfl, PktOwnA.zero _ _ _ _, ((Below.refl _ _).alloc (Nat.le_refl _) _).alloc (by simp) _⟩
  · have e1 : ¬ (n : Int) < 12 := by omega
    have hcut := HV.out.cut 8 12 (by omega) (by rw [← HN.out]; omega)
    have HCUT := hid (hcut.mono (show Below w.heap.size w W from G.out))
    have HS8 := hid (show ∀ wx, (Instr.slice 29 (.slice p n c) (some (.int .i64 8)) (some (.int .i64 12)) none).run Try.prog wx = .ok (sliced p 8 12 c 1) wx from fun wx => run_slice_lohi (P := Try.prog) 29 5 Try.underlying29 (by kernel_rfl) p n c 8 12 (by omega) (by omega) .i64 .i64 wx)
    obtain ⟨sm, hsm⟩ : ∃ x, x = sumB b := ⟨_, rfl⟩
    have HSM := hid hsm
    obtain ⟨ok, hok⟩ : ∃ x, x = decide (beBytes 4 sm = (b.drop 8).take 4) := ⟨_, rfl⟩
    have HOK := hid hok
    have HOK2 := hid (show ok = decide (numAt b 8 4 = sumB b) by rw [hok, hsm]; exact sum_says b (by rw [← HN.out]; omega))
    have HV2 := hid (HV.out.mono G.out)
    have hn0 := numAt_lt b 0 2
    have hn2 := numAt_lt b 2 2
    have hn4 := numAt_lt b 4 4
    obtain ⟨fr, hfr⟩ : ∃ x, x = numAt b 0 2 := ⟨_, rfl⟩
    obtain ⟨to, hto⟩ : ∃ x, x = numAt b 2 2 := ⟨_, rfl⟩
    obtain ⟨tg, htg⟩ : ∃ x, x = numAt b 4 4 := ⟨_, rfl⟩
    have HFR := hid hfr
    have HTO := hid hto
    have HTG := hid htg
    have HTL := hid (show tg < 4294967296 by rw [htg]; simpa using hn4)
    have hw : IntKind.u32.wrap (tg : Int) = (tg : Int) := by have := HTL.out; rw [IntKind.wrap_u32]; omega
    obtain ⟨p12, c12, hs12⟩ := sliced_form p 12 n c
    obtain ⟨n12, hn12⟩ : ∃ m, m = n - 12 := ⟨_, rfl⟩
    rw [← hn12] at hs12
    have hcut12 := HV.out.cut 12 n (by omega) (by rw [← HN.out]; exact Nat.le_refl _)
    rw [List.take_of_length_le (by rw [List.length_drop, ← HN.out]; exact Nat.le_refl _), hs12] at hcut12
    have HC12 := hid hcut12
    have HS12 := hid (show ∀ wx, (Instr.slice 29 (.slice p n c) (some (.int .i64 12)) none none).run Try.prog wx = .ok (.slice p12 n12 c12) wx from fun wx => by
      have hh := run_slice_from32 (P := Try.prog) 29 5 Try.underlying29 (by kernel_rfl) p n c 12 (by omega) .i64 wx
      rw [hs12] at hh
      exact hh)
    have HL12 := hid (show (b.drop 12).length ≤ 1000000000000 by rw [List.length_drop, ← HN.out]; omega)
    have HLE := hid (show 12 ≤ b.length by rw [← HN.out]; omega)
    clear hcut hsm hok hfr hto htg hs12 hn12 hcut12 hn0 hn2 hn4
    go_wp2_with fail
    rw [← HE.out]
    refine wp_region_gr [Is (.slice p n c), OwnF W.heap.size 5 (beBytes 4 sm), Is (.slice p n c), RdF ((b.drop 8).take 4), Is (.bool ok), Is (.bool (!ok))] (by kernel_rfl) (by kernel_rfl) (by kernel_rfl) ?_ ?_ ?_
    · simp only [StabAll, Is.gr, RdF.gr, OwnF.gr, AnyF.gr, and_self]
    · rename_i Kk hKk; clear hKk Kk
      simp only [AllOps, List.map_cons, List.map_nil, depsOf, List.filterMap_cons, List.filterMap_nil, Region.binds, depFacts, guardF, reduceIte, List.getD_eq_getElem?_getD, List.getElem?_cons_succ, List.getElem?_cons_zero, Option.getD_some, factAt, and_true]
      refine ⟨?_, ?_, ?_, ?_, ?_, ?_⟩
      all_goals intro ρ wv hρ hR hd
      all_goals try simp only [Is] at hd
      · exact opOk_move (.inl rfl) ⟨by simp only [Is]; (first | exact hρ.2 0 rfl | exact hd | exact hd.1 | exact hd.2 | simp [hd]), GrR.refl _⟩
      · exact opOk_call hρ.1 rfl rfl Try.func34 (by kernel_rfl) rfl (by simp [hd, hρ.1.const, hρ.1.func]) ((psum_any _ b _ (HV2.out.mono hR) (HLE.out)).mono fun e w' ⟨v', h1, h2, h3⟩ => ⟨v', h1, by have := h2.base hR.size; rw [← HSM.out] at this; exact this, h3⟩)
      · exact opOk_move (.inl rfl) ⟨by simp only [Is]; (first | exact hρ.2 0 rfl | exact hd | exact hd.1 | exact hd.2 | simp [hd]), GrR.refl _⟩
      · (exact opOk_val (v := sliced p 8 12 c 1) (w' := wv) (by simp [execOp, go_sem, hd, hρ.1.const, HS8.out]) ⟨HCUT.out.mono hR, GrR.refl _⟩)
      · exact opOk_call hρ.1 rfl rfl Try.func42 (by kernel_rfl) rfl (by simp [hd, hρ.1.const, hρ.1.func]) ((sliEq_any _ _ (beBytes 4 sm) ((b.drop 8).take 4) _ hd.1.rd hd.2.1).mono fun e w' ⟨h1, h2⟩ => ⟨_, h1, (by rw [HOK.out]; rfl), h2⟩)
      · exact opOk_val (v := .bool (!ok)) (w' := wv) (by simp [execOp, go_sem, hρ.1.const, hρ.1.func, hd]) ⟨rfl, GrR.refl _⟩
    · intro vals wv hR hall
      have hend := hall 5 (by simp)
      simp only [factAt, Is, List.getD_eq_getElem?_getD, List.getElem?_cons_succ, List.getElem?_cons_zero, Option.getD_some] at hend
      clear hall
      simp only [fillFrom, Act.put, hend, List.setIfInBounds_toArray, List.set_cons_zero, List.set_cons_succ]
      clear hend
      have G2 := hid (gr_trans G.out hR)
      have HP2 := hid (HP.out.mono hR)
      have HEr2 := hid (HEr.out.mono hR)
      have HV3 := hid (HV2.out.mono hR)
      have HSV := hid (show w.heap.size + 2 ≤ wv.heap.size by have := hR.size; have := HSW.out; omega)
      clear hR
      cases ok
      · have HRD := hid (show readP b = (.zero, 8) by rw [readP, if_neg (by have := HLE.out; omega), if_neg (by have := HOK2.out; simpa using this)])
        have p0 := HP2.out.at 0 (by simp)
        have p1 := HP2.out.at 1 (by simp)
        simp only [List.getElem_cons_succ, List.getElem_cons_zero] at p0 p1
        have p2 := HP2.out.frozen 0
        have p3 := HP2.out.frozen 1
        have e0 := HEr2.out.at 0 (by simp)
        simp only [List.getElem_cons_zero] at e0
        have e2 := HEr2.out.frozen 0
        go_wp2_with fail
        refine pread_out (g := w.heap.size) (n := w.heap.size + 1) (.int .u32 0) (.slice none 0 0) 8 rfl rfl ?_ ?_ ?_
        · have h1 := ((HP2.out.store 0 (.int .u32 0)).store 1 (.slice none 0 0)).other ⟨w.heap.size + 1, 0, none⟩ (.int .i64 8) (by simp)
          simpa using h1
        · exact ((HEr2.out.other ⟨w.heap.size, 0, none⟩ (.int .u32 0) (by simp)).other ⟨w.heap.size, 1, none⟩ (.slice none 0 0) (by simp)).store 0 (.int .i64 8)
        · rw [HRD.out]
          exact ⟨_, rfl, PktOwnA.zero _ _ _ _, ((G2.out.setCell (p := ⟨w.heap.size, 0, none⟩) (Nat.le_refl _) _).setCell (p := ⟨w.heap.size, 1, none⟩) (Nat.le_refl _) _).setCell (p := ⟨w.heap.size + 1, 0, none⟩) (by simp) _⟩
      · have HS2 := hid (show numAt b 8 4 = sumB b by have := HOK2.out; simpa using this.symm)
        clear HOK HOK2
        go_wp2_with fail
        refine (get_within _ b 0 2 _ _ rfl rfl (by omega) _ HV3.out (by have := HLE.out; omega)).mono ?_
        rw [← HFR.out]
        rintro e w' ⟨rfl, rfl⟩
        go_wp2_with fail
        refine (get_within _ b 2 2 _ _ rfl rfl (by omega) _ HV3.out (by have := HLE.out; omega)).mono ?_
        rw [← HTO.out]
        rintro e w' ⟨rfl, rfl⟩
        go_wp2_with fail
        refine (get_within _ b 4 4 _ _ rfl rfl (by omega) _ HV3.out (by have := HLE.out; omega)).mono ?_
        rw [← HTG.out]
        rintro e w' ⟨rfl, rfl⟩
        go_wp2_with (refine wpList_slice_known rfl 29 (.tmp 42) (.const (.int .i64 12)) rfl 5 Try.underlying29 _ _ _ rfl rfl (HS12.out _) ?_)
        refine (chunks_any p12 n12 c12 _).mono ?_
        rintro e w' ⟨rfl, rfl⟩
        go_wp2_with fail
        obtain ⟨x0, hx0⟩ : ∃ x, x = vals 0 := ⟨_, rfl⟩
        obtain ⟨x1, hx1⟩ : ∃ x, x = vals 1 := ⟨_, rfl⟩
        obtain ⟨x2, hx2⟩ : ∃ x, x = vals 2 := ⟨_, rfl⟩
        obtain ⟨x3, hx3⟩ : ∃ x, x = vals 3 := ⟨_, rfl⟩
        obtain ⟨x4, hx4⟩ : ∃ x, x = vals 4 := ⟨_, rfl⟩
        rw [← hx0, ← hx1, ← hx2, ← hx3, ← hx4]
        clear hx0 hx1 hx2 hx3 hx4
        obtain ⟨g, hgg⟩ : ∃ g, g = wv.heap.size := ⟨_, rfl⟩
        obtain ⟨Ws, hWs⟩ : ∃ Ws, Ws = (wv.alloc (.cells #[.int .u32 (tg : Int), .slice none 0 0] 25 (0, 0))).alloc (.cells #[.slice p12 n12 c12] 29 (0, 0)) := ⟨_, rfl⟩
        rw [← hWs]
        have hrow1 : RowV Ws g 25 [.int .u32 (tg : Int), .slice none 0 0] := by rw [hWs, hgg]; exact (RowV.new wv _ _).alloc _
        have HBOX := hid (show RowV Ws (g + 1) 29 [.slice p12 n12 c12] by
          have := RowV.new (wv.alloc (.cells #[.int .u32 (tg : Int), .slice none 0 0] 25 (0, 0))) 29 [.slice p12 n12 c12]
          rw [World.size_alloc, ← hWs, ← hgg] at this
          exact this)
        have hgr : Below wv.heap.size wv Ws := by rw [hWs]; exact ((Below.refl _ _).alloc (Nat.le_refl _) _).alloc (by simp) _
        have GS := hid (gr_trans G2.out hgr)
        have HPS := hid (HP2.out.mono hgr)
        have HES := hid (HEr2.out.mono hgr)
        have hsz : Ws.heap.size = g + 2 := by rw [hWs, hgg]; simp
        have hgw : w.heap.size + 2 ≤ g := by rw [hgg]; exact HSV.out
        have HSQ := hid (chunks1_seq (g + 1) w Ws (b.drop 12) (.slice p12 n12 c12) (by have := HL12.out; omega) HC12.out GS.out HBOX.out (by omega))
        rw [← hgg]
        clear hWs hgr hgg HP2 HEr2 G2 HV3 HSV
        refine wp_range (gf := 60) (lb := #[.pointer (some ⟨g + 1, 0, none⟩)]) rfl (enters_of Try.func60 (by kernel_rfl) rfl) HSQ.out (fun _ => rfl) (by omega) (by omega)
          (fun (pre : List ChkIt) W => ∃ v, RowV W g 25 [.int .u32 (tg : Int), v] ∧ ChunksOwnS (g + 2) 41 5 W v (pre.map (·.1)) (pre.map thirdOf) ∧ RowV W w.heap.size 25 [.int .u32 0, .slice none 0 0] ∧ RowV W (w.heap.size + 1) 37 [.int .i64 0] ∧ (∀ x ∈ pre, x.2.2 = 0) ∧ pre.Pairwise (fun y x => AscV (thirdOf y) (thirdOf x)) ∧ Below w.heap.size w W)
          (fun (_ : List ChkIt) W => RowV W w.heap.size 25 [.int .u32 0, .slice none 0 0] ∧ RowV W (w.heap.size + 1) 37 [.int .i64 7] ∧ Below w.heap.size w W ∧ (chunksOf (b.drop 12)).2 = false)
          ?hI ?hIx ⟨_, hrow1, ChunksOwnS.nil _ _ _ _, HPS.out, HES.out, fun x hx => absurd hx (by simp), List.Pairwise.nil, GS.out⟩
          (fun q W => ∃ ps ns cps Bx, q.2.1.2.1 = .agg #[.int .u8 (q.2.1.1.k.toNat : Int), .int .u8 (q.2.1.1.f.toNat : Int), .slice ps ns cps] ∧ Go.FL.Own W (g + 2) 5 (.slice ps ns cps) q.2.1.1.b ∧ RowV W Bx 41 [.int .u8 (q.2.1.1.k.toNat : Int), .int .u8 (q.2.1.1.f.toNat : Int), .slice ps ns cps] ∧ g + 2 ≤ Bx ∧ q.1.length < (b.drop 12).length ∧ (∀ y ∈ q.1, AscV (thirdOf y) (thirdOf q.2.1)) ∧ (q.2.1.2.2 = 0 ∨ (q.2.1.2.2 = 7 ∧ (chunksOf (b.drop 12)).2 = false)) ∧ q.2.2 = { tmps := #[.slice p n c, undef, .pointer (some ⟨w.heap.size, 0, none⟩), .pointer (some ⟨w.heap.size + 1, 0, none⟩), .int .u64 (fr : Int), .int .i64 0, .int .u64 (to : Int), .int .i64 0, .int .u64 (tg : Int), .int .i64 0, .pointer (some ⟨g, 0, none⟩), .pointer (some ⟨Bx, 0, none⟩), .int .i64 q.2.1.2.2, .slice p n c, .int .i64 (n : Int), .bool false, undef, x0, x1, x2, x3, x4, .bool false, undef, .tuple #[.int .u64 (fr : Int), .int .i64 0], .slice p n c, .tuple #[.int .u64 (fr : Int), .int .i64 0], .int .u64 (fr : Int), .int .i64 0, .tuple #[.int .u64 (to : Int), .int .i64 0], .slice p n c, .tuple #[.int .u64 (to : Int), .int .i64 0], .int .u64 (to : Int), .int .i64 0, .tuple #[.int .u64 (tg : Int), .int .i64 0], .slice p n c, .tuple #[.int .u64 (tg : Int), .int .i64 0], .int .u64 (tg : Int), .int .i64 0, .int .u64 (tg : Int), .int .u32 (tg : Int), .agg #[.int .u32 (tg : Int), .slice none 0 0], .slice p n c, .slice p12 n12 c12, .func (.func 60) #[] #[.pointer (some ⟨g + 1, 0, none⟩)], q.2.1.2.1, .int .i64 q.2.1.2.2, undef, undef, undef, undef, undef, undef, undef, undef, undef, undef, undef, undef, undef, undef, undef, undef, undef, undef, undef, undef, undef, undef, undef, undef], defers := [] })
          ?hAx ?hassign ?hbody ?hdone ?hstop
        case hI =>
          rintro s A A' r ⟨v, h1, h2, h3, h4, h5, hpw, h6⟩ hg hr
          exact ⟨v, row_turn h1 hg hr (by omega), h2.hold (hold_turn hg hr (by omega)), row_turn h3 hg hr (by omega), row_turn h4 hg hr (by omega), h5, hpw, h6.grown hg h6.size (fun k e => by simp at e; subst e; rcases hr with rfl | ⟨hr, -⟩ <;> omega)⟩
        case hIx =>
          rintro s A A' r ⟨h3, h4, h6, h7⟩ hg hr
          exact ⟨row_turn h3 hg hr (by omega), row_turn h4 hg hr (by omega), h6.grown hg h6.size (fun k e => by simp at e; subst e; rcases hr with rfl | ⟨hr, -⟩ <;> omega), h7⟩
        case hAx =>
          rintro s A A' r ⟨ps, ns, cps, Bx, h1, h2, h3, h4, h5⟩ hg hr
          exact ⟨ps, ns, cps, Bx, h1, h2.hold (hold_turn hg hr (by omega)), row_turn h3 hg hr (by omega), h4, h5⟩
        case hassign =>
          rintro lab pre ⟨⟨kk, ff, bb⟩, v, e⟩ W K hsw hi ⟨hpl, hasc, ⟨s, hv, ho⟩, he⟩ hK
          simp only at ho hK he hv
          subst hv
          have HAS := hid hasc
          clear hasc
          obtain ⟨ps, ns, cps, rfl⟩ : ∃ a b c, s = Value.slice a b c := (let ⟨a, c, h⟩ := RdF.form ho.rd; ⟨a, _, c, h⟩)
          have HO := hid (ho.alloc (.cells #[.int .u8 (kk.toNat : Int), .int .u8 (ff.toNat : Int), .slice ps ns cps] 41 (0, 0)))
          have HRN := hid (RowV.new W 41 [.int .u8 (kk.toNat : Int), .int .u8 (ff.toNat : Int), .slice ps ns cps])
          have HI := hid hi
          have HK := hid hK
          have HG := hid (show Below W.heap.size W (W.alloc (.cells #[.int .u8 (kk.toNat : Int), .int .u8 (ff.toNat : Int), .slice ps ns cps] 41 (0, 0))) from (Below.refl _ _).alloc (Nat.le_refl _) _)
          clear hi hK ho
          simp only [ChkIt.encs, List.zip_toArray, List.zip_cons_cons, List.zip_nil_right, List.foldl_toArray, List.foldl_cons, List.foldl_nil, List.setIfInBounds_toArray, List.set_cons_zero, List.set_cons_succ]
          gi_wp2
          refine HK.out _ _ ?_ HG.out ?_
          · obtain ⟨v, h1, h2, h3, h4, h5, hpw, h6⟩ := HI.out
            exact ⟨v, h1.alloc _, h2.mono HG.out, h3.alloc _, h4.alloc _, h5, hpw, gr_trans h6 HG.out⟩
          · exact ⟨ps, ns, cps, W.heap.size, rfl, HO.out.base (by omega), HRN.out, by omega, hpl, HAS.out, he, rfl⟩
        case hbody =>
          rintro lab pre ⟨⟨kk, ff, bb⟩, v, e⟩ a' W hsw ⟨u, h1, ⟨q1, q2, q3⟩, h3, h4, h5, hpw, h6⟩ ⟨ps, ns, cps, Bx, hv, ho, hx, hbx, hpl, hasc, he, ha⟩
          simp only at hv ho hx hpl he ha
          subst hv ha
          have HPW := hid hpw
          have HAS := hid hasc
          clear hpw hasc
          obtain ⟨ss, hss⟩ : ∃ ss, ss = pre.map thirdOf := ⟨_, rfl⟩
          rw [← hss] at q1 q2 q3
          have HSS := hid hss
          clear hss
          by_cases h0 : e = 0
          · subst h0
            have hml : (pre.map (·.1)).length ≤ 1000000000000 := by rw [List.length_map]; have := HL12.out; omega
            obtain ⟨cs, hcs⟩ : ∃ cs, cs = pre.map (·.1) := ⟨_, rfl⟩
            rw [← hcs] at q1 q2 q3 hml
            have HCS := hid hcs
            clear hcs
            obtain ⟨up, uc, rfl⟩ := q2.form
            have g1 := h1.at 1 (by simp)
            simp only [List.getElem_cons_succ, List.getElem_cons_zero] at g1
            have b0 := hx.at 0 (by simp)
            have b1 := hx.at 1 (by simp)
            have b2 := hx.at 2 (by simp)
            simp only [List.getElem_cons_succ, List.getElem_cons_zero] at b0 b1 b2
            obtain ⟨W1, hW1⟩ : ∃ W1, W1 = W.alloc (.cells #[.int .u8 (kk.toNat : Int), .int .u8 (ff.toNat : Int), .slice ps ns cps] 41 (0, 0)) := ⟨_, rfl⟩
            have GW := hid (show Below W.heap.size W W1 by rw [hW1]; exact (Below.refl _ _).alloc (Nat.le_refl _) _)
            have HK1 := hid (show KeepsOthers W W1 by rw [hW1]; exact KeepsOthers.alloc _ _)
            have HQ2 := hid (q2.mono GW.out)
            have HQ3 := hid (show ∀ i (_ : i < cs.length) (_ : i < ss.length), Go.FL.Own W1 (g + 2) 5 ss[i] cs[i].b from fun i x y => (q3 i x y).mono GW.out)
            have HO1 := hid (ho.mono GW.out)
            have HNW := hid (show RdK W1 3 (.slice (some ⟨W.heap.size, 0, none⟩) 1 1) 1 (chkCell ⟨kk, ff, bb⟩ (.slice ps ns cps)) by rw [hW1]; exact rdK_new W 41 3 1 _ _ rfl rfl (by unfold maxLen; omega))
            have H1 := hid (h1.mono GW.out)
            have H3 := hid (h3.mono GW.out)
            have H4 := hid (h4.mono GW.out)
            have H6 := hid (gr_trans h6 GW.out)
            have HZ := hid (show Ws.heap.size + 2 ≤ W1.heap.size from Nat.le_trans hsw GW.out.size)
            have H5 := hid h5
            have HQ1 := hid q1
            have HWE := hid hW1
            have HW6 := hid h6.size
            have HB6 := hid h6
            clear q1 q2 q3 ho h1 h3 h4 h6 h5 hx hW1
            gi_wp2_with (gi_at_builtin; rw [← HWE.out]; refine wpListIn_append_OwnK rfl (.tmp 52) (.tmp 54) 23 rfl (g + 2) 41 (.agg #[.int .u8 0, .int .u8 0, .slice none 0 0]) 3 32 rfl (by decide) Try.underlying23 infoChkP _ _ _ 1 _ _ ?h1m rfl HQ2.out rfl HNW.out ?hlen ?hlen2 ?hbase ?_)
            case h1m =>
              intro x hx
              simp only [chkCell, List.mem_cons, List.not_mem_nil, or_false] at hx
              rcases hx with rfl | rfl | rfl <;> rfl
            case hlen => omega
            case hlen2 => omega
            case hbase => have := HZ.out; omega
            intro v' w2 hn hg
            have HSN := hid (ChunksOwnS.snoc (show (41 : Nat) ≠ 5 by decide) HQ1.out HQ2.out HQ3.out HO1.out hg hn)
            obtain ⟨vp, vc, rfl⟩ := hn.form
            have hge : ∀ k, (Value.slice up cs.length uc).ownBlock = some k → g + 2 ≤ k := HQ2.out.ge
            have R1 := H1.out.grown hg (fun e => by have := hge _ e; omega)
            have R3 := hid (H3.out.grown hg (fun e => by have := hge _ e; omega))
            have R4 := hid (H4.out.grown hg (fun e => by have := hge _ e; omega))
            have KO := hid (KeepsOthers.of_grownBy hg (fun j o hj ho => HQ2.out.cells j o hj ho))
            have GB := hid (show Below w.heap.size W w2 from (GW.out.mono HW6.out).grown hg (Nat.le_trans HW6.out GW.out.size) (fun k e => by have := hge _ e; omega))
            have HB1 := hid (show w2.heap[g + 1]? = W.heap[g + 1]? from (hg.block (g + 1) (by have := HZ.out; omega) (fun e => by have := hge _ e.symm; omega)).trans (GW.out.block (g + 1) (by omega)))
            have c1 := R1.at 1 (by simp)
            simp only [List.getElem_cons_succ, List.getElem_cons_zero] at c1
            have f1 := R1.frozen 1
            have HR1 := hid R1
            clear R1 hg hn hge g1
            gi_wp2
            (try simp only [Exit.inBlock, Exit.then])
            refine ⟨((HK1.out.trans KO.out).trans (KeepsOthers.setCell _ _ _)).from _, ⟨GB.out.setCell (p := ⟨g, 1, none⟩) (by simp; omega) _, (Below.heap_setCell _ _ _ _ (by simp)).trans HB1.out⟩, ?_⟩
            refine ⟨_, HR1.out.store 1 _, ?_, R3.out.other _ _ (by simp; omega), R4.out.other _ _ (by simp; omega), ?_, ?_, ?_⟩
            · rw [List.map_append, List.map_append, ← HCS.out, ← HSS.out]
              refine HSN.out.hold fun k o hk ho _ => (Below.heap_setCell _ _ _ _ (by simp; omega)).trans ho
            · intro x hx
              simp only [List.mem_append, List.mem_singleton] at hx
              rcases hx with hx | rfl
              · exact H5.out x hx
              · rfl
            · refine List.pairwise_append.2 ⟨HPW.out, List.pairwise_singleton _ _, fun y hy x hx => ?_⟩
              simp only [List.mem_singleton] at hx
              subst hx
              exact HAS.out y hy
            · refine (show Below w.heap.size w w2 from ?_).setCell (p := ⟨g, 1, none⟩) (by simp; omega) _
              exact (show Below w.heap.size w W from HB6.out).trans GB.out
          · rcases he with he | ⟨rfl, hF⟩
            · exact absurd he h0
            have HF := hid hF
            clear hF
            have HPX := hid h3
            have HEX := hid h4
            have p0 := HPX.out.at 0 (by simp)
            have p1 := HPX.out.at 1 (by simp)
            simp only [List.getElem_cons_succ, List.getElem_cons_zero] at p0 p1
            have p2 := HPX.out.frozen 0
            have p3 := HPX.out.frozen 1
            have e0 := HEX.out.at 0 (by simp)
            simp only [List.getElem_cons_zero] at e0
            have e2 := HEX.out.frozen 0
            clear h3 h4 h1 q1 q2 q3 h5 ho hx
            gi_wp2
            (try simp only [Exit.inBlock, Exit.then])
            refine ⟨(((KeepsOthers.setCell _ _ _).trans (KeepsOthers.setCell _ _ _)).trans (KeepsOthers.setCell _ _ _)).from _, ?_, ?_, ((h6.setCell (p := ⟨w.heap.size, 0, none⟩) (Nat.le_refl _) _).setCell (p := ⟨w.heap.size, 1, none⟩) (Nat.le_refl _) _).setCell (p := ⟨w.heap.size + 1, 0, none⟩) (by simp) _, HF.out⟩
            · have hq := ((HPX.out.store 0 (.int .u32 0)).store 1 (.slice none 0 0)).other ⟨w.heap.size + 1, 0, none⟩ (.int .i64 7) (by simp)
              simpa using hq
            · exact ((HEX.out.other ⟨w.heap.size, 0, none⟩ (.int .u32 0) (by simp)).other ⟨w.heap.size, 1, none⟩ (.slice none 0 0) (by simp)).store 0 (.int .i64 7)
        case hdone =>
          rintro D xs W hD hS ⟨u, h1, h2, h3, h4, h5, hpw, h6⟩ hK
          have hS2 : (chunksOf (b.drop 12)).1 = xs.map (·.1) ∧ (chunksOf (b.drop 12)).2 = true := by
            rcases hS with ⟨x, hx, hne⟩ | hh
            · exact absurd (h5 x hx) hne
            · exact hh
          obtain ⟨cs, hcs⟩ : ∃ cs, cs = xs.map (·.1) := ⟨_, rfl⟩
          rw [← hcs] at h2 hS2
          obtain ⟨up, uc, rfl⟩ : ∃ up uc, u = .slice up cs.length uc := by
            exact h2.2.1.form
          have HRQ := hid (show readP b = if (fr = 5000 ∧ to = 5000) ∧ mayB cs = true then (⟨tg, cs⟩, 0) else (.zero, 7) by
            rw [readP, if_neg (by have := HLE.out; omega), if_pos HS2.out, hS2.1, hS2.2, ← HFR.out, ← HTO.out, ← HTG.out]
            simp)
          obtain ⟨ma, hma⟩ : ∃ m, m = mayB cs := ⟨_, rfl⟩
          have HMA := hid hma
          have HPX := hid h3
          have HEX := hid h4
          have H1 := hid h1
          have H2 := hid h2
          have H6 := hid h6
          have HK := hid hK
          have HPW := hid (List.pairwise_map.2 hpw)
          clear h3 h4 h1 h2 h6 hK h5 hS hS2 hcs hma hpw
          by_cases hfr : fr = 5000
          · by_cases hto : to = 5000
            · have e1 : (fr : Int) = 5000 := by omega
              have e2 : (to : Int) = 5000 := by omega
              have g1 := H1.out.at 1 (by simp)
              simp only [List.getElem_cons_succ, List.getElem_cons_zero] at g1
              go_wp2_with fail
              refine (may_any cs _ _ H2.out.own.at).mono ?_
              rw [← HMA.out]
              rintro e w1 ⟨rfl, hb1⟩
              have HPY := hid (HPX.out.mono hb1)
              have HEY := hid (HEX.out.mono hb1)
              have HK1 := hid (show w1.heap[D]? = _ from (hb1.block D (Array.getElem?_eq_some_iff.1 HK.out).1).trans HK.out)
              have H1Y := hid (H1.out.mono hb1)
              have H2Y := hid (H2.out.mono hb1)
              have H6Y := hid (gr_trans H6.out hb1)
              clear hb1 g1
              have p0 := HPY.out.at 0 (by simp)
              have p1 := HPY.out.at 1 (by simp)
              simp only [List.getElem_cons_succ, List.getElem_cons_zero] at p0 p1
              have p2 := HPY.out.frozen 0
              have p3 := HPY.out.frozen 1
              have e0 := HEY.out.at 0 (by simp)
              simp only [List.getElem_cons_zero] at e0
              have e2 := HEY.out.frozen 0
              cases ma
              · have HRD := hid (show readP b = (.zero, 7) by rw [HRQ.out, if_neg (by rw [← HMA.out]; simp)])
                go_wp2_with fail
                refine pread_end (g := w.heap.size) (n := w.heap.size + 1) (.int .u32 0) (.slice none 0 0) 7 rfl rfl ?_ ?_ ?_ ?_
                · have hq := ((HPY.out.store 0 (.int .u32 0)).store 1 (.slice none 0 0)).other ⟨w.heap.size + 1, 0, none⟩ (.int .i64 7) (by simp)
                  simpa using hq
                · exact ((HEY.out.other ⟨w.heap.size, 0, none⟩ (.int .u32 0) (by simp)).other ⟨w.heap.size, 1, none⟩ (.slice none 0 0) (by simp)).store 0 (.int .i64 7)
                · exact (((KeepsOthers.setCell _ _ _).trans (KeepsOthers.setCell _ _ _)).trans (KeepsOthers.setCell _ _ _)).same D _ HK1.out rfl
                · rw [HRD.out]
                  exact ⟨_, rfl, PktOwnA.zero _ _ _ _, (((H6Y.out.setCell (p := ⟨w.heap.size, 0, none⟩) (Nat.le_refl _) _).setCell (p := ⟨w.heap.size, 1, none⟩) (Nat.le_refl _) _).setCell (p := ⟨w.heap.size + 1, 0, none⟩) (by simp) _).grown (grownBy_putObj' _ D _) (by simp [World.setCell]; exact H6Y.out.size) (fun k e => by simp at e; omega)⟩
              · have HRD := hid (show readP b = (⟨tg, cs⟩, 0) by rw [HRQ.out, if_pos ⟨⟨hfr, hto⟩, HMA.out.symm⟩])
                have g0 := H1Y.out.at 0 (by simp)
                have g1 := H1Y.out.at 1 (by simp)
                simp only [List.getElem_cons_succ, List.getElem_cons_zero] at g0 g1
                go_wp2_with fail
                refine pread_end (g := w.heap.size) (n := w.heap.size + 1) (.int .u32 (tg : Int)) (.slice up cs.length uc) 0 rfl rfl ?_ ?_ ?_ ?_
                · have hq := ((HPY.out.store 0 (.int .u32 (tg : Int))).store 1 (.slice up cs.length uc)).other ⟨w.heap.size + 1, 0, none⟩ (.int .i64 0) (by simp)
                  simpa using hq
                · exact ((HEY.out.other ⟨w.heap.size, 0, none⟩ (.int .u32 (tg : Int)) (by simp)).other ⟨w.heap.size, 1, none⟩ (.slice up cs.length uc) (by simp)).store 0 (.int .i64 0)
                · exact (((KeepsOthers.setCell _ _ _).trans (KeepsOthers.setCell _ _ _)).trans (KeepsOthers.setCell _ _ _)).same D _ HK1.out rfl
                · rw [HRD.out]
                  refine ⟨_, rfl, ⟨_, _, rfl, (H2Y.out.hold ?_).base (by omega), HPW.out, HTL.out⟩, (((H6Y.out.setCell (p := ⟨w.heap.size, 0, none⟩) (Nat.le_refl _) _).setCell (p := ⟨w.heap.size, 1, none⟩) (Nat.le_refl _) _).setCell (p := ⟨w.heap.size + 1, 0, none⟩) (by simp) _).grown (grownBy_putObj' _ D _) (by simp [World.setCell]; exact H6Y.out.size) (fun k e => by simp at e; omega)⟩
                  intro k o hk ho hc
                  have hD2 : k ≠ D := by
                    rintro rfl
                    rw [HK1.out] at ho
                    injection ho with ho
                    subst ho
                    simp [Obj.isCells] at hc
                  exact (World.putObj_heap_other hD2).trans ((Below.heap_setCell _ _ _ _ (by simp; omega)).trans ((Below.heap_setCell _ _ _ _ (by simp; omega)).trans ((Below.heap_setCell _ _ _ _ (by simp; omega)).trans ho)))
            · have HRD := hid (show readP b = (.zero, 7) by rw [HRQ.out, if_neg (by rintro ⟨⟨-, h⟩, -⟩; exact hto h)])
              have e1 : (fr : Int) = 5000 := by omega
              have e2 : ¬ (to : Int) = 5000 := by omega
              have p0 := HPX.out.at 0 (by simp)
              have p1 := HPX.out.at 1 (by simp)
              simp only [List.getElem_cons_succ, List.getElem_cons_zero] at p0 p1
              have p2 := HPX.out.frozen 0
              have p3 := HPX.out.frozen 1
              have e0 := HEX.out.at 0 (by simp)
              simp only [List.getElem_cons_zero] at e0
              have e2 := HEX.out.frozen 0
              go_wp2_with fail
              refine pread_end (g := w.heap.size) (n := w.heap.size + 1) (.int .u32 0) (.slice none 0 0) 7 rfl rfl ?_ ?_ ?_ ?_
              · have hq := ((HPX.out.store 0 (.int .u32 0)).store 1 (.slice none 0 0)).other ⟨w.heap.size + 1, 0, none⟩ (.int .i64 7) (by simp)
                simpa using hq
              · exact ((HEX.out.other ⟨w.heap.size, 0, none⟩ (.int .u32 0) (by simp)).other ⟨w.heap.size, 1, none⟩ (.slice none 0 0) (by simp)).store 0 (.int .i64 7)
              · exact (((KeepsOthers.setCell _ _ _).trans (KeepsOthers.setCell _ _ _)).trans (KeepsOthers.setCell _ _ _)).same D _ HK.out rfl
              · rw [HRD.out]
                exact ⟨_, rfl, PktOwnA.zero _ _ _ _, (((H6.out.setCell (p := ⟨w.heap.size, 0, none⟩) (Nat.le_refl _) _).setCell (p := ⟨w.heap.size, 1, none⟩) (Nat.le_refl _) _).setCell (p := ⟨w.heap.size + 1, 0, none⟩) (by simp) _).grown (grownBy_putObj' _ D _) (by simp [World.setCell]; exact H6.out.size) (fun k e => by simp at e; omega)⟩
          · have HRD := hid (show readP b = (.zero, 7) by rw [HRQ.out, if_neg (by rintro ⟨⟨h, -⟩, -⟩; exact hfr h)])
            have e1 : ¬ (fr : Int) = 5000 := by omega
            have p0 := HPX.out.at 0 (by simp)
            have p1 := HPX.out.at 1 (by simp)
            simp only [List.getElem_cons_succ, List.getElem_cons_zero] at p0 p1
            have p2 := HPX.out.frozen 0
            have p3 := HPX.out.frozen 1
            have e0 := HEX.out.at 0 (by simp)
            simp only [List.getElem_cons_zero] at e0
            have e2 := HEX.out.frozen 0
            go_wp2_with fail
            refine pread_end (g := w.heap.size) (n := w.heap.size + 1) (.int .u32 0) (.slice none 0 0) 7 rfl rfl ?_ ?_ ?_ ?_
            · have hq := ((HPX.out.store 0 (.int .u32 0)).store 1 (.slice none 0 0)).other ⟨w.heap.size + 1, 0, none⟩ (.int .i64 7) (by simp)
              simpa using hq
            · exact ((HEX.out.other ⟨w.heap.size, 0, none⟩ (.int .u32 0) (by simp)).other ⟨w.heap.size, 1, none⟩ (.slice none 0 0) (by simp)).store 0 (.int .i64 7)
            · exact (((KeepsOthers.setCell _ _ _).trans (KeepsOthers.setCell _ _ _)).trans (KeepsOthers.setCell _ _ _)).same D _ HK.out rfl
            · rw [HRD.out]
              exact ⟨_, rfl, PktOwnA.zero _ _ _ _, (((H6.out.setCell (p := ⟨w.heap.size, 0, none⟩) (Nat.le_refl _) _).setCell (p := ⟨w.heap.size, 1, none⟩) (Nat.le_refl _) _).setCell (p := ⟨w.heap.size + 1, 0, none⟩) (by simp) _).grown (grownBy_putObj' _ D _) (by simp [World.setCell]; exact H6.out.size) (fun k e => by simp at e; omega)⟩
        case hstop =>
          rintro D pre W hD ⟨h3, h4, h6, h7⟩ hK
          have HRD := hid (show readP b = (.zero, 7) by rw [readP, if_neg (by have := HLE.out; omega), if_pos HS2.out, if_neg (by rw [h7]; simp)])
          go_wp2_with fail
          refine pread_end (g := w.heap.size) (n := w.heap.size + 1) (.int .u32 0) (.slice none 0 0) 7 rfl rfl h3 h4 hK ?_
          rw [HRD.out]
          exact ⟨_, rfl, PktOwnA.zero _ _ _ _, h6.grown (grownBy_putObj' _ D _) h6.size (fun k e => by simp at e; omega)⟩
theorem pread_any (v : Value) (b : List UInt8) (w : World) (h : Rd w v b) (hl : b.length ≤ 1000000000000) :
    Calls Try.prog 22 #[v] w (TellsPkt w 41 5 (readP b)) :=
  (pread_all v b w h hl).mono fun e w' ⟨u, h1, h2, h3⟩ => ⟨u, h1, h2.own, h3⟩
end Go.Proofs.Ytahpklciafpdaaa

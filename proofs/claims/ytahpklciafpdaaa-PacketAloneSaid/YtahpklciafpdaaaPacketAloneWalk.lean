/- PacketAlone: the walk of the law. Conditions: none but what the row reads. -/
import Derived.Test.YtahpklciafpdaaaPacketShortWalk
import Derived.Test.YtahpklciafpdaaaPktAloneM
import Derived.Test.YtahpklciafpdaaaPktFits
import Derived.Deep.CutRange
set_option linter.unusedSimpArgs false
set_option linter.unusedVariables false
namespace Go.FL
open Go.RowKit
def JRow (g eC eB B : Nat) (l sp : List Value) (c : Chk) : Nat → World → Prop
  | 0, w => RowV w g eC (l ++ sp)
  | _, w => ∃ s, RowV w g eC (l ++ chkCell c s ++ sp.drop 3) ∧ Own w B eB s c.b
theorem JRow.st (g eC eB B : Nat) (l sp : List Value) (c : Chk) : ∀ k a b, JRow g eC eB B l sp c k a → GrR a b → JRow g eC eB B l sp c k b
  | 0, _, _, h, k => RowV.mono h k
  | _ + 1, _, _, ⟨s, h1, h2⟩, k => ⟨s, h1.mono k, h2.mono k⟩
theorem own_zeros (w : World) (B e n : Nat) (h : B ≤ w.heap.size) (hn : n ≤ 1000000 := by omega) : Own (w.alloc (.cells (bytesV (List.replicate n 0)).toArray e (0, 0))) B e (.slice (some ⟨w.heap.size, 0, none⟩) n n) (List.replicate n 0) :=
  .inr ⟨w.heap.size, [], h, by simp, by simpa using Row.new w e (List.replicate n 0), by unfold maxLen; simp; omega⟩
theorem may_more (kinds : List UInt8) (n : Nat) (k : UInt8) : mayB (kChks kinds n ++ [⟨k, 0, []⟩]) = (decide (alones (kChks kinds n) + (if aloneB k = true then 1 else 0) = 0) || decide (n = 0)) := by
  rw [may_alones _ (fun c hc => by
    rcases List.mem_append.1 hc with h | h
    · have := kChks_short kinds n c h
      omega
    · simp at h
      subst h
      simp), alones_snoc, List.length_append, kChks_length]
  simp
theorem fits_more (kinds : List UInt8) (n : Nat) (hn : n ≤ 100) (k : UInt8) : fitsB ⟨1, kChks kinds n⟩ ⟨k, 0, []⟩ 1048576 = mayB (kChks kinds n ++ [⟨k, 0, []⟩]) := by
  have h1 := sizes_short _ (kChks_short kinds n)
  rw [kChks_length] at h1
  unfold fitsB
  rw [decide_eq_true, Bool.and_true]
  have h2 : sizeC ⟨k, 0, []⟩ = 4 := by simp [sizeC, roundN]
  rw [h2, Pkt.size]
  show ((12 + sizesN (kChks kinds n) + 4 : Nat) : Int) ≤ 1048576
  omega
end Go.FL
namespace Go.Proofs.Ytahpklciafpdaaa
open Go.RowKit Go.FL Go.ChangeShapes

abbrev jr (g B : Nat) (l sp : List Value) (c : Chk) : Nat → World → Prop := JRow g 41 5 B l sp c
set_option maxRecDepth 100000 in
set_option maxHeartbeats 8000000 in
theorem packetAlone_walk {w : World} {v : Value} (kinds : List UInt8) (hv : Rd w v kinds) (m0 : Int) (hm0 : (Lit.int .u8 m0).wf = true) :
    Calls Try.prog 10 #[v, .int .u8 m0] w fun e w' => e = .returned (.bool true) ∧ Below w.heap.size w w' := by
  obtain ⟨mo, rfl⟩ := u8_of m0 hm0
  clear hm0
  have hmb := byte_lt mo
  obtain ⟨pk, ck, rfl, hlc, hcm, hpn, hcell⟩ := hv
  unfold maxLen at hcm
  have HCELL := hid hcell
  obtain ⟨n, hn⟩ : ∃ n, n = kinds.length := ⟨_, rfl⟩
  have HN := hid hn
  rw [← hn] at hlc ⊢
  clear hcell hpn hn
  by_cases hbig : 100 < n
  · have e1 : (100 : Int) < (n : Int) := by omega
    go_enter Try.func10, Try.ntmps10
    go_wp2_with fail
    refine (works_any _).mono ?_
    rintro e wz ⟨rfl, hbz⟩
    go_wp2_with fail
    go_ret
    exact ⟨rfl, hbz⟩
  · have e1 : ¬ (100 : Int) < (n : Int) := by omega
    obtain ⟨W1, hW1⟩ : ∃ W1, W1 = w.alloc (.cells #[.int .u32 1, .slice none 0 0] 25 (0, 0)) := ⟨_, rfl⟩
    have HR1 := hid (show RowV W1 w.heap.size 25 [.int .u32 1, .slice none 0 0] by rw [hW1]; exact RowV.new w _ _)
    have HB1 := hid (show Below w.heap.size w W1 by rw [hW1]; exact (Below.refl _ _).alloc (Nat.le_refl _) _)
    have HE1 := hid hW1
    clear hW1
    go_enter Try.func10, Try.ntmps10
    go_wp2_with fail
    rw [← HE1.out]
    go_loopw [6, 7] (fun y6 y7 wr => ∃ (i : Nat), i ≤ n ∧ y6 = .int .i64 (alones (kChks kinds i) : Int) ∧ y7 = .int .i64 (i : Int) ∧ ∃ (v : Value) (ss : List Value), Hid (RowV wr w.heap.size 25 [.int .u32 1, v]) ∧ Hid (ChunksOwnS (w.heap.size + 1) 41 5 wr v (kChks kinds i) ss) ∧ Hid (Below w.heap.size w wr)) (fun _ y7 _ => n - (intOf y7).toNat)
    case atStart => exact ⟨0, Nat.zero_le _, rfl, rfl, _, [], HR1, hid (ChunksOwnS.nil _ _ _ _), HB1⟩
    case round =>
      obtain ⟨i, hi, rfl, rfl, v, ss, HRW, HCW, HB⟩ := hrel
      by_cases hlt : i < n
      · obtain ⟨hsl, hok, hbd⟩ := HCW.out
        rw [kChks_length] at hok
        obtain ⟨cs, hcs⟩ : ∃ l, l = kChks kinds i := ⟨_, rfl⟩
        rw [← hcs] at hsl hok hbd ⊢
        have HCS := hid hcs
        have HSL := hid hsl
        have HBD := hid hbd
        have HOK := hid hok
        have HCSL := hid (show cs.length = i by rw [hcs, kChks_length])
        obtain ⟨px, cx, rfl⟩ := hok.form
        obtain ⟨bk, ofk, rfl, hkc⟩ := HCELL.out i (by rw [← HN.out]; exact hlt)
        obtain ⟨kd, hkd⟩ : ∃ k, k = kinds[i]'(by rw [← HN.out]; exact hlt) := ⟨_, rfl⟩
        rw [← hkd] at hkc
        have HKCW := hid hkc
        have HKC := hid (cell?_of_below HB.out hkc)
        have hbk : bk < w.heap.size := World.block_lt_of_cell? w _ hkc
        obtain ⟨r, hr⟩ : ∃ r, r = i % 9 := ⟨_, rfl⟩
        have hr9 : r < 9 := by omega
        have HCK := hid (show kChk kinds i = ⟨kd, 0, List.replicate r 0⟩ by
          unfold kChk
          rw [← hr, hkd]
          simp only [List.getD_eq_getElem?_getD, List.getElem?_eq_getElem (show i < kinds.length by rw [← HN.out]; exact hlt), Option.getD_some])
        have HR9 := hid (show (i : Int).tmod 9 = (r : Int) by rw [Int.tmod_eq_emod_of_nonneg (by omega), hr]; rfl)
        have HR9b := hid (show (i : Int) % 9 = (r : Int) by rw [hr]; rfl)
        have HR9a := hid (show IntKind.i64.wrap (r : Int) = (r : Int) by rw [IntKind.wrap_i64]; omega)
        have HR48 := hid (show r ≤ 281474976710656 by omega)
        have HP1 := hid (HRW.out.at 1 (by simp))
        simp only [List.getElem_cons_succ, List.getElem_cons_zero] at HP1
        have I0 := hid (show (0 : Int) ≤ (i : Int) by omega)
        have I1 := hid (show (i : Int) < (n : Int) by omega)
        have I2 := hid (show ((i : Int)).toNat = i by omega)
        have HLL := hid hok.1
        have HLN := hid (show (i + 1) * 32 ≤ 140737488355328 by omega)
        have HLN2 := hid (show i + 1 ≤ 140737488355328 by omega)
        have HSZ := hid (show w.heap.size + 1 ≤ wr.heap.size from HRW.out.lt)
        obtain ⟨al, hal⟩ : ∃ a, a = alones cs := ⟨_, rfl⟩
        have hal100 : al ≤ 100 := by
          have := alones_le cs
          rw [HCSL.out, ← hal] at this
          omega
        have HALS := hid (show alones (kChks kinds (i + 1)) = al + if aloneB kd = true then 1 else 0 by
          rw [kChks_succ, alones_snoc, ← hcs, ← hal, HCK.out])
        rw [← hal]
        have hwa : IntKind.i64.wrap ((al : Int) + 1) = (al : Int) + 1 := by rw [IntKind.wrap_i64]; omega
        have i0 := I0.out
        have i1 := I1.out
        have i2 := I2.out
        have hkdb := byte_lt kd
        have hcase : (∃ g mm sp, px = some ⟨g, 0, none⟩ ∧ cx = i + mm ∧ 1 ≤ mm ∧ w.heap.size + 1 ≤ g ∧ List.length sp = mm * 3 ∧ RowV wr g 41 ((chkCells cs ss) ++ sp) ∧ i + mm ≤ maxLen) ∨ (∀ g mm, (Value.slice px i cx) = .slice (some ⟨g, 0, none⟩) i (i + mm) → mm < 1) := by
          obtain ⟨h0, ⟨e, e2⟩ | ⟨g, m, sp, h1', e, h2', hr', hm'⟩⟩ := hok
          · refine .inr (fun g mm h => ?_)
            rw [e] at h
            simp at h
          · by_cases hm0 : m = 0
            · refine .inr (fun g' mm h => ?_)
              rw [e] at h
              simp only [Value.slice.injEq] at h
              omega
            · simp only [Value.slice.injEq] at e
              exact .inl ⟨g, m, sp, e.1, e.2.2, by omega, h1', h2', hr', hm'⟩
        clear hcs hsl hbd hok hkd hkc hr hal
        go_wp2_with fail
        rcases hcase with ⟨g, mm, sp, rfl, rfl, hmm, hg, hsp, hrow, hmx⟩ | hnr
        · have HG := hid hg
          have HSP := hid hsp
          have HMX := hid hmx
          have HMM := hid hmm
          have HGB := hid (show g < wr.heap.size from hrow.lt)
          have HNEP := hid (show ¬ w.heap.size = g by omega)
          have HNEK := hid (show ¬ bk = g by omega)
          have HJ0 := hid (show jr g wr.heap.size (chkCells cs ss) sp ⟨kd, 0, List.replicate r 0⟩ 0 wr from hrow)
          clear hg hsp hmx hmm hrow
          refine wp_region_take 13 g [11] (fun k wx => jr g wr.heap.size (chkCells cs ss) sp ⟨kd, 0, List.replicate r 0⟩ k wx) [Is (.pointer (some ⟨w.heap.size, 1, none⟩)), Is (.slice (some ⟨g, 0, none⟩) i (i + mm)), Is (.slice (some ⟨bk, ofk, none⟩) n ck), Is (.int .i64 (i : Int)), Is (.pointer (some ⟨bk, ofk + i, none⟩)), Is (.int .u8 (kd.toNat : Int)), Is (.int .i64 (i : Int)), Is (.int .i64 (r : Int)), OwnF wr.heap.size 5 (List.replicate r 0), CkF wr.heap.size 5 ⟨kd, 0, List.replicate r 0⟩, NewCkF wr.heap.size 41 5 ⟨kd, 0, List.replicate r 0⟩, Is (.slice (some ⟨g, 0, none⟩) (i + 1) (i + mm)), Is (.pointer (some ⟨w.heap.size, 1, none⟩))] (by kernel_rfl) (by kernel_rfl) (by kernel_rfl) (by kernel_rfl) (by kernel_rfl) (by kernel_rfl) (by kernel_rfl) (HJ0.out) (JRow.st _ _ _ _ _ _ _) ?_ ?_ ?_
          · exact ⟨Is.stab _ _, Is.stab _ _, Is.stab _ _, Is.stab _ _, Is.stab _ _, Is.stab _ _, Is.stab _ _, Is.stab _ _, OwnF.gb _ (HGB.out), CkF.gb _ (HGB.out), NewCkF.gb _ (HGB.out), Is.stab _ _, Is.stab _ _, trivial⟩
          · rename_i Kk hKk; clear hKk Kk
            simp only [List.take_succ_cons, List.take_zero, AllOpsC, wrAt, Nat.reduceAdd, Nat.reduceEqDiff, Option.map_some, Option.map_none, List.map_cons, List.map_nil, depsOf, List.filterMap_cons, List.filterMap_nil, Region.binds, depFacts, guardF, reduceIte, List.getD_eq_getElem?_getD, List.getElem?_cons_succ, List.getElem?_cons_zero, Option.getD_some, factAt, and_true]
            refine ⟨?_, ?_, ?_, ?_, ?_, ?_, ?_, ?_, ?_, ?_, ?_, ?_, ?_⟩
            all_goals intro ρ wv hρ hR hd
            all_goals try simp only [Is] at hd
            · exact opOk_val (v := .pointer (some ⟨w.heap.size, 1, none⟩)) (w' := wv) (by simp [execOp, go_sem, hρ.1.const, hρ.1.func, hd, (hρ.2 5 rfl)]) ⟨rfl, GrR.refl _⟩
            · (have h0 := cell_gb hR HP1.out (HNEP.out); exact opOk_val (v := .slice (some ⟨g, 0, none⟩) i (i + mm)) (w' := wv) (by simp [execOp, go_sem, hd, h0]) ⟨rfl, GrR.refl _⟩)
            · exact opOk_move (.inl rfl) ⟨by simp only [Is]; (first | exact hρ.2 0 rfl | exact hd | exact hd.1 | exact hd.2 | simp [hd]), GrR.refl _⟩
            · exact opOk_move (.inl rfl) ⟨by simp only [Is]; (first | exact hρ.2 7 rfl | exact hd | exact hd.1 | exact hd.2 | simp [hd]), GrR.refl _⟩
            · exact opOk_val (v := .pointer (some ⟨bk, ofk + i, none⟩)) (w' := wv) (by simp [execOp, go_sem, hρ.1.const, hρ.1.func, hd, I0.out, I1.out, I2.out, Try.underlying29]) ⟨rfl, GrR.refl _⟩
            · (have h0 := cell_gb hR HKC.out (HNEK.out); exact opOk_val (v := .int .u8 (kd.toNat : Int)) (w' := wv) (by simp [execOp, go_sem, hd, h0]) ⟨rfl, GrR.refl _⟩)
            · exact opOk_move (.inl rfl) ⟨by simp only [Is]; (first | exact hρ.2 7 rfl | exact hd | exact hd.1 | exact hd.2 | simp [hd]), GrR.refl _⟩
            · exact opOk_val (v := .int .i64 (r : Int)) (w' := wv) (by simp [execOp, go_sem, hρ.1.const, hρ.1.func, hd, HR9.out, HR9a.out, HR9b.out]) ⟨rfl, GrR.refl _⟩
            · exact opOk_val (v := .slice (some ⟨wv.heap.size, 0, none⟩) r r) (w' := wv.alloc (.cells (bytesV (List.replicate r 0)).toArray 5 (0, 0))) (by simp only [execOp, hd, Sem.run_bind, run_make_u8 (P := Try.prog) 29 5 Try.underlying29 infoU8p .i64 .i64 r HR48.out, Result.andThen_ok, Sem.run_pure]) ⟨own_zeros wv _ 5 r hR.size, (Below.refl _ _).alloc (Nat.le_refl _) _⟩
            · (have hr : OwnF wr.heap.size 5 (List.replicate r 0) (ρ (.tmp 30)) wv := (by first | exact hd.2 | exact hd.2.1 | exact hd.1); obtain ⟨p9, c9, h9⟩ := RdF.form hr.rd; exact opOk_val (v := .agg #[.int .u8 (kd.toNat : Int), .int .u8 0, ρ (.tmp 30)]) (w' := wv) (by simp [execOp, go_sem, hd, h9]) ⟨⟨_, rfl, hr⟩, GrR.refl _⟩)
            · (obtain ⟨s9, hv9, ho9⟩ : CkF wr.heap.size 5 ⟨kd, 0, List.replicate r 0⟩ (ρ (.tmp 31)) wv := (by first | exact hd | exact hd.1); obtain ⟨p9, c9, h9⟩ := RdF.form ho9.rd; have GA : Below wv.heap.size wv (wv.alloc (.cells (chkCell ⟨kd, 0, List.replicate r 0⟩ s9).toArray 41 (0, 0))) := (Below.refl _ _).alloc (Nat.le_refl _) _; exact opOk_val (v := .slice (some ⟨wv.heap.size, 0, none⟩) 1 1) (w' := wv.alloc (.cells (chkCell ⟨kd, 0, List.replicate r 0⟩ s9).toArray 41 (0, 0))) (by simp [execOp, go_sem, hρ.1.const, hv9, h9, chkCell]) ⟨⟨_, s9, rfl, hR.size, RowV.new wv 41 _, ho9.mono GA⟩, GA⟩)
            · (first | refine ⟨rfl, fun hJ => ?_⟩ | refine ⟨trivial, fun hJ => ?_⟩ | intro hJ); (obtain ⟨s9, h91, h92⟩ := (show NewCkF wr.heap.size 41 5 ⟨kd, 0, List.replicate r 0⟩ (ρ (.tmp 32)) wv by first | exact hd.2.1 | exact hd.1 | exact hd.2).rdL; exact opOk_append_room rfl (w.heap.size + 1) 41 (.agg #[.int .u8 0, .int .u8 0, .slice none 0 0]) 3 32 rfl (by decide) Try.underlying23 infoChkP g mm i 1 (chkCells cs ss) (chkCell ⟨kd, 0, List.replicate r 0⟩ s9) sp (by first | exact hd.1 | exact hd.2.1 | simp [hd]) (own_one_cell h92) HLL.out HSP.out HG.out hJ HMX.out h91 HLN.out HLN2.out (Nat.le_trans HSZ.out hR.size) (by decide) HMM.out (fun w' h1 h2 => ⟨rfl, h2, s9, h1, Own.gbR h92 HGB.out h2⟩))
            · exact opOk_val (v := .pointer (some ⟨w.heap.size, 1, none⟩)) (w' := wv) (by simp [execOp, go_sem, hρ.1.const, hρ.1.func, hd, (hρ.2 5 rfl)]) ⟨rfl, GrR.refl _⟩
          · intro vals wv hR hJ hall
            have i11 := hall 11 (by omega)
            have i12 := hall 12 (by omega)
            simp only [factAt, Is, List.getD_eq_getElem?_getD, List.getElem?_cons_succ, List.getElem?_cons_zero, Option.getD_some] at i11 i12
            clear hall
            obtain ⟨s9, hrow9, hown9⟩ : ∃ s, RowV wv g 41 ((chkCells cs ss) ++ chkCell ⟨kd, 0, List.replicate r 0⟩ s ++ sp.drop 3) ∧ Go.FL.Own wv wr.heap.size 5 s (List.replicate r 0) := hJ
            simp only [List.take_succ_cons, List.take_zero, List.drop_succ_cons, List.drop_zero, fillFrom, Act.put, i11, i12, List.setIfInBounds_toArray, List.set_cons_zero, List.set_cons_succ, Nat.zero_add, Nat.reduceAdd]
            obtain ⟨v9, hv9⟩ : ∃ v, v = Value.slice (some ⟨g, 0, none⟩) (i + 1) (i + mm) := ⟨_, rfl⟩
            rw [← hv9]
            have HKV := hid (show OwnK wv (w.heap.size + 1) 41 3 v9 (i + 1) ((chkCells cs ss) ++ chkCell ⟨kd, 0, List.replicate r 0⟩ s9) from ⟨by rw [List.length_append, HLL.out]; show i * 3 + 3 = _; omega, .inr ⟨g, mm - 1, sp.drop 3, HG.out, by rw [hv9, show i + 1 + (mm - 1) = i + mm by have := HMM.out; omega], by rw [List.length_drop, HSP.out]; omega, hrow9, by have := HMM.out; have := HMX.out; omega⟩⟩)
            have HOLDB := hid (show ∀ j (_ : j < cs.length) (_ : j < ss.length), Go.FL.Own wv (w.heap.size + 1) 5 ss[j] cs[j].b from fun j a b => (HBD.out j a b).keep hR (own_ne (v := .slice (some ⟨g, 0, none⟩) i (i + mm)) HOK.out (HBD.out j a b) (by decide)))
            have HRWV := hid (HRW.out.grown hR (fun e => by simp at e; have := HG.out; omega))
            have HBV := hid (HB.out.grown hR HB.out.size (fun k e => by simp at e; have := HG.out; omega))
            have HOWN9 := hid (hown9.base (Nat.le_trans HSZ.out (Nat.le_refl _)))
            clear hR hrow9 hown9 i11 i12 hv9
            obtain ⟨wx, hwx⟩ : ∃ x, x = wv := ⟨_, rfl⟩
            subst hwx
            obtain ⟨x1, x2, rfl⟩ : ∃ x1 x2, v9 = Value.slice x1 (i + 1) x2 := HKV.out.form
            have HC8 := hid (chunksOwnS_mk (n₀ := (w.heap.size + 1)) (eC := 41) (eB := 5) (c := ⟨kd, 0, List.replicate r 0⟩) HSL.out (by rw [HCSL.out]; exact HKV.out) HOLDB.out HOWN9.out)
            have y0 := HRWV.out.at 1 (by simp)
            simp only [List.getElem_cons_succ, List.getElem_cons_zero] at y0
            have y1 := HRWV.out.frozen 1
            obtain ⟨W9, hW9⟩ : ∃ x, x = wx.setCell ⟨w.heap.size, 1, none⟩ (Value.slice x1 (i + 1) x2) := ⟨_, rfl⟩
            have HE9 := hid hW9
            have HRW9 := hid (show RowV W9 w.heap.size 25 [.int .u32 1, (Value.slice x1 (i + 1) x2)] by rw [hW9]; exact HRWV.out.store 1 (Value.slice x1 (i + 1) x2))
            have HB9 := hid (show Below w.heap.size w W9 by rw [hW9]; exact HBV.out.setCell (p := ⟨w.heap.size, 1, none⟩) (Nat.le_refl _) (Value.slice x1 (i + 1) x2))
            have HC9 := hid (show ChunksOwnS (w.heap.size + 1) 41 5 W9 (Value.slice x1 (i + 1) x2) (kChks kinds (i + 1)) (ss ++ [s9]) by
              rw [kChks_succ, ← HCS.out, HCK.out, hW9]
              exact HC8.out.hold (fun k o hk ho _ => (Below.heap_setCell _ _ _ k (fun e => by have e' : k = w.heap.size := e; omega)).trans ho))
            have kc := cell?_of_below HB9.out HKCW.out
            rw [hW9] at kc
            clear hW9
            by_cases q1 : kd = 1
            · have hal := HALS.out
              rw [show aloneB kd = true by rw [q1]; rfl, if_pos rfl] at hal
              have HAL1 := hid hal
              have b1 : ((kd.toNat : Int) == 1) = true := by rw [q1]; rfl
              clear q1 hal
              go_wp2_with fail
              rw [← HE9.out]
              go_roundw
              case rel => exact ⟨i + 1, by omega, by rw [HAL1.out]; rfl, by go_num, Value.slice x1 (i + 1) x2, ss ++ [s9], HRW9, HC9, HB9⟩
              case measure => simp [intOf]; omega
            · have b1 : ((kd.toNat : Int) == 1) = false := by
                have : ¬ kd.toNat = 1 := fun h => q1 (UInt8.toNat_inj.1 h)
                simp
                omega
              by_cases q2 : kd = 2
              · have hal := HALS.out
                rw [show aloneB kd = true by rw [q2]; rfl, if_pos rfl] at hal
                have HAL1 := hid hal
                have b2 : ((kd.toNat : Int) == 2) = true := by rw [q2]; rfl
                clear q1 q2 hal
                go_wp2_with fail
                rw [← HE9.out]
                go_roundw
                case rel => exact ⟨i + 1, by omega, by rw [HAL1.out]; rfl, by go_num, Value.slice x1 (i + 1) x2, ss ++ [s9], HRW9, HC9, HB9⟩
                case measure => simp [intOf]; omega
              · have b2 : ((kd.toNat : Int) == 2) = false := by
                  have : ¬ kd.toNat = 2 := fun h => q2 (UInt8.toNat_inj.1 h)
                  simp
                  omega
                by_cases q3 : kd = 14
                · have hal := HALS.out
                  rw [show aloneB kd = true by rw [q3]; rfl, if_pos rfl] at hal
                  have HAL1 := hid hal
                  have b3 : ((kd.toNat : Int) == 14) = true := by rw [q3]; rfl
                  clear q1 q2 q3 hal
                  go_wp2_with fail
                  rw [← HE9.out]
                  go_roundw
                  case rel => exact ⟨i + 1, by omega, by rw [HAL1.out]; rfl, by go_num, Value.slice x1 (i + 1) x2, ss ++ [s9], HRW9, HC9, HB9⟩
                  case measure => simp [intOf]; omega
                · have b3 : ((kd.toNat : Int) == 14) = false := by
                    have : ¬ kd.toNat = 14 := fun h => q3 (UInt8.toNat_inj.1 h)
                    simp
                    omega
                  have hal := HALS.out
                  rw [show aloneB kd = false by unfold aloneB; rw [decide_eq_false q1, decide_eq_false q2, decide_eq_false q3]; rfl, if_neg (by decide), Nat.add_zero] at hal
                  have HAL1 := hid hal
                  clear q1 q2 q3 hal
                  go_wp2_with fail
                  rw [← HE9.out]
                  go_roundw
                  case rel => exact ⟨i + 1, by omega, by rw [HAL1.out]; rfl, by go_num, Value.slice x1 (i + 1) x2, ss ++ [s9], HRW9, HC9, HB9⟩
                  case measure => simp [intOf]; omega
        · have HNR := hid hnr
          clear hnr
          refine wp_region_tail 13 [Is (.pointer (some ⟨w.heap.size, 1, none⟩)), Is (.slice px i cx), Is (.slice (some ⟨bk, ofk, none⟩) n ck), Is (.int .i64 (i : Int)), Is (.pointer (some ⟨bk, ofk + i, none⟩)), Is (.int .u8 (kd.toNat : Int)), Is (.int .i64 (i : Int)), Is (.int .i64 (r : Int)), OwnF wr.heap.size 5 (List.replicate r 0), CkF wr.heap.size 5 ⟨kd, 0, List.replicate r 0⟩, NewCkF wr.heap.size 41 5 ⟨kd, 0, List.replicate r 0⟩, AppCk wr.heap.size 41 5 i (chkCells cs ss) ⟨kd, 0, List.replicate r 0⟩, Is (.pointer (some ⟨w.heap.size, 1, none⟩))] (by kernel_rfl) (by kernel_rfl) (by kernel_rfl) (by kernel_rfl) (by kernel_rfl) (by kernel_rfl) ?_ ?_ ?_
          · simp only [StabAll, Is.gr, RdF.gr, OwnF.gr, AnyF.gr, CkF.gr, NewCkF.gr, AppCk.gr, and_self]
          · rename_i Kk hKk; clear hKk Kk
            simp only [List.take_succ_cons, List.take_zero, AllOps, List.map_cons, List.map_nil, depsOf, List.filterMap_cons, List.filterMap_nil, Region.binds, depFacts, guardF, reduceIte, List.getD_eq_getElem?_getD, List.getElem?_cons_succ, List.getElem?_cons_zero, Option.getD_some, factAt, and_true]
            refine ⟨?_, ?_, ?_, ?_, ?_, ?_, ?_, ?_, ?_, ?_, ?_, ?_, ?_⟩
            all_goals intro ρ wv hρ hR hd
            all_goals try simp only [Is] at hd
            · exact opOk_val (v := .pointer (some ⟨w.heap.size, 1, none⟩)) (w' := wv) (by simp [execOp, go_sem, hρ.1.const, hρ.1.func, hd, (hρ.2 5 rfl)]) ⟨rfl, GrR.refl _⟩
            · (have h0 := cell?_of_below hR HP1.out; exact opOk_val (v := .slice px i cx) (w' := wv) (by simp [execOp, go_sem, hd, h0]) ⟨rfl, GrR.refl _⟩)
            · exact opOk_move (.inl rfl) ⟨by simp only [Is]; (first | exact hρ.2 0 rfl | exact hd | exact hd.1 | exact hd.2 | simp [hd]), GrR.refl _⟩
            · exact opOk_move (.inl rfl) ⟨by simp only [Is]; (first | exact hρ.2 7 rfl | exact hd | exact hd.1 | exact hd.2 | simp [hd]), GrR.refl _⟩
            · exact opOk_val (v := .pointer (some ⟨bk, ofk + i, none⟩)) (w' := wv) (by simp [execOp, go_sem, hρ.1.const, hρ.1.func, hd, I0.out, I1.out, I2.out, Try.underlying29]) ⟨rfl, GrR.refl _⟩
            · (have h0 := cell?_of_below hR HKC.out; exact opOk_val (v := .int .u8 (kd.toNat : Int)) (w' := wv) (by simp [execOp, go_sem, hd, h0]) ⟨rfl, GrR.refl _⟩)
            · exact opOk_move (.inl rfl) ⟨by simp only [Is]; (first | exact hρ.2 7 rfl | exact hd | exact hd.1 | exact hd.2 | simp [hd]), GrR.refl _⟩
            · exact opOk_val (v := .int .i64 (r : Int)) (w' := wv) (by simp [execOp, go_sem, hρ.1.const, hρ.1.func, hd, HR9.out, HR9a.out, HR9b.out]) ⟨rfl, GrR.refl _⟩
            · exact opOk_val (v := .slice (some ⟨wv.heap.size, 0, none⟩) r r) (w' := wv.alloc (.cells (bytesV (List.replicate r 0)).toArray 5 (0, 0))) (by simp only [execOp, hd, Sem.run_bind, run_make_u8 (P := Try.prog) 29 5 Try.underlying29 infoU8p .i64 .i64 r HR48.out, Result.andThen_ok, Sem.run_pure]) ⟨own_zeros wv _ 5 r hR.size, (Below.refl _ _).alloc (Nat.le_refl _) _⟩
            · (have hr : OwnF wr.heap.size 5 (List.replicate r 0) (ρ (.tmp 30)) wv := (by first | exact hd.2 | exact hd.2.1 | exact hd.1); obtain ⟨p9, c9, h9⟩ := RdF.form hr.rd; exact opOk_val (v := .agg #[.int .u8 (kd.toNat : Int), .int .u8 0, ρ (.tmp 30)]) (w' := wv) (by simp [execOp, go_sem, hd, h9]) ⟨⟨_, rfl, hr⟩, GrR.refl _⟩)
            · (obtain ⟨s9, hv9, ho9⟩ : CkF wr.heap.size 5 ⟨kd, 0, List.replicate r 0⟩ (ρ (.tmp 31)) wv := (by first | exact hd | exact hd.1); obtain ⟨p9, c9, h9⟩ := RdF.form ho9.rd; have GA : Below wv.heap.size wv (wv.alloc (.cells (chkCell ⟨kd, 0, List.replicate r 0⟩ s9).toArray 41 (0, 0))) := (Below.refl _ _).alloc (Nat.le_refl _) _; exact opOk_val (v := .slice (some ⟨wv.heap.size, 0, none⟩) 1 1) (w' := wv.alloc (.cells (chkCell ⟨kd, 0, List.replicate r 0⟩ s9).toArray 41 (0, 0))) (by simp [execOp, go_sem, hρ.1.const, hv9, h9, chkCell]) ⟨⟨_, s9, rfl, hR.size, RowV.new wv 41 _, ho9.mono GA⟩, GA⟩)
            · (obtain ⟨s9, h91, h92⟩ := (show NewCkF wr.heap.size 41 5 ⟨kd, 0, List.replicate r 0⟩ (ρ (.tmp 32)) wv by first | exact hd.2.1 | exact hd.1 | exact hd.2).rdL; exact opOk_append_new rfl (w.heap.size + 1) 41 (.agg #[.int .u8 0, .int .u8 0, .slice none 0 0]) 3 32 rfl (by decide) Try.underlying23 infoChkP (.slice px i cx) (by first | exact hd.1 | exact hd.2.1 | simp [hd]) i 1 (chkCells cs ss) (chkCell ⟨kd, 0, List.replicate r 0⟩ s9) (own_one_cell h92) (HOK.out.mono hR) h91 HLN.out HLN2.out (Nat.le_trans HSZ.out hR.size) (by decide) HNR.out (fun v' w' h1 h2 => ⟨⟨s9, h1.base hR.size, h92.mono h2⟩, h2⟩))
            · exact opOk_val (v := .pointer (some ⟨w.heap.size, 1, none⟩)) (w' := wv) (by simp [execOp, go_sem, hρ.1.const, hρ.1.func, hd, (hρ.2 5 rfl)]) ⟨rfl, GrR.refl _⟩
          · intro vals wv hR hall
            have i11 := hall 11 (by omega)
            have i12 := hall 12 (by omega)
            simp only [factAt, Is, AppCk, List.getD_eq_getElem?_getD, List.getElem?_cons_succ, List.getElem?_cons_zero, Option.getD_some] at i11 i12
            clear hall
            obtain ⟨s9, hown8, hown9⟩ := i11
            obtain ⟨v9, hv9⟩ : ∃ v, vals 11 = v := ⟨_, rfl⟩
            rw [hv9] at hown8
            simp only [List.take_succ_cons, List.take_zero, List.drop_succ_cons, List.drop_zero, fillFrom, Act.put, hv9, i12, List.setIfInBounds_toArray, List.set_cons_zero, List.set_cons_succ, Nat.zero_add, Nat.reduceAdd]
            obtain ⟨p9, c9, rfl⟩ := hown8.form
            obtain ⟨v9, hv9'⟩ : ∃ v, v = Value.slice p9 (i + 1) c9 := ⟨_, rfl⟩
            have HKV := hid (hown8.base HSZ.out)
            have HOLDB := hid (show ∀ j (_ : j < cs.length) (_ : j < ss.length), Go.FL.Own wv (w.heap.size + 1) 5 ss[j] cs[j].b from fun j a b => (HBD.out j a b).mono hR)
            have HRWV := hid (HRW.out.mono hR)
            have HBV := hid (gr_trans HB.out hR)
            have HOWN9 := hid (hown9.base HSZ.out)
            rw [← hv9'] at HKV ⊢
            clear hR hown8 hown9 i12 hv9 hv9'
            obtain ⟨wx, hwx⟩ : ∃ x, x = wv := ⟨_, rfl⟩
            subst hwx
            obtain ⟨x1, x2, rfl⟩ : ∃ x1 x2, v9 = Value.slice x1 (i + 1) x2 := HKV.out.form
            have HC8 := hid (chunksOwnS_mk (n₀ := (w.heap.size + 1)) (eC := 41) (eB := 5) (c := ⟨kd, 0, List.replicate r 0⟩) HSL.out (by rw [HCSL.out]; exact HKV.out) HOLDB.out HOWN9.out)
            have y0 := HRWV.out.at 1 (by simp)
            simp only [List.getElem_cons_succ, List.getElem_cons_zero] at y0
            have y1 := HRWV.out.frozen 1
            obtain ⟨W9, hW9⟩ : ∃ x, x = wx.setCell ⟨w.heap.size, 1, none⟩ (Value.slice x1 (i + 1) x2) := ⟨_, rfl⟩
            have HE9 := hid hW9
            have HRW9 := hid (show RowV W9 w.heap.size 25 [.int .u32 1, (Value.slice x1 (i + 1) x2)] by rw [hW9]; exact HRWV.out.store 1 (Value.slice x1 (i + 1) x2))
            have HB9 := hid (show Below w.heap.size w W9 by rw [hW9]; exact HBV.out.setCell (p := ⟨w.heap.size, 1, none⟩) (Nat.le_refl _) (Value.slice x1 (i + 1) x2))
            have HC9 := hid (show ChunksOwnS (w.heap.size + 1) 41 5 W9 (Value.slice x1 (i + 1) x2) (kChks kinds (i + 1)) (ss ++ [s9]) by
              rw [kChks_succ, ← HCS.out, HCK.out, hW9]
              exact HC8.out.hold (fun k o hk ho _ => (Below.heap_setCell _ _ _ k (fun e => by have e' : k = w.heap.size := e; omega)).trans ho))
            have kc := cell?_of_below HB9.out HKCW.out
            rw [hW9] at kc
            clear hW9
            by_cases q1 : kd = 1
            · have hal := HALS.out
              rw [show aloneB kd = true by rw [q1]; rfl, if_pos rfl] at hal
              have HAL1 := hid hal
              have b1 : ((kd.toNat : Int) == 1) = true := by rw [q1]; rfl
              clear q1 hal
              go_wp2_with fail
              rw [← HE9.out]
              go_roundw
              case rel => exact ⟨i + 1, by omega, by rw [HAL1.out]; rfl, by go_num, Value.slice x1 (i + 1) x2, ss ++ [s9], HRW9, HC9, HB9⟩
              case measure => simp [intOf]; omega
            · have b1 : ((kd.toNat : Int) == 1) = false := by
                have : ¬ kd.toNat = 1 := fun h => q1 (UInt8.toNat_inj.1 h)
                simp
                omega
              by_cases q2 : kd = 2
              · have hal := HALS.out
                rw [show aloneB kd = true by rw [q2]; rfl, if_pos rfl] at hal
                have HAL1 := hid hal
                have b2 : ((kd.toNat : Int) == 2) = true := by rw [q2]; rfl
                clear q1 q2 hal
                go_wp2_with fail
                rw [← HE9.out]
                go_roundw
                case rel => exact ⟨i + 1, by omega, by rw [HAL1.out]; rfl, by go_num, Value.slice x1 (i + 1) x2, ss ++ [s9], HRW9, HC9, HB9⟩
                case measure => simp [intOf]; omega
              · have b2 : ((kd.toNat : Int) == 2) = false := by
                  have : ¬ kd.toNat = 2 := fun h => q2 (UInt8.toNat_inj.1 h)
                  simp
                  omega
                by_cases q3 : kd = 14
                · have hal := HALS.out
                  rw [show aloneB kd = true by rw [q3]; rfl, if_pos rfl] at hal
                  have HAL1 := hid hal
                  have b3 : ((kd.toNat : Int) == 14) = true := by rw [q3]; rfl
                  clear q1 q2 q3 hal
                  go_wp2_with fail
                  rw [← HE9.out]
                  go_roundw
                  case rel => exact ⟨i + 1, by omega, by rw [HAL1.out]; rfl, by go_num, Value.slice x1 (i + 1) x2, ss ++ [s9], HRW9, HC9, HB9⟩
                  case measure => simp [intOf]; omega
                · have b3 : ((kd.toNat : Int) == 14) = false := by
                    have : ¬ kd.toNat = 14 := fun h => q3 (UInt8.toNat_inj.1 h)
                    simp
                    omega
                  have hal := HALS.out
                  rw [show aloneB kd = false by unfold aloneB; rw [decide_eq_false q1, decide_eq_false q2, decide_eq_false q3]; rfl, if_neg (by decide), Nat.add_zero] at hal
                  have HAL1 := hid hal
                  clear q1 q2 q3 hal
                  go_wp2_with fail
                  rw [← HE9.out]
                  go_roundw
                  case rel => exact ⟨i + 1, by omega, by rw [HAL1.out]; rfl, by go_num, Value.slice x1 (i + 1) x2, ss ++ [s9], HRW9, HC9, HB9⟩
                  case measure => simp [intOf]; omega
      · have hin : n = i := by omega
        subst hin
        have e2 : ¬ (n : Int) < (n : Int) := by omega
        obtain ⟨hsl, hok, hbd⟩ := HCW.out
        rw [kChks_length] at hok
        obtain ⟨px, cx, rfl⟩ := hok.form
        have HAT := hid (show ChunksAt wr (.slice px n cx) (kChks kinds n) from HCW.out.own.at)
        have HMM := hid (fun k : UInt8 => may_more kinds n k)
        have HFM := hid (fun k : UInt8 => fits_more kinds n (by omega) k)
        have hmay0 := may_alones (kChks kinds n) (fun c hc => by have := kChks_short kinds n c hc; omega)
        rw [kChks_length] at hmay0
        have hsz := sizes_short _ (kChks_short kinds n)
        have hale := alones_le (kChks kinds n)
        rw [kChks_length] at hsz hale
        obtain ⟨cs, hcs⟩ : ∃ l, l = kChks kinds n := ⟨_, rfl⟩
        rw [← hcs] at HAT HMM HFM hmay0 hsz hale hsl hok hbd ⊢
        have HCSL := hid (show cs.length = n by rw [hcs, kChks_length])
        have HSL := hid hsl
        have HBD := hid hbd
        have HOK := hid hok
        obtain ⟨al, hal⟩ : ∃ a, a = alones cs := ⟨_, rfl⟩
        obtain ⟨mb, hmb2⟩ : ∃ b, b = mayB cs := ⟨_, rfl⟩
        rw [← hal] at hale HMM hmay0 ⊢
        rw [← hmb2] at hmay0
        have HMAY := hid hmay0
        have HMB := hid hmb2.symm
        have HALE := hid hale
        have HSIZ := hid (show sizesN cs ≤ 100000000 by omega)
        have HN1 := hid (show cs.length ≤ 1000000 by rw [HCSL.out]; omega)
        have hn100 : n ≤ 100 := by omega
        have HN100 := hid hn100
        have p0 := HRW.out.at 0 (by simp)
        have p1 := HRW.out.at 1 (by simp)
        simp only [List.getElem_cons_succ, List.getElem_cons_zero] at p0 p1
        clear hsl hok hbd hmay0 hsz hale hmb2 hal hcs e1 hbig hlt
        go_upto_region 11 with fail
        go_cut [8] from 56 to 67 (fun s8 wx => s8 = .bool mb ∧ wr = wx)
        case first =>
          by_cases q0 : n = 0
          · have z0 : ¬ (0 : Int) < (n : Int) := by omega
            have hm : mb = false := by rw [HMAY.out, decide_eq_false (by omega : ¬ 0 < n)]; rfl
            clear q0
            go_wp2_with fail
            go_meet
            exact ⟨by rw [hm], rfl⟩
          · have z0 : (0 : Int) < (n : Int) := by omega
            by_cases q1 : al = 0
            · have z1 : ((al : Int) == 0) = true := by simp; omega
              have hm := hid (show mb = true by rw [HMAY.out, decide_eq_true (by omega : 0 < n), decide_eq_true q1]; rfl)
              clear q0 q1
              go_wp2_with fail
              go_meet
              exact ⟨by rw [hm.out], rfl⟩
            · have z1 : ((al : Int) == 0) = false := by simp; omega
              by_cases q2 : n = 1
              · have z2 : ((n : Int) == 1) = true := by simp; omega
                have hm := hid (show mb = true by rw [HMAY.out, decide_eq_true (by omega : 0 < n), decide_eq_true (by omega : n ≤ 1)]; simp)
                clear q0 q1 q2
                go_wp2_with fail
                go_meet
                exact ⟨by rw [hm.out], rfl⟩
              · have z2 : ((n : Int) == 1) = false := by simp; omega
                have hm := hid (show mb = false by rw [HMAY.out, decide_eq_false q1, decide_eq_false (by omega : ¬ n ≤ 1)]; simp)
                clear q0 q1 q2
                go_wp2_with fail
                go_meet
                exact ⟨by rw [hm.out], rfl⟩
        case rest =>
          obtain ⟨rfl, rfl⟩ := hcut
          go_wp2_with fail
          clear p0 p1
          refine (pwrite_any ⟨1, cs⟩ _ _ ⟨_, rfl, HAT.out, by show (1 : Nat) < 4294967296; omega⟩ (by have := HSIZ.out; show sizesN cs ≤ _; omega)).mono ?_
          rintro e w2 ⟨v2, rfl, ho2, hb2⟩
          obtain ⟨p2, c2, rfl⟩ := RdF.form ho2.rd
          obtain ⟨nb, hnb⟩ : ∃ b, b = (Pkt.bytes ⟨1, cs⟩).length := ⟨_, rfl⟩
          have hbs := bytes_some ⟨1, cs⟩
          rw [← hnb] at hbs ⊢
          rw [show mayB (Pkt.mk 1 cs).cs = mb from HMB.out] at hbs
          obtain ⟨-, pz, cz, hz1, hz2, hz3, -⟩ : True ∧ Rd w2 (.slice p2 (Pkt.bytes ⟨1, cs⟩).length c2) (Pkt.bytes ⟨1, cs⟩) := ⟨trivial, by rw [← hnb]; rw [← hnb] at ho2; exact ho2.rd⟩
          have hc2 : nb ≤ 9223372036854775807 := by rw [hnb]; unfold maxLen at hz3; omega
          have HB2 := hid (HB.out.trans (hb2.mono HB.out.size))
          have HRW2 := hid (HRW.out.mono hb2)
          have HAT2 := hid (HAT.out.mono hb2)
          have HOK2 := hid (HOK.out.mono hb2)
          have HBD2 := hid (show ∀ j (_ : j < cs.length) (_ : j < ss.length), Go.FL.Own w2 (w.heap.size + 1) 5 ss[j] cs[j].b from fun j a b => (HBD.out j a b).mono hb2)
          obtain ⟨W3, hW3⟩ : ∃ W3, W3 = w2.alloc (.cells #[.int .u8 (mo.toNat : Int), .int .u8 0, .slice none 0 0] 41 (0, 0)) := ⟨_, rfl⟩
          have g3 : Below w2.heap.size w2 W3 := by rw [hW3]; exact (Below.refl _ _).alloc (Nat.le_refl _) _
          have HCC3 := hid (show RowV W3 w2.heap.size 41 [.int .u8 (mo.toNat : Int), .int .u8 0, .slice none 0 0] by rw [hW3]; exact RowV.new w2 _ _)
          have HB3 := hid (HB2.out.trans (g3.mono HB2.out.size))
          have HRW3 := hid (HRW2.out.mono g3)
          have HAT3 := hid (HAT2.out.mono g3)
          have HOK3 := hid (HOK2.out.mono g3)
          have HBD3 := hid (show ∀ j (_ : j < cs.length) (_ : j < ss.length), Go.FL.Own W3 (w.heap.size + 1) 5 ss[j] cs[j].b from fun j a b => (HBD2.out j a b).mono g3)
          have HE3 := hid hW3
          clear hnb hz1 hz2 hz3 pz cz ho2 hb2 g3 hW3
          go_upto_region 15 with fail
          rw [← HE3.out]
          clear hbs
          go_cut [85] from 76 to 85 (fun s85 wx => s85 = .bool (aloneB mo) ∧ W3 = wx)
          case first =>
            by_cases q1 : mo = 1
            · have b1 : ((mo.toNat : Int) == 1) = true := by rw [q1]; rfl
              have ha := hid (show aloneB mo = true by rw [q1]; rfl)
              clear q1
              go_wp2_with fail
              go_meet
              exact ⟨by rw [ha.out], rfl⟩
            · have b1 : ((mo.toNat : Int) == 1) = false := by
                have : ¬ mo.toNat = 1 := fun h => q1 (UInt8.toNat_inj.1 h)
                simp
                omega
              by_cases q2 : mo = 2
              · have b2 : ((mo.toNat : Int) == 2) = true := by rw [q2]; rfl
                have ha := hid (show aloneB mo = true by rw [q2]; rfl)
                clear q1 q2
                go_wp2_with fail
                go_meet
                exact ⟨by rw [ha.out], rfl⟩
              · have b2 : ((mo.toNat : Int) == 2) = false := by
                  have : ¬ mo.toNat = 2 := fun h => q2 (UInt8.toNat_inj.1 h)
                  simp
                  omega
                obtain ⟨b3, hb3⟩ : ∃ b, ((mo.toNat : Int) == 14) = b := ⟨_, rfl⟩
                have ha := hid (show aloneB mo = b3 by
                  rw [← hb3, kind_eq mo 14 14 rfl]
                  unfold aloneB
                  rw [decide_eq_false q1, decide_eq_false q2]
                  rfl)
                clear q1 q2
                go_wp2_with fail
                go_meet
                exact ⟨by rw [ha.out], rfl⟩
          case rest =>
            obtain ⟨rfl, rfl⟩ := hcut
            obtain ⟨ab, hab⟩ : ∃ b, aloneB mo = b := ⟨_, rfl⟩
            rw [hab]
            obtain ⟨a2, ha2⟩ : ∃ a, a = al + if ab = true then 1 else 0 := ⟨_, rfl⟩
            have HA2 := hid (show al + (if aloneB mo = true then 1 else 0) = a2 by rw [hab, ha2])
            have hwa : IntKind.i64.wrap ((al : Int) + 1) = (al : Int) + 1 := by have := HALE.out; rw [IntKind.wrap_i64]; omega
            clear hab
            go_upto_if 85 with fail
            go_cut [6] from 86 to 87 (fun s6 wx => s6 = .int .i64 (a2 : Int) ∧ W3 = wx)
            case first =>
              cases ab
              case true =>
                go_wp2_with fail
                go_meet
                exact ⟨by rw [ha2]; rfl, rfl⟩
              case false =>
                go_wp2_with fail
                go_meet
                exact ⟨by rw [ha2]; rfl, rfl⟩
            case rest =>
              obtain ⟨rfl, rfl⟩ := hcut
              clear hwa ha2
              have p0 := HRW3.out.at 0 (by simp)
              have p1 := HRW3.out.at 1 (by simp)
              have d0 := HCC3.out.at 0 (by simp)
              have d1 := HCC3.out.at 1 (by simp)
              have d2 := HCC3.out.at 2 (by simp)
              simp only [List.getElem_cons_succ, List.getElem_cons_zero] at p0 p1 d0 d1 d2
              go_wp2_with fail
              clear p0 p1 d0 d1 d2
              refine (fits_any ⟨1, cs⟩ ⟨mo, 0, []⟩ 1048576 _ _ _ ⟨_, rfl, HAT3.out, by show (1 : Nat) < 4294967296; omega⟩ ⟨_, rfl, Rd.nil _⟩ HN1.out (by have := HSIZ.out; show sizesN cs ≤ _; omega) (by simp)).mono ?_
              rintro e w4 ⟨rfl, hb4⟩
              rw [HFM.out mo]
              obtain ⟨fb, hfb⟩ : ∃ b, b = mayB (cs ++ [⟨mo, 0, []⟩]) := ⟨_, rfl⟩
              rw [← hfb]
              have HFB := hid (show fb = (decide (a2 = 0) || decide (n = 0)) by rw [hfb, HMM.out mo, HA2.out])
              have HFB2 := hid hfb.symm
              have HB4 := hid (HB3.out.trans (hb4.mono HB3.out.size))
              have HRW4 := hid (HRW3.out.mono hb4)
              have HOK4 := hid (HOK3.out.mono hb4)
              have HCC4 := hid (HCC3.out.mono hb4)
              have HBD4 := hid (show ∀ j (_ : j < cs.length) (_ : j < ss.length), Go.FL.Own w4 (w.heap.size + 1) 5 ss[j] cs[j].b from fun j a b => (HBD3.out j a b).mono hb4)
              clear hfb hb4
              go_upto_region 18 with fail
              go_cut [99] from 91 to 99 (fun s99 wx => s99 = .bool false ∧ w4 = wx)
              case first =>
                by_cases q1 : a2 = 0
                · have z1 : ((a2 : Int) == 0) = true := by simp; omega
                  obtain rfl : fb = true := by rw [HFB.out, decide_eq_true q1]; rfl
                  clear q1
                  go_wp2_with fail
                  go_meet
                  exact ⟨rfl, rfl⟩
                · have z1 : ((a2 : Int) == 0) = false := by simp; omega
                  by_cases q2 : n = 0
                  · have z2 : ((n : Int) == 0) = true := by simp; omega
                    obtain rfl : fb = true := by rw [HFB.out, decide_eq_true q2]; simp
                    clear q1 q2
                    go_wp2_with fail
                    go_meet
                    exact ⟨rfl, rfl⟩
                  · have z2 : ((n : Int) == 0) = false := by simp; omega
                    obtain rfl : fb = false := by rw [HFB.out, decide_eq_false q1, decide_eq_false q2]; rfl
                    clear q1 q2
                    go_wp2_with fail
                    go_meet
                    exact ⟨rfl, rfl⟩
              case rest =>
                obtain ⟨rfl, rfl⟩ := hcut
                have p1 := HRW4.out.at 1 (by simp)
                have d0 := HCC4.out.at 0 (by simp)
                have d1 := HCC4.out.at 1 (by simp)
                have d2 := HCC4.out.at 2 (by simp)
                simp only [List.getElem_cons_succ, List.getElem_cons_zero] at p1 d0 d1 d2
                obtain ⟨W5, hW5⟩ : ∃ W5, W5 = w4.alloc (.cells #[.int .u8 (mo.toNat : Int), .int .u8 0, .slice none 0 0] 41 (0, 0)) := ⟨_, rfl⟩
                have g5 : Below w4.heap.size w4 W5 := by rw [hW5]; exact (Below.refl _ _).alloc (Nat.le_refl _) _
                have HX5 := hid (show RdL W5 3 (.slice (some ⟨w4.heap.size, 0, none⟩) 1 1) 1 (chkCell ⟨mo, 0, []⟩ (.slice none 0 0)) by rw [hW5]; exact (own_one w4 0 41 (chkCell ⟨mo, 0, []⟩ (.slice none 0 0)) (Nat.zero_le _)).rdL)
                have HOK5 := hid (HOK4.out.mono g5)
                have HB5 := hid (HB4.out.trans (g5.mono HB4.out.size))
                have HRW5 := hid (HRW4.out.mono g5)
                have HBD5 := hid (show ∀ j (_ : j < cs.length) (_ : j < ss.length), Go.FL.Own W5 (w.heap.size + 1) 5 ss[j] cs[j].b from fun j a b => (HBD4.out j a b).mono g5)
                have HE5 := hid hW5
                have HONE := hid (show ∀ u ∈ chkCell ⟨mo, 0, []⟩ (.slice none 0 0), u.oneCell' = true from fun u hu => by
                  simp only [chkCell, List.mem_cons, List.not_mem_nil, or_false] at hu
                  rcases hu with rfl | rfl | rfl <;> rfl)
                have HSZ5 := hid (show w.heap.size + 1 ≤ W5.heap.size from HRW5.out.lt)
                clear g5 hW5
                go_wp2_with (at_builtin; rw [← HE5.out]; refine wpList_append_OwnL rfl (.tmp 101) (.tmp 103) 23 rfl (w.heap.size + 1) 41 (.agg #[.int .u8 0, .int .u8 0, .slice none 0 0]) 3 32 rfl (by decide) Try.underlying23 infoChkP _ _ n 1 (chkCells cs ss) (chkCell ⟨mo, 0, []⟩ (.slice none 0 0)) HONE.out rfl HOK5.out rfl HX5.out ?hlen ?hlen2 HSZ5.out ?_)
                case hlen => omega
                case hlen2 => omega
                intro v6 w6 ho hg hak
                have HKV := hid ho
                obtain ⟨x1, x2, rfl⟩ : ∃ x1 x2, v6 = Value.slice x1 (n + 1) x2 := ho.form
                have hxx : x2 ≤ 9223372036854775807 := by
                  obtain ⟨-, q9, c9, h9, -, h10, -⟩ := ho.rdL
                  simp only [Value.slice.injEq] at h9
                  unfold maxLen at h10
                  omega
                have HRW6 := hid (HRW5.out.grown hg (fun e => by have := HOK5.out.ge _ e; omega))
                have HB6 := hid (HB5.out.grown hg HB5.out.size (fun k e => by have := HOK5.out.ge _ e; omega))
                have HC6 := hid (chunksOwnS_mk (n₀ := (w.heap.size + 1)) (eC := 41) (eB := 5) (c := ⟨mo, 0, []⟩) HSL.out (by rw [HCSL.out]; exact HKV.out) (fun j a b => (HBD5.out j a b).keep hg (own_ne HOK5.out (HBD5.out j a b) (by decide))) (Own.nil _ _ _))
                have y0 := HRW6.out.at 0 (by simp)
                have y1 := HRW6.out.at 1 (by simp)
                simp only [List.getElem_cons_succ, List.getElem_cons_zero] at y0 y1
                have y2 := HRW6.out.frozen 1
                obtain ⟨W7, hW7⟩ : ∃ x, x = w6.setCell ⟨w.heap.size, 1, none⟩ (Value.slice x1 (n + 1) x2) := ⟨_, rfl⟩
                have HE7 := hid hW7
                have HRW7 := hid (show RowV W7 w.heap.size 25 [.int .u32 1, Value.slice x1 (n + 1) x2] by rw [hW7]; exact HRW6.out.store 1 _)
                have HB7 := hid (show Below w.heap.size w W7 by rw [hW7]; exact HB6.out.setCell (p := ⟨w.heap.size, 1, none⟩) (Nat.le_refl _) _)
                have HC7 := hid (show ChunksAt W7 (Value.slice x1 (n + 1) x2) (cs ++ [⟨mo, 0, []⟩]) by
                  rw [hW7]
                  exact (HC6.out.hold (fun k o hk ho _ => (Below.heap_setCell _ _ _ k (fun e => by have e' : k = w.heap.size := e; omega)).trans ho)).own.at)
                have z0 := HRW7.out.at 0 (by simp)
                have z1 := HRW7.out.at 1 (by simp)
                simp only [List.getElem_cons_succ, List.getElem_cons_zero] at z0 z1
                rw [hW7] at z0 z1
                clear hW7 ho hg hak p1 d0 d1 d2
                go_wp2_with fail
                rw [← HE7.out]
                clear y0 y1 y2 z0 z1
                refine (pwrite_any ⟨1, cs ++ [⟨mo, 0, []⟩]⟩ _ _ ⟨_, rfl, HC7.out, by show (1 : Nat) < 4294967296; omega⟩ (by
                  have := HSIZ.out
                  show sizesN (cs ++ [⟨mo, 0, []⟩]) ≤ _
                  rw [sizesN_append]
                  have e4 : sizesN [⟨mo, 0, []⟩] = 4 := by simp [sizesN, sizeC, roundN]
                  omega)).mono ?_
                rintro e w8 ⟨v8, rfl, ho8, hb8⟩
                obtain ⟨p8, c8, rfl⟩ := RdF.form ho8.rd
                obtain ⟨nb8, hnb⟩ : ∃ b, b = (Pkt.bytes ⟨1, cs ++ [⟨mo, 0, []⟩]⟩).length := ⟨_, rfl⟩
                have hbs := bytes_some ⟨1, cs ++ [⟨mo, 0, []⟩]⟩
                rw [← hnb] at hbs ⊢
                rw [show mayB (Pkt.mk 1 (cs ++ [⟨mo, 0, []⟩])).cs = fb from HFB2.out] at hbs
                have HB8 := hid (HB7.out.trans (hb8.mono HB7.out.size))
                clear ho8 hb8 hnb
                go_wp2_with fail
                refine (works_any _).mono ?_
                rintro e w9 ⟨rfl, hb9⟩
                have HB9 := hid (HB8.out.trans (hb9.mono HB8.out.size))
                clear hb9
                go_wp2_with fail
                go_ret
                exact ⟨rfl, HB9.out⟩
end Go.Proofs.Ytahpklciafpdaaa

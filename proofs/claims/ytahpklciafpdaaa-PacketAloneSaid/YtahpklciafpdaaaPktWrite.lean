/- packet.Write. Conditions: what comes in reads as it should, and is not huge. -/
import Derived.Test.YtahpklciafpdaaaPktSum
import Derived.Test.YtahpklciafpdaaaPktSize
import Derived.Test.YtahpklciafpdaaaBaseD
import Derived.Test.YtahpklciafpdaaaBaseC
set_option linter.unusedSimpArgs false
set_option linter.unusedVariables false
namespace Go.FL
open Go.RowKit
theorem splice_mid (a m b n : List Value) (h : m.length = n.length) : splice (a ++ (m ++ b)) a.length n = a ++ (n ++ b) := by
  have e1 : (a ++ (m ++ b)).drop (a.length + n.length) = b := by
    rw [← List.append_assoc, ← h, ← List.length_append, List.drop_left]
  unfold splice
  rw [List.take_left, e1]
end Go.FL
namespace Go.Proofs.Ytahpklciafpdaaa
open Go.RowKit Go.FL Go.ChangeShapes

set_option maxRecDepth 20000 in
set_option maxHeartbeats 1000000 in
theorem pwrite_any (p : Pkt) (v : Value) (w : World) (h : PktAt w v p) (hs : sizesN p.cs ≤ 100000000000) :
    Calls Try.prog 14 #[v] w (RetOwn w 5 p.bytes) := by
  obtain ⟨s, rfl, hcs, ht⟩ := h
  obtain ⟨tag, cs⟩ := p
  simp only at *
  have HX := hid hcs
  obtain ⟨q, cp, rfl, hlc, hcm, hel⟩ := hcs
  have HEL := hid hel
  unfold maxLen at hcm
  clear hel
  obtain ⟨by_, hby⟩ : ∃ l, l = (Pkt.mk tag cs).bytes := ⟨_, rfl⟩
  rw [← hby]
  have HBY := hid hby
  have HMS := hid (fun (hm : mayB cs = true) => (mayB_small hm).2)
  obtain ⟨res, hres⟩ : ∃ r, r = mayB cs := ⟨_, rfl⟩
  have HRES := hid hres
  obtain ⟨n, hn⟩ : ∃ n, n = cs.length := ⟨_, rfl⟩
  have HN := hid hn
  rw [← hn] at hlc HX ⊢
  obtain ⟨l1, hl1⟩ : ∃ l, l = ([] : List UInt8) ++ beBytes 2 5000 := ⟨_, rfl⟩
  obtain ⟨l2, hl2⟩ : ∃ l, l = l1 ++ beBytes 2 5000 := ⟨_, rfl⟩
  obtain ⟨l3, hl3⟩ : ∃ l, l = l2 ++ beBytes 4 tag := ⟨_, rfl⟩
  obtain ⟨l4, hl4⟩ : ∃ l, l = l3 ++ beBytes 4 0 := ⟨_, rfl⟩
  have n1 : l1.length = 2 := by rw [hl1]; simp [beBytes_length]
  have n2 : l2.length = 4 := by rw [hl2]; simp [beBytes_length, n1]
  have n3 : l3.length = 8 := by rw [hl3]; simp [beBytes_length, n2]
  have n4 : l4.length = 12 := by rw [hl4]; simp [beBytes_length, n3]
  have HP3 := hid (show l3 = pktHead tag by rw [hl3, hl2, hl1]; simp [pktHead])
  have H1 := hid hl1
  have H2 := hid hl2
  have H3 := hid hl3
  have H4 := hid hl4
  have hw : IntKind.u64.wrap (tag : Int) = (tag : Int) := by rw [IntKind.wrap_u64]; omega
  clear hn hby hres hl1 hl2 hl3 hl4
  obtain ⟨W, hW⟩ : ∃ W, W = w.alloc (.cells #[.int .u32 (tag : Int), .slice q n cp] 25 (0, 0)) := ⟨_, rfl⟩
  have HR := hid (show RowV W w.heap.size 25 [.int .u32 (tag : Int), .slice q n cp] by rw [hW]; exact RowV.new w _ _)
  have G := hid (show Below w.heap.size w W by rw [hW]; exact (Below.refl _ _).alloc (Nat.le_refl _) _)
  have r1 := HR.out.at 1 (by simp)
  simp only [List.getElem_cons_succ, List.getElem_cons_zero] at r1
  rw [hW] at r1
  have HE := hid hW
  clear hW
  go_enter Try.func14, Try.ntmps14
  go_wp2_with fail
  rw [← HE.out]
  clear r1
  refine (may_any cs _ _ (HX.out.mono G.out)).mono ?_
  rintro e w1 ⟨rfl, hb1⟩
  rw [← HRES.out]
  have G1 := hid (gr_trans G.out hb1)
  have HR1 := hid (HR.out.mono hb1)
  clear hb1
  cases res
  · have HNL := hid (show by_ = [] by rw [HBY.out, Pkt.bytes, if_neg (by simp [← HRES.out])])
    go_wp2_with fail
    go_ret
    exact ⟨_, rfl, by rw [HNL.out]; exact Own.nil _ _ _, G1.out⟩
  have HSM := HMS.out HRES.out.symm
  have HLB := hid (show by_ = (Pkt.mk tag cs).laid (Pkt.mk tag cs).sum by rw [HBY.out, Pkt.bytes, if_pos HRES.out.symm])
  have HSM := hid HSM
  clear HMS
  go_wp2_with fail
  refine (put_at _ [] 5000 2 _ _ rfl rfl (by omega) _ (Rd.nil _) (by simp) (by omega)).mono ?_
  rintro e w2 ⟨v2, rfl, ho2, hb2⟩
  rw [← H1.out] at ho2
  have HO2 := hid (ho2.base G1.out.size)
  have G2 := hid (gr_trans G1.out hb2)
  have HR2 := hid (HR1.out.mono hb2)
  clear ho2 hb2
  go_wp2_with fail
  refine (put_at _ l1 5000 2 _ _ rfl rfl (by omega) _ HO2.out.rd (by omega) (by omega)).mono ?_
  rintro e w3 ⟨v3, rfl, ho3, hb3⟩
  rw [← H2.out] at ho3
  have HO3 := hid (ho3.base G2.out.size)
  have G3 := hid (gr_trans G2.out hb3)
  have HR3 := hid (HR2.out.mono hb3)
  have r0 := HR3.out.at 0 (by simp)
  simp only [List.getElem_cons_succ, List.getElem_cons_zero] at r0
  clear ho3 hb3
  go_wp2_with fail
  refine (put_at _ l2 tag 4 _ _ rfl rfl (by omega) _ HO3.out.rd (by omega) (by omega)).mono ?_
  rintro e w4 ⟨v4, rfl, ho4, hb4⟩
  rw [← H3.out] at ho4
  have HO4 := hid (ho4.base G3.out.size)
  have G4 := hid (gr_trans G3.out hb4)
  have HR4 := hid (HR3.out.mono hb4)
  clear ho4 hb4 r0
  go_wp2_with fail
  refine (put_at _ l3 0 4 _ _ rfl rfl (by omega) _ HO4.out.rd (by omega) (by omega)).mono ?_
  rintro e w5 ⟨v5, rfl, ho5, hb5⟩
  rw [← H4.out] at ho5
  have HO5 := hid (ho5.base G4.out.size)
  have G5 := hid (gr_trans G4.out hb5)
  have HR5 := hid (HR4.out.mono hb5)
  have r1 := HR5.out.at 1 (by simp)
  simp only [List.getElem_cons_succ, List.getElem_cons_zero] at r1
  clear ho5 hb5
  go_wp2_with fail
  clear r1
  go_loopw [3, 21] (fun y y9 wr => ∃ i : Nat, i ≤ n ∧ y9 = .int .i64 (i : Int) ∧ Hid (Own wr w.heap.size 5 y (l4 ++ chunksB (cs.take i))) ∧ Hid (Below w.heap.size w wr)) (fun _ y9 _ => n - (intOf y9).toNat)
  case atStart => exact ⟨0, Nat.zero_le _, rfl, hid (by simpa [chunksB] using HO5.out), G5⟩
  case round =>
    obtain ⟨i, hi, rfl, HO, HB⟩ := hrel
    by_cases hlt : i < n
    · have hlt2 : i < cs.length := by rw [← HN.out]; exact hlt
      obtain ⟨gb, go, sl, rfl, k0, k1, k2, hrd⟩ := HEL.out i hlt2
      have h0 := cell?_of_below HB.out k0
      have h1 := cell?_of_below HB.out k1
      have h2 := cell?_of_below HB.out k2
      have HST := hid (chunksB_take cs i hlt2)
      have HLE := hid (sizesN_at cs i hlt2)
      have HSL := hid (hrd.mono HB.out)
      have HCL := hid (sizeC_bytes cs[i] (HSM.out _ (List.getElem_mem hlt2)))
      have HTL := hid (chunksB_length (cs.take i) (fun c hc => HSM.out c (List.mem_of_mem_take hc)))
      have i0 : (0 : Int) ≤ (i : Int) := by omega
      have i1 : (i : Int) < (n : Int) := by omega
      have i2 : ((i : Int)).toNat = i := by omega
      generalize cs[i] = cx at *
      obtain ⟨kk, ff, b⟩ := cx
      simp only at h0 h1 h2 hrd HSL
      obtain ⟨ps, cps, rfl, -, -, -, -⟩ := hrd
      have GA := hid (show Below w.heap.size w (wr.alloc (.cells #[.int .u8 (kk.toNat : Int), .int .u8 (ff.toNat : Int), .slice ps b.length cps] 41 (0, 0))) from HB.out.alloc HB.out.size _)
      have HSA := hid (HSL.out.mono ((Below.refl wr.heap.size wr).alloc (Nat.le_refl _) (.cells #[.int .u8 (kk.toNat : Int), .int .u8 (ff.toNat : Int), .slice ps b.length cps] 41 (0, 0))))
      have HOA := hid (HO.out.mono ((Below.refl wr.heap.size wr).alloc (Nat.le_refl _) (.cells #[.int .u8 (kk.toNat : Int), .int .u8 (ff.toNat : Int), .slice ps b.length cps] 41 (0, 0))))
      clear k0 k1 k2 hlt2
      go_wp2_with fail
      refine (cwrite_all _ ⟨kk, ff, b⟩ _ ⟨_, rfl, HSA.out⟩).mono ?_
      rintro e w1 ⟨v1, rfl, ho1, hb1⟩
      have HB1 := hid (gr_trans GA.out hb1)
      have HO1 := hid (HOA.out.mono hb1)
      have HC1 := hid ho1.rd
      clear hb1 ho1 h0 h1 h2
      go_wp2_with (at_builtin; refine wpList_append_Own rfl (.tmp 25) (.tmp 27) 29 rfl _ 5 Try.underlying29 infoU8p _ _ _ _ rfl HO1.out rfl HC1.out ?hlen HB1.out.size ?_)
      case hlen =>
        rw [List.length_append, HTL.out, HCL.out, n4]
        have := HLE.out
        omega
      intro v2 w2 ho2 hg2
      have HO2 := hid (show Own w2 w.heap.size 5 v2 (l4 ++ chunksB (cs.take (i + 1))) by rw [HST.out]; simpa using ho2)
      have HB2 := hid (HB1.out.grown hg2 HB1.out.size (fun k hk => HO1.out.ge k hk))
      clear ho2 hg2
      go_wp2_with fail
      go_roundw
      case rel => exact ⟨i + 1, by omega, by go_num, HO2, HB2⟩
      case measure => simp [intOf]; omega
    · obtain rfl : i = n := by omega
      have hli := HN.out
      rw [List.take_of_length_le (by rw [← hli]; exact Nat.le_refl _)] at HO
      have HZL := hid (show l4 ++ chunksB cs = (Pkt.mk tag cs).laid 0 by rw [H4.out, HP3.out, Pkt.laid]; simp)
      obtain ⟨cb, hcb⟩ : ∃ l, l = chunksB cs := ⟨_, rfl⟩
      have HTL := hid (show cb.length ≤ 100000000000 by rw [hcb, chunksB_length cs HSM.out]; exact hs)
      rw [← hcb] at HO HZL
      have HLB2 := hid (show by_ = l3 ++ (beBytes 4 (Pkt.mk tag cs).sum ++ cb) by rw [HLB.out, Pkt.laid, HP3.out, hcb])
      obtain ⟨lz, hlz⟩ : ∃ l, l = l4 ++ cb := ⟨_, rfl⟩
      have hnz : lz.length = 12 + cb.length := by rw [hlz, List.length_append, n4]
      have HLZ := hid hlz
      rw [← hlz] at HO HZL
      obtain ⟨sm, hsm⟩ : ∃ x, x = (Pkt.mk tag cs).sum := ⟨_, rfl⟩
      have HSM2 := hid (show sm = sumB lz by rw [HZL.out, sumB_laid, hsm]; rfl)
      rw [← hsm] at HLB2
      have HSML := hid (show sm < 4294967296 by rw [hsm]; exact Pkt.sum_lt _)
      clear hcb hlz hsm
      rcases HO.out with ⟨-, he⟩ | ⟨g, sp, hg, rfl, hrow, hmx⟩
      · exact absurd hnz (by rw [he]; simp; omega)
      unfold maxLen at hmx
      have HOZ := hid (show Own wr w.heap.size 5 _ lz from HO.out)
      have HROW := hid (RowV.of_row hrow)
      clear HO hrow
      obtain ⟨m, hm⟩ : ∃ m, m = lz.length := ⟨_, rfl⟩
      have HM := hid hm
      rw [← hm] at HOZ hnz hmx ⊢
      obtain ⟨m8, hm8⟩ : ∃ x, x = m - 8 := ⟨_, rfl⟩
      have hsf : sliced (some ⟨g, 0, none⟩) 8 m (m + sp.length) 1 = .slice (some ⟨g, 8, none⟩) m8 (m + sp.length - 8) := by
        rw [sliced, if_neg (by omega), hm8]
        simp [Addr.add]
      have HS8 := hid (show ∀ wx, (Instr.slice 29 (.slice (some ⟨g, 0, none⟩) m (m + sp.length)) (some (.int .i64 8)) none none).run Try.prog wx = .ok (.slice (some ⟨g, 8, none⟩) m8 (m + sp.length - 8)) wx from fun wx => by
        have hh := run_slice_from32 (P := Try.prog) 29 5 Try.underlying29 (by kernel_rfl) (some ⟨g, 0, none⟩) m (m + sp.length) 8 (by omega) .i64 wx
        rw [hsf] at hh
        exact hh)
      have HM8B := hid (show 4 ≤ m8 ∧ m8 + 8 = m by omega)
      have HNZ := hid hnz
      clear hm hsf hm8 hnz
      go_wp2_with fail
      refine wp_region_tail 4 [Is (.slice (some ⟨g, 0, none⟩) m (m + sp.length)), Is (.slice (some ⟨g, 8, none⟩) m8 (m + sp.length - 8)), Is (.slice (some ⟨g, 0, none⟩) m (m + sp.length)), OwnF wr.heap.size 5 (beBytes 4 sm)] (by kernel_rfl) (by kernel_rfl) (by kernel_rfl) (by kernel_rfl) (by kernel_rfl) (by kernel_rfl) ?_ ?_ ?_
      · simp only [StabAll, Is.gr, RdF.gr, OwnF.gr, AnyF.gr, and_self]
      · rename_i Kk hKk; clear hKk Kk
        simp only [List.take_succ_cons, List.take_zero, AllOps, List.map_cons, List.map_nil, depsOf, List.filterMap_cons, List.filterMap_nil, Region.binds, depFacts, guardF, reduceIte, List.getD_eq_getElem?_getD, List.getElem?_cons_succ, List.getElem?_cons_zero, Option.getD_some, factAt, and_true]
        refine ⟨?_, ?_, ?_, ?_⟩
        all_goals intro ρ wv hρ hR hd
        all_goals try simp only [Is] at hd
        · exact opOk_move (.inl rfl) ⟨by simp only [Is]; (first | exact hρ.2 3 rfl | exact hd | exact hd.1 | exact hd.2 | simp [hd]), GrR.refl _⟩
        · (exact opOk_val (v := .slice (some ⟨g, 8, none⟩) m8 (m + sp.length - 8)) (w' := wv) (by simp [execOp, go_sem, hd, hρ.1.const, HS8.out]) ⟨rfl, GrR.refl _⟩)
        · exact opOk_move (.inl rfl) ⟨by simp only [Is]; (first | exact hρ.2 3 rfl | exact hd | exact hd.1 | exact hd.2 | simp [hd]), GrR.refl _⟩
        · exact opOk_call hρ.1 rfl rfl Try.func34 (by kernel_rfl) rfl (by simp [hd, hρ.1.const, hρ.1.func]) ((psum_any _ lz _ (HOZ.out.rd.mono hR) (by have := HM.out; have := HNZ.out; omega)).mono fun e w' ⟨v', h1, h2, h3⟩ => ⟨v', h1, by have := h2.base hR.size; rw [← HSM2.out] at this; exact this, h3⟩)
      · intro vals wv hR hall
        have h3 := hall 3 (by simp)
        have h1 := hall 1 (by simp)
        simp only [factAt, OwnF, Is, List.getD_eq_getElem?_getD, List.getElem?_cons_succ, List.getElem?_cons_zero, Option.getD_some] at h3 h1
        clear hall
        obtain ⟨vs, hvs⟩ : ∃ x, x = vals 3 := ⟨_, rfl⟩
        rw [← hvs] at h3
        have HROW2 := hid (HROW.out.mono hR)
        have HB2 := hid (gr_trans HB.out hR)
        obtain ⟨w3, hcp, hr3, hg3⟩ := run_copy_rd (P := Try.prog) wv 29 29 3 5 Try.underlying29 (by kernel_rfl) g 8 m8 (m + sp.length - 8) _ _ h3.rd 4 (by rw [beBytes_length]; exact (Nat.min_eq_left HM8B.out.1).symm) _ _ HROW2.out (by have := HM8B.out; rw [bytesV_length, List.length_append, ← HM.out]; omega)
        rw [List.take_of_length_le (by rw [beBytes_length]; exact Nat.le_refl _)] at hr3
        have HRZ := hid (show RowV w3 g 5 (bytesV (by_ ++ sp)) by
          rw [HLZ.out, H4.out, bytesV_append, bytesV_append, bytesV_append, List.append_assoc, List.append_assoc] at hr3
          have e8 : 8 = (bytesV l3).length := by rw [bytesV_length, n3]
          rw [e8, splice_mid _ _ _ _ (by rw [bytesV_length, bytesV_length, beBytes_length, beBytes_length])] at hr3
          rw [HLB2.out]
          simpa [bytesV_append] using hr3)
        have HBL := hid (show by_.length = m by rw [HLB2.out, List.length_append, List.length_append, beBytes_length, n3, HNZ.out]; omega)
        have HB3 := hid (HB2.out.trans (gb_below hg3 (by omega) HB2.out.size))
        clear hr3 hg3 h3 hR
        simp only [List.take_succ_cons, List.take_zero, List.drop_succ_cons, List.drop_zero, fillFrom, Act.put, h1, ← hvs, List.setIfInBounds_toArray, List.set_cons_zero, List.set_cons_succ, Nat.zero_add, Nat.reduceAdd]
        clear h1 hvs
        go_wp2_with fail
        go_ret
        exact ⟨.slice (some ⟨g, 0, none⟩) m (m + sp.length), rfl, .inr ⟨g, sp, hg, by rw [HBL.out], HRZ.out.to_row, by rw [HBL.out]; exact hmx⟩, HB3.out⟩
end Go.Proofs.Ytahpklciafpdaaa

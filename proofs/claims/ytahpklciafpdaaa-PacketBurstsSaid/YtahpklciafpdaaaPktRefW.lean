/- The document's bytes of a packet. Conditions: what comes in reads as it should, and is not huge. -/
import Derived.Test.YtahpklciafpdaaaPktWrite
import Derived.Test.YtahpklciafpdaaaChunkRefP
import Derived.Test.YtahpklciafpdaaaBaseG
set_option linter.unusedSimpArgs false
set_option linter.unusedVariables false
namespace Go.FL
open Go.RowKit
theorem own_row_ne {w : World} {base e e' g : Nat} {v : Value} {l : List UInt8} {m : List Value} (h : Own w base e v l) (k : RowV w g e' m) (hne : e ≠ e') : v.ownBlock ≠ some g := by
  intro hv
  rcases h with ⟨rfl, rfl⟩ | ⟨g', sp, h1, rfl, hr, hm⟩
  · simp [Value.ownBlock] at hv
  · simp [Value.ownBlock] at hv
    subst hv
    unfold Row at hr
    unfold RowV at k
    rw [hr] at k
    injection k with k
    injection k with _ he
    exact hne he
end Go.FL
namespace Go.Proofs.Ytahpklciafpdaaa
open Go.RowKit Go.FL Go.ChangeShapes

set_option maxRecDepth 20000 in
set_option maxHeartbeats 1000000 in
theorem rlaid_any (p : Pkt) (sm : Nat) (v : Value) (w : World) (h : PktAt w v p) (hsm : sm < 4294967296) (hs : sizesN p.cs ≤ 100000000000) (hb : ∀ c ∈ p.cs, c.b.length ≤ 65531) :
    Calls Try.prog 37 #[v, .int .u32 (sm : Int)] w (RetOwn w 5 (p.laid sm)) := by
  obtain ⟨s, rfl, hcs, ht⟩ := h
  obtain ⟨tag, cs⟩ := p
  simp only at *
  obtain ⟨q, cp, rfl, hlc, hcm, hel⟩ := hcs
  have HEL := hid hel
  have HSM := hid hb
  unfold maxLen at hcm
  clear hel hb
  obtain ⟨by_, hby⟩ : ∃ l, l = (Pkt.mk tag cs).laid sm := ⟨_, rfl⟩
  rw [← hby]
  have HBY := hid hby
  obtain ⟨n, hn⟩ : ∃ n, n = cs.length := ⟨_, rfl⟩
  have HN := hid hn
  rw [← hn] at hlc ⊢
  obtain ⟨l1, hl1⟩ : ∃ l, l = ([] : List UInt8) ++ beBytes 2 5000 := ⟨_, rfl⟩
  obtain ⟨l2, hl2⟩ : ∃ l, l = l1 ++ beBytes 2 5000 := ⟨_, rfl⟩
  obtain ⟨l3, hl3⟩ : ∃ l, l = l2 ++ beBytes 4 tag := ⟨_, rfl⟩
  obtain ⟨l4, hl4⟩ : ∃ l, l = l3 ++ beBytes 4 sm := ⟨_, rfl⟩
  have n1 : l1.length = 2 := by rw [hl1]; simp [beBytes_length]
  have n2 : l2.length = 4 := by rw [hl2]; simp [beBytes_length, n1]
  have n3 : l3.length = 8 := by rw [hl3]; simp [beBytes_length, n2]
  have n4 : l4.length = 12 := by rw [hl4]; simp [beBytes_length, n3]
  have HP4 := hid (show by_ = l4 ++ chunksB cs by rw [hby, hl4, hl3, hl2, hl1]; simp [Pkt.laid, pktHead])
  have H1 := hid hl1
  have H2 := hid hl2
  have H3 := hid hl3
  have H4 := hid hl4
  have hw : IntKind.u64.wrap (tag : Int) = (tag : Int) := by rw [IntKind.wrap_u64]; omega
  have hw2 : IntKind.u64.wrap (sm : Int) = (sm : Int) := by rw [IntKind.wrap_u64]; omega
  clear hn hby hl1 hl2 hl3 hl4
  obtain ⟨W, hW⟩ : ∃ W, W = w.alloc (.cells #[.int .u32 (tag : Int), .slice q n cp] 25 (0, 0)) := ⟨_, rfl⟩
  have HR := hid (show RowV W w.heap.size 25 [.int .u32 (tag : Int), .slice q n cp] by rw [hW]; exact RowV.new w _ _)
  have G := hid (show Below w.heap.size w W by rw [hW]; exact (Below.refl _ _).alloc (Nat.le_refl _) _)
  have HE := hid hW
  clear hW
  go_enter Try.func37, Try.ntmps37
  go_wp2_with fail
  rw [← HE.out]
  refine (refPut_at _ [] 5000 2 _ _ rfl rfl (by omega) _ (Rd.nil _) (by simp) (by omega)).mono ?_
  rintro e w2 ⟨v2, rfl, ho2, hb2⟩
  rw [← H1.out] at ho2
  have HO2 := hid (ho2.base G.out.size)
  have G2 := hid (gr_trans G.out hb2)
  have HR2 := hid (HR.out.mono hb2)
  clear ho2 hb2
  go_wp2_with fail
  refine (refPut_at _ l1 5000 2 _ _ rfl rfl (by omega) _ HO2.out.rd (by omega) (by omega)).mono ?_
  rintro e w3 ⟨v3, rfl, ho3, hb3⟩
  rw [← H2.out] at ho3
  have HO3 := hid (ho3.base G2.out.size)
  have G3 := hid (gr_trans G2.out hb3)
  have HR3 := hid (HR2.out.mono hb3)
  have r0 := HR3.out.at 0 (by simp)
  simp only [List.getElem_cons_succ, List.getElem_cons_zero] at r0
  clear ho3 hb3
  go_wp2_with fail
  refine (refPut_at _ l2 tag 4 _ _ rfl rfl (by omega) _ HO3.out.rd (by omega) (by omega)).mono ?_
  rintro e w4 ⟨v4, rfl, ho4, hb4⟩
  rw [← H3.out] at ho4
  have HO4 := hid (ho4.base G3.out.size)
  have G4 := hid (gr_trans G3.out hb4)
  have HR4 := hid (HR3.out.mono hb4)
  clear ho4 hb4 r0
  go_wp2_with fail
  refine (refPut_at _ l3 sm 4 _ _ rfl rfl (by omega) _ HO4.out.rd (by omega) (by omega)).mono ?_
  rintro e w5 ⟨v5, rfl, ho5, hb5⟩
  rw [← H4.out] at ho5
  have HO5 := hid (ho5.base G4.out.size)
  have G5 := hid (gr_trans G4.out hb5)
  have HR5 := hid (HR4.out.mono hb5)
  clear ho5 hb5
  go_wp2_with fail
  go_loopw [5, 6] (fun y y9 wr => ∃ i : Nat, i ≤ n ∧ y9 = .int .i64 (i : Int) ∧ Hid (Own wr w.heap.size 5 y (l4 ++ chunksB (cs.take i))) ∧ Hid (RowV wr w.heap.size 25 [.int .u32 (tag : Int), .slice q n cp]) ∧ Hid (Below w.heap.size w wr)) (fun _ y9 _ => n - (intOf y9).toNat)
  case atStart => exact ⟨0, Nat.zero_le _, rfl, hid (by simpa [chunksB] using HO5.out), HR5, G5⟩
  case round =>
    obtain ⟨i, hi, rfl, HO, HRW, HB⟩ := hrel
    have f1 := HRW.out.at 1 (by simp)
    simp only [List.getElem_cons_succ, List.getElem_cons_zero] at f1
    by_cases hlt : i < n
    · have hlt2 : i < cs.length := by rw [← HN.out]; exact hlt
      obtain ⟨gb, go, sl, rfl, k0, k1, k2, hrd⟩ := HEL.out i hlt2
      have h0 := cell?_of_below HB.out k0
      have h1 := cell?_of_below HB.out k1
      have h2 := cell?_of_below HB.out k2
      have HST := hid (chunksB_take cs i hlt2)
      have HLE := hid (sizesN_at cs i hlt2)
      have HSL := hid (hrd.mono HB.out)
      have HCB := hid (HSM.out _ (List.getElem_mem hlt2))
      have HCL := hid (sizeC_bytes cs[i] HCB.out)
      have HTL := hid (chunksB_length (cs.take i) (fun c hc => HSM.out c (List.mem_of_mem_take hc)))
      have i0 : (0 : Int) ≤ (i : Int) := by omega
      have i1 : (i : Int) < (n : Int) := by omega
      have i2 : ((i : Int)).toNat = i := by omega
      generalize cs[i] = cx at *
      obtain ⟨kk, ff, b⟩ := cx
      simp only at h0 h1 h2 hrd HSL HCB
      obtain ⟨ps, cps, rfl, -, -, -, -⟩ := hrd
      clear k0 k1 k2 hlt2
      go_wp2_with fail
      refine (rwrite_any _ ⟨kk, ff, b⟩ _ ⟨_, rfl, HSL.out⟩ (by have := HCB.out; simp only; omega)).mono ?_
      rintro e w1 ⟨v1, rfl, ho1, hb1⟩
      have HB1 := hid (gr_trans HB.out hb1)
      have HO1 := hid (HO.out.mono hb1)
      have HR1 := hid (HRW.out.mono hb1)
      have HC1 := hid ho1.rd
      clear hb1 ho1 h0 h1 h2 f1
      go_wp2_with (at_builtin; refine wpList_append_Own rfl (.tmp 26) (.tmp 32) 29 rfl _ 5 Try.underlying29 infoU8p _ _ _ _ rfl HO1.out rfl HC1.out ?hlen HB1.out.size ?_)
      case hlen =>
        rw [List.length_append, HTL.out, HCL.out, n4]
        have := HLE.out
        omega
      intro v2 w2 ho2 hg2
      have HO2 := hid (show Own w2 w.heap.size 5 v2 (l4 ++ chunksB (cs.take (i + 1))) by rw [HST.out]; simpa using ho2)
      have HB2 := hid (HB1.out.grown hg2 HB1.out.size (fun k hk => HO1.out.ge k hk))
      have HR2 := hid (HR1.out.grown hg2 (fun e => by have := own_row_ne HO1.out HR1.out (by decide); exact this e))
      clear ho2 hg2
      go_wp2_with fail
      go_roundw
      case rel => exact ⟨i + 1, by omega, by go_num, HO2, HR2, HB2⟩
      case measure => simp [intOf]; omega
    · obtain rfl : i = n := by omega
      have hli := HN.out
      rw [List.take_of_length_le (by rw [← hli]; exact Nat.le_refl _)] at HO
      go_wp2_with fail
      go_ret
      exact ⟨_, rfl, by rw [HP4.out]; exact HO.out, HB.out⟩

set_option maxRecDepth 20000 in
set_option maxHeartbeats 1000000 in
theorem refpwrite_any (p : Pkt) (v : Value) (w : World) (h : PktAt w v p) (hs : sizesN p.cs ≤ 100000000000) :
    Calls Try.prog 17 #[v] w (RetOwn w 5 p.bytes) := by
  have HP := hid h
  obtain ⟨s, rfl, hcs, ht⟩ := h
  obtain ⟨q, cp, rfl, hlc, hcm, -⟩ := id hcs
  unfold maxLen at hcm
  have HX := hid hcs
  have HMS := hid (fun (hm : mayB p.cs = true) => (mayB_small hm).2)
  obtain ⟨by_, hby⟩ : ∃ l, l = p.bytes := ⟨_, rfl⟩
  rw [← hby]
  have HBY := hid hby
  obtain ⟨res, hres⟩ : ∃ r, r = mayB p.cs := ⟨_, rfl⟩
  have HRES := hid hres
  obtain ⟨n, hn⟩ : ∃ n, n = p.cs.length := ⟨_, rfl⟩
  obtain ⟨tg, htg⟩ : ∃ n, n = p.tag := ⟨_, rfl⟩
  rw [← hn] at hlc HX HP ⊢
  rw [← htg] at HP ⊢
  clear hn hby hres htg hcs
  obtain ⟨W, hW⟩ : ∃ W, W = w.alloc (.cells #[.int .u32 (tg : Int), .slice q n cp] 25 (0, 0)) := ⟨_, rfl⟩
  have HR := hid (show RowV W w.heap.size 25 [.int .u32 (tg : Int), .slice q n cp] by rw [hW]; exact RowV.new w _ _)
  have G := hid (show Below w.heap.size w W by rw [hW]; exact (Below.refl _ _).alloc (Nat.le_refl _) _)
  have r1 := HR.out.at 1 (by simp)
  simp only [List.getElem_cons_succ, List.getElem_cons_zero] at r1
  rw [hW] at r1
  have HE := hid hW
  clear hW
  go_enter Try.func17, Try.ntmps17
  go_wp2_with fail
  rw [← HE.out]
  clear r1
  refine (rmay_any p.cs _ _ (HX.out.mono G.out)).mono ?_
  rw [← HRES.out]
  rintro e w1 ⟨rfl, hb1⟩
  have G1 := hid (gr_trans G.out hb1)
  have HR1 := hid (HR.out.mono hb1)
  have HP1 := hid (HP.out.mono G1.out)
  clear hb1
  cases res
  · have HNL := hid (show by_ = [] by rw [HBY.out, Pkt.bytes, if_neg (by simp [← HRES.out])])
    go_wp2_with fail
    go_ret
    exact ⟨_, rfl, by rw [HNL.out]; exact Own.nil _ _ _, G1.out⟩
  have HSM := hid (HMS.out HRES.out.symm)
  have HLB := hid (show by_ = p.laid p.sum by rw [HBY.out, Pkt.bytes, if_pos HRES.out.symm])
  have hsum := p.sum_lt
  obtain ⟨sm, hsm⟩ : ∃ x, x = p.sum := ⟨_, rfl⟩
  rw [← hsm] at hsum HLB
  have HSUM := hid (show sm = (crcExt 0#32 (p.laid 0)).toNat from hsm)
  have HCX := hid hs
  clear HMS hsm
  go_wp2_with fail
  refine wp_region_gr [Is (.agg ([.int .u32 (tg : Int), .slice q n cp]).toArray), Is (.agg ([.int .u32 (tg : Int), .slice q n cp]).toArray), RdF (p.laid 0), Is (.int .u32 (sm : Int)), OwnF w1.heap.size 5 by_, OwnF w1.heap.size 5 by_] (by kernel_rfl) (by kernel_rfl) (by kernel_rfl) ?_ ?_ ?_
  · simp only [StabAll, Is.gr, RdF.gr, OwnF.gr, AnyF.gr, and_self]
  · rename_i Kk hKk; clear hKk Kk
    simp only [AllOps, List.map_cons, List.map_nil, depsOf, List.filterMap_cons, List.filterMap_nil, Region.binds, depFacts, guardF, reduceIte, List.getD_eq_getElem?_getD, List.getElem?_cons_succ, List.getElem?_cons_zero, Option.getD_some, factAt, and_true]
    refine ⟨?_, ?_, ?_, ?_, ?_, ?_⟩
    all_goals intro ρ wv hρ hR hd
    all_goals try simp only [Is] at hd
    · exact opOk_loadRow rfl (w.heap.size) (by first | exact hρ.2 _ rfl | simp [hd]) _ ([.int .u32 (tg : Int), .slice q n cp]) _ (HR1.out.mono hR) Try.underlying25 rfl (by kernel_rfl) ⟨rfl, GrR.refl _⟩
    · exact opOk_loadRow rfl (w.heap.size) (by first | exact hρ.2 _ rfl | simp [hd]) _ ([.int .u32 (tg : Int), .slice q n cp]) _ (HR1.out.mono hR) Try.underlying25 rfl (by kernel_rfl) ⟨rfl, GrR.refl _⟩
    · exact opOk_call hρ.1 rfl rfl Try.func37 (by kernel_rfl) rfl (by simp [hd, hρ.1.const, hρ.1.func]) ((rlaid_any p 0 _ _ (HP1.out.mono hR) (by omega) HCX.out HSM.out).mono fun e w' ⟨v', h1, h2, h3⟩ => ⟨v', h1, h2.rd, h3⟩)
    · exact opOk_call hρ.1 rfl rfl Try.func38 (by kernel_rfl) rfl (by simp [hd, hρ.1.const, hρ.1.func]) ((refSum_any (ρ (.tmp 9)) (p.laid 0) _ (by first | exact hd.1 | exact hd)).mono fun e w' ⟨h1, h2⟩ => ⟨_, h1, (by rw [HSUM.out]; rfl), h2 ▸ GrR.refl _⟩)
    · exact opOk_call hρ.1 rfl rfl Try.func37 (by kernel_rfl) rfl (by simp [hd, hρ.1.const, hρ.1.func]) ((rlaid_any p sm _ _ (HP1.out.mono hR) hsum HCX.out HSM.out).mono fun e w' ⟨v', h1, h2, h3⟩ => ⟨v', h1, by have := h2.base hR.size; rw [← HLB.out] at this; exact this, h3⟩)
    · exact opOk_move (.inr rfl) ⟨(by first | exact hd | exact hd.1), GrR.refl _⟩
  · intro vals wv hR hall
    have h5 := hall 5 (by simp)
    simp only [factAt, OwnF, List.getD_eq_getElem?_getD, List.getElem?_cons_succ, List.getElem?_cons_zero, Option.getD_some] at h5
    clear hall
    obtain ⟨vz, hvz⟩ : ∃ x, x = vals 5 := ⟨_, rfl⟩
    rw [← hvz] at h5
    simp only [fillFrom, Act.put, ← hvz, List.setIfInBounds_toArray, List.set_cons_zero, List.set_cons_succ, Nat.zero_add, Nat.reduceAdd]
    have HV5 := hid (h5.base G1.out.size)
    have G5 := hid (gr_trans G1.out hR)
    clear hR h5 hvz
    go_wp2_with fail
    go_ret
    exact ⟨_, rfl, HV5.out, G5.out⟩
end Go.Proofs.Ytahpklciafpdaaa

/- The document's Fits: whether a packet may have one chunk more. Conditions: not too many, not too long. -/
import Derived.Test.YtahpklciafpdaaaPktFits
set_option linter.unusedSimpArgs false
set_option linter.unusedVariables false
namespace Go.Proofs.Ytahpklciafpdaaa
open Go.RowKit Go.FL Go.ChangeShapes

set_option maxRecDepth 100000 in
set_option maxHeartbeats 2000000 in
theorem rfits_any (p : Pkt) (c : Chk) (mtu : Int) (v u : Value) (w : World) (h : PktAt w v p) (k : ChkAt w u c) (hn : p.cs.length ≤ 1000000) (hs : sizesN p.cs ≤ 10000000000) (hc : c.b.length ≤ 10000000000) :
    Calls Try.prog 28 #[v, u, .int .i64 mtu] w fun e w' => e = .returned (.bool (fitsB p c mtu)) ∧ Below w.heap.size w w' := by
  obtain ⟨sl, rfl, hcs, ht⟩ := h
  obtain ⟨s, rfl, hrs⟩ := k
  obtain ⟨tg, cs⟩ := p
  simp only at *
  obtain ⟨q, cp, rfl, hle, hcm, -⟩ := id hcs
  unfold maxLen at hcm
  obtain ⟨ss, hl⟩ := hcs.cells
  obtain ⟨n, hnn⟩ : ∃ n, n = cs.length := ⟨_, rfl⟩
  have HN := hid hnn
  have HN6 := hid hn
  have HSZ := hid hs
  have HCB := hid hc
  obtain ⟨ps, cps, hsl, hslc, hscm, -⟩ := id hrs
  have HSS := hid (show s.oneCell' = true by rw [hsl]; rfl)
  rw [← hnn] at hle hn
  rw [show (Value.slice q cs.length cp) = .slice q n cp by rw [hnn]] at hcs hl ⊢
  obtain ⟨W0, hW0⟩ : ∃ W, W = w.alloc (.cells #[.int .u32 (tg : Int), .slice q n cp] 25 (0, 0)) := ⟨_, rfl⟩
  have hs0 : W0.heap.size = w.heap.size + 1 := by rw [hW0]; simp
  obtain ⟨W, hW⟩ : ∃ W, W = W0.alloc (.cells #[.int .u8 (c.k.toNat : Int), .int .u8 (c.f.toNat : Int), s] 41 (0, 0)) := ⟨_, rfl⟩
  have HP := hid (show RowV W w.heap.size 25 [.int .u32 (tg : Int), .slice q n cp] by rw [hW, hW0]; exact (RowV.new w _ _).alloc _)
  have HC := hid (show RowV W (w.heap.size + 1) 41 [.int .u8 (c.k.toNat : Int), .int .u8 (c.f.toNat : Int), s] by rw [hW, ← hs0]; exact RowV.new W0 _ _)
  have G0 := hid (show Below w.heap.size w W by rw [hW, hW0]; exact ((Below.refl _ _).alloc (Nat.le_refl _) _).alloc (by simp) _)
  have S0 := hid (show W.heap.size = w.heap.size + 2 by rw [hW]; simp [hs0])
  have HL := hid (hl.mono G0.out)
  have HRS := hid (hrs.mono G0.out)
  have HONEC := hid (show ∀ u ∈ chkCell c s, u.oneCell' = true from fun u hu => by
    simp only [chkCell, List.mem_cons, List.not_mem_nil, or_false] at hu
    rcases hu with rfl | rfl | rfl
    · rfl
    · rfl
    · exact HSS.out)
  have HONE := hid (chkCells_one cs ss hl.2.2.2)
  obtain ⟨mb, hmb⟩ : ∃ b, mayB (cs ++ [c]) = b := ⟨_, rfl⟩
  have HMB := hid hmb
  obtain ⟨tt, htt⟩ : ∃ b, (⟨0, cs ++ [c]⟩ : Pkt).size = b := ⟨_, rfl⟩
  have HPS := hid htt
  obtain ⟨lb, hlb⟩ : ∃ b, decide ((tt : Int) ≤ mtu) = b := ⟨_, rfl⟩
  have HLB := hid hlb
  have HSZ2 := hid (show sizesN (cs ++ [c]) ≤ 100000000000 by
    rw [sizesN_append]
    have h1 : sizesN [c] = sizeC c := by simp [sizesN]
    have h2 : sizeC c ≤ 10000000100 := by
      rw [sizeC]
      have := roundN_lt c.b.length
      omega
    rw [h1]
    have := HSZ.out
    omega)
  have HRES := hid (show fitsB ⟨tg, cs⟩ c mtu = (mb && lb) by
    have e1 := size_snoc ⟨0, cs⟩ c
    have e2 : (⟨0, cs⟩ : Pkt).size = (⟨tg, cs⟩ : Pkt).size := rfl
    rw [fitsB, hmb, ← e2, ← e1, htt, hlb])
  have HL0 := hid hl
  have HRS0 := hid hrs
  clear hmb htt hcs hl hrs hnn hs hc ht hsl hslc hscm
  rw [hW0] at hW
  have p1 := HP.out.at 1 (by simp)
  have d0 := HC.out.at 0 (by simp)
  have d1 := HC.out.at 1 (by simp)
  have d2 := HC.out.at 2 (by simp)
  simp only [List.getElem_cons_succ, List.getElem_cons_zero] at p1 d0 d1 d2
  rw [hW] at p1 d0 d1 d2
  have HE := hid hW
  clear hW hW0 hs0 W0
  go_enter Try.func28, Try.ntmps28
  go_wp2_with (at_builtin; rw [← HE.out]; refine wpList_append_OwnL rfl (.tmp 8) (.tmp 10) 23 rfl w.heap.size 41 (.agg #[.int .u8 0, .int .u8 0, .slice none 0 0]) 3 32 rfl (by decide) Try.underlying23 infoChkP _ _ 0 n [] (chkCells cs ss) HONE.out rfl (OwnK.nil _ _ _ _) rfl (by have := HL.out.2.1; rwa [← HN.out] at this) ?hlen ?hlen2 G0.out.size ?_)
  case hlen => omega
  case hlen2 => omega
  intro v2 w2 ho hg hak
  have HO2 := hid ho
  obtain ⟨p2, c2, rfl⟩ := ho.form
  have hb2 : Below W.heap.size W w2 := by
    rcases hak with ⟨h9, -⟩ | ⟨g, mm, sp, h9, -⟩
    · exact h9
    · simp at h9
  have HB2 := hid (gr_trans G0.out hb2)
  have HC2 := hid (HC.out.mono hb2)
  have HRS2 := hid (HRS.out.mono hb2)
  have HL2 := hid (HL.out.mono hb2)
  clear ho hg hak hb2 p1 d0 d1 d2
  have d0 := HC2.out.at 0 (by simp)
  have d1 := HC2.out.at 1 (by simp)
  have d2 := HC2.out.at 2 (by simp)
  simp only [List.getElem_cons_succ, List.getElem_cons_zero] at d0 d1 d2
  obtain ⟨W3, hW3⟩ : ∃ W3, W3 = w2.alloc (.cells #[.int .u8 (c.k.toNat : Int), .int .u8 (c.f.toNat : Int), s] 41 (0, 0)) := ⟨_, rfl⟩
  have g3 : Below w2.heap.size w2 W3 := by rw [hW3]; exact (Below.refl _ _).alloc (Nat.le_refl _) _
  have HX3 := hid (show RdL W3 3 (.slice (some ⟨w2.heap.size, 0, none⟩) 1 1) 1 (chkCell c s) by rw [hW3]; exact (own_one w2 0 41 (chkCell c s) (Nat.zero_le _)).rdL)
  have HO3 := hid (HO2.out.mono g3)
  have HB3 := hid (gr_trans HB2.out g3)
  have HRS3 := hid (HRS2.out.mono g3)
  have HL3 := hid (HL2.out.mono g3)
  have HE3 := hid hW3
  clear hW3 g3
  go_wp2_with (at_builtin; rw [← HE3.out]; refine wpList_append_OwnL rfl (.tmp 12) (.tmp 14) 23 rfl w.heap.size 41 (.agg #[.int .u8 0, .int .u8 0, .slice none 0 0]) 3 32 rfl (by decide) Try.underlying23 infoChkP _ _ n 1 (chkCells cs ss) (chkCell c s) HONEC.out rfl HO3.out rfl HX3.out ?hlen ?hlen2 HB3.out.size ?_)
  case hlen => omega
  case hlen2 => omega
  intro v4 w4 ho hg hak
  have HO4 := hid ho
  obtain ⟨p4, c4, rfl⟩ := ho.form
  have HB4 := hid (HB3.out.grown hg HB3.out.size (fun k e => HO3.out.ge k e))
  have HAT := hid (show ChunksAt w4 (.slice p4 (n + 1) c4) (cs ++ [c]) from at_snoc HL0.out.1 (by have h9 := HO4.out.rdL; rw [← HN.out]; exact h9) (fun i a b => (HL0.out.2.2.1 i a b).mono HB4.out) (HRS0.out.mono HB4.out))
  have hc4 : c4 ≤ 9223372036854775807 := by
    obtain ⟨-, p9, c9, h9, -, h10, -⟩ := ho.rdL
    simp only [Value.slice.injEq] at h9
    unfold maxLen at h10
    omega
  clear ho hg hak d0 d1 d2
  go_wp2_with fail
  refine (rmay_any (cs ++ [c]) _ _ HAT.out).mono ?_
  rintro e w5 ⟨rfl, hb5⟩
  rw [HMB.out]
  have HB5 := hid (gr_trans HB4.out hb5)
  have HAT5 := hid (HAT.out.mono hb5)
  clear hb5
  cases mb
  · go_wp2_with fail
    go_ret
    exact ⟨by rw [HRES.out]; rfl, HB5.out⟩
  · go_wp2_with fail
    refine (rsize_any ⟨0, cs ++ [c]⟩ _ _ ⟨_, rfl, HAT5.out, by show (0 : Nat) < 4294967296; omega⟩ HSZ2.out).mono ?_
    rintro e w6 ⟨rfl, hb6⟩
    rw [HPS.out]
    have HB6 := hid (gr_trans HB5.out hb6)
    clear hb6
    have hlb := HLB.out
    go_wp2_with fail
    go_ret
    exact ⟨by rw [HRES.out]; rfl, HB6.out⟩
end Go.Proofs.Ytahpklciafpdaaa

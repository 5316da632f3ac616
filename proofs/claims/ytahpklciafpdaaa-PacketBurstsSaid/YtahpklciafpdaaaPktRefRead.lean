/- The document's Read of packets. Conditions: what comes in reads as it should, and is not huge. -/
import Derived.Test.YtahpklciafpdaaaPktRead
import Derived.Test.YtahpklciafpdaaaPktRefW
import Derived.Test.YtahpklciafpdaaaChunkRefRP
set_option linter.unusedSimpArgs false
set_option linter.unusedVariables false
namespace Go.FL
open Go.RowKit
/-- Bytes, j of them nought from the ninth on. -/
def bareTo (b : List UInt8) (j : Nat) : List UInt8 := b.take 8 ++ (List.replicate j 0 ++ b.drop (8 + j))
theorem bareTo_zero (b : List UInt8) : bareTo b 0 = b := by simp [bareTo]
theorem bareTo_four (b : List UInt8) : bareTo b 4 = bareB b := rfl
theorem bareTo_length (b : List UInt8) (j : Nat) (h : 8 + j ≤ b.length) : (bareTo b j).length = b.length := by
  simp [bareTo]
  omega
theorem bareTo_set (b : List UInt8) (j : Nat) (h : 8 + j < b.length) : (bareTo b j).set (8 + j) 0 = bareTo b (j + 1) := by
  have h8 : (b.take 8).length = 8 := by rw [List.length_take]; omega
  unfold bareTo
  rw [List.set_append_right _ _ (by omega), h8, List.set_append_right _ _ (by simp), List.drop_eq_getElem_cons h, List.length_replicate]
  simp only [show 8 + j - 8 - j = 0 by omega, List.set_cons_zero]
  rw [List.replicate_succ', show 8 + (j + 1) = 8 + j + 1 by omega]
  simp
theorem bytesV_set (l sp : List UInt8) (i : Nat) (x : UInt8) (h : i < l.length) : (bytesV (l ++ sp)).set i (.int .u8 (x.toNat : Int)) = bytesV (l.set i x ++ sp) := by
  rw [← List.set_append_left i x h]
  simp [bytesV, List.map_set]
theorem bytesV_at (l sp : List UInt8) (i : Nat) (h : i < l.length) : (bytesV (l ++ sp))[i]? = some (.int .u8 (l[i].toNat : Int)) := by
  rw [bytesV_append, List.getElem?_append_left (by rw [bytesV_length]; exact h)]
  simp [bytesV, h]
end Go.FL
namespace Go.Proofs.Ytahpklciafpdaaa
open Go.RowKit Go.FL Go.ChangeShapes

theorem rread10_ret {a : Act} {W : World} {g : Nat} {R : Ending → World → Prop} (v0 v1 : Value) (er : Int) (h2 : a.tmps.getD 2 undef = .pointer (some ⟨g, 0, none⟩)) (h3 : a.tmps.getD 3 undef = .int .i64 er) (hd : a.defers = [])
    (hc : RowV W g 25 [v0, v1]) (hR : R (.returned (.tuple #[.agg #[v0, v1], .int .i64 er])) W) : bodyPost Try.prog Try.f23 R .ret a W := by
  refine bodyPost_ret (v := .tuple #[.agg #[v0, v1], .int .i64 er]) ?_ hd hR
  have c0 : W.cell? ⟨g, 0, none⟩ = some v0 := hc.at 0 (by simp)
  have c1 : W.cell? ⟨g, 1, none⟩ = some v1 := hc.at 1 (by simp)
  simp only [Array.getD_eq_getD_getElem?] at h2 h3
  simp [results, Try.results23, go_sem, h2, h3, asAddr, c0, c1]

set_option maxRecDepth 100000 in
set_option maxHeartbeats 4000000 in
theorem refpread_any (v : Value) (b : List UInt8) (w : World) (h : Rd w v b) (hl : b.length ≤ 1000000) :
    Calls Try.prog 23 #[v] w (TellsPkt w 41 5 (readP b)) := by
  have HV := hid h
  obtain ⟨p, c, rfl, hlc, hcm, -, -⟩ := h
  unfold maxLen at hcm
  obtain ⟨n, hn⟩ : ∃ n, n = b.length := ⟨_, rfl⟩
  have HN := hid hn
  rw [← hn] at HV hlc hl ⊢
  clear hn
  obtain ⟨W, hW⟩ : ∃ W, W = w.alloc (.cells #[.int .u32 0, .slice none 0 0] 25 (0, 0)) := ⟨_, rfl⟩
  have G := hid (show Below w.heap.size w W by rw [hW]; exact (Below.refl _ _).alloc (Nat.le_refl _) _)
  have HP := hid (show RowV W w.heap.size 25 [.int .u32 0, .slice none 0 0] by rw [hW]; exact RowV.new w _ _)
  have HSW := hid (show W.heap.size = w.heap.size + 1 by rw [hW]; simp)
  have HE := hid hW
  clear hW
  by_cases hs : n < 12
  · have HRD := hid (show readP b = (.zero, 7) by rw [readP, if_pos (by rw [← HN.out]; exact hs)])
    have e1 : (n : Int) < 12 := by omega
    go_enter Try.func23, Try.ntmps23
    go_wp2_with fail
    refine rread10_ret (g := w.heap.size) (.int .u32 0) (.slice none 0 0) 7 rfl rfl rfl (RowV.new w _ _) ?_
    rw [HRD.out]
    exact ⟨_, rfl, PktOwn.zero _ _ _ _, (Below.refl _ _).alloc (Nat.le_refl _) _⟩
  · have e1 : ¬ (n : Int) < 12 := by omega
    have HV1 := hid (HV.out.mono G.out)
    have HLE := hid (show 12 ≤ b.length by rw [← HN.out]; omega)
    have hn8 := numAt_lt b 8 4
    have hn4 := numAt_lt b 4 4
    obtain ⟨sm, hsm⟩ : ∃ x, x = numAt b 8 4 := ⟨_, rfl⟩
    obtain ⟨tg, htg⟩ : ∃ x, x = numAt b 4 4 := ⟨_, rfl⟩
    have HSMQ := hid hsm
    have HTG := hid htg
    have HTL := hid (show tg < 4294967296 by rw [htg]; simpa using hn4)
    have HSL := hid (show sm < 4294967296 by rw [hsm]; simpa using hn8)
    have hw : IntKind.u32.wrap (tg : Int) = (tg : Int) := by have := HTL.out; rw [IntKind.wrap_u32]; omega
    have hw2 : IntKind.u32.wrap (sm : Int) = (sm : Int) := by have := HSL.out; rw [IntKind.wrap_u32]; omega
    obtain ⟨cs32, hcs32⟩ : ∃ x, x = sumB b := ⟨_, rfl⟩
    have HCS := hid hcs32
    have hc32 : cs32 < 4294967296 := by rw [hcs32]; exact sumB_lt b
    have hw3 : IntKind.u64.wrap (cs32 : Int) = (cs32 : Int) := by rw [IntKind.wrap_u64]; omega
    clear hsm htg hn8 hn4 hcs32
    go_enter Try.func23, Try.ntmps23
    go_wp2_with fail
    rw [← HE.out]
    refine (refGet_at _ b 8 4 _ _ rfl rfl (by omega) _ HV1.out (by rw [← HN.out]; omega)).mono ?_
    rintro e w1 ⟨er, rfl, hb1, her⟩
    rw [← HSMQ.out]
    rw [if_pos (by have := HLE.out; omega)] at her
    subst her
    have G1 := hid (gr_trans G.out hb1)
    have HP1 := hid (HP.out.mono hb1)
    have HV2 := hid (HV1.out.mono hb1)
    have HS1 := hid (show w.heap.size + 1 ≤ w1.heap.size by have := hb1.size; have := HSW.out; omega)
    clear hb1
    go_wp2_with fail
    refine (copyBytes_any _ b _ HV2.out (by rw [← HN.out]; omega)).mono ?_
    rintro e w2 ⟨v2, rfl, ho2, hb2⟩
    rcases id ho2 with ⟨-, he⟩ | ⟨g, sp, hg, rfl, hrow, hmx⟩
    · exact absurd HLE.out (by rw [he]; simp)
    rw [← HN.out] at ho2 hmx ⊢
    have HROW := hid (RowV.of_row hrow)
    have G2 := hid (gr_trans G1.out hb2)
    have HP2 := hid (HP1.out.mono hb2)
    have HV3 := hid (HV2.out.mono hb2)
    have B2 := hid hb2
    have HNG := hid (show w.heap.size < g by have := HS1.out; omega)
    have HWG := hid (show w1.heap.size ≤ g from hg)
    clear ho2 hrow hb2 hg
    unfold maxLen at hmx
    go_wp2_with fail
    go_loopw [7] (fun y wr => ∃ j : Nat, j ≤ 4 ∧ y = .int .i64 ((8 + j : Nat) : Int) ∧ Hid (RowV wr g 5 (bytesV (bareTo b j ++ sp))) ∧ Hid (Below w1.heap.size w1 wr)) (fun y _ => 12 - (intOf y).toNat)
    case atStart => exact ⟨0, by omega, rfl, hid (by rw [bareTo_zero]; exact HROW.out), B2⟩
    case round =>
      obtain ⟨j, hj, rfl, HR, HB⟩ := hrel
      obtain ⟨k, hk⟩ : ∃ k, k = 8 + j := ⟨_, rfl⟩
      have HK := hid hk
      rw [← hk]
      by_cases hlt : j < 4
      · have i0 : (0 : Int) ≤ (k : Int) := by omega
        have i1 : (k : Int) < (n : Int) := by omega
        have i2 : ((k : Int)).toNat = k := by omega
        have i3 : (k : Int) < 12 := by omega
        have hkl : 8 + j < b.length := by rw [← HN.out]; omega
        have hlen : 8 + j < (bareTo b j).length := by rw [bareTo_length b j (by omega)]; exact hkl
        have ck := HR.out.cell k
        obtain ⟨x, hx⟩ : ∃ x : UInt8, (bytesV (bareTo b j ++ sp))[k]? = some (.int .u8 (x.toNat : Int)) := ⟨_, by rw [hk]; exact bytesV_at _ _ _ hlen⟩
        rw [hx] at ck
        have fk := HR.out.frozen k
        have HR2 := hid (HR.out.store k (.int .u8 ((0 : UInt8).toNat : Int)))
        rw [hk, bytesV_set _ _ _ _ hlen, bareTo_set b j hkl, ← hk] at HR2
        have HB2 := hid (HB.out.setCell (p := ⟨g, k, none⟩) HWG.out (.int .u8 ((0 : UInt8).toNat : Int)))
        clear hlen hkl hk hx
        go_wp2_with fail
        go_roundw
        case rel => exact ⟨j + 1, by omega, by rw [HK.out]; go_num, HR2, HB2⟩
        case measure => have := HK.out; simp [intOf]; omega
      · obtain rfl : j = 4 := by omega
        obtain rfl : k = 12 := hk
        have HR2 := hid (show RowV _ g 5 (bytesV (bareB b ++ sp)) from HR.out)
        have hbl : (bareB b).length = n := by
          rw [← bareTo_four, bareTo_length b 4 (by have := HLE.out; omega), HN.out]
        have HRDB := hid (show Rd _ (.slice (some ⟨g, 0, none⟩) n (n + sp.length)) (bareB b) by
          have := HR2.out.to_row.rd n (n + sp.length) (by rw [List.length_append, hbl]; omega) (by omega) (by unfold maxLen; omega)
          rwa [List.take_left' hbl] at this)
        have HPR := hid (HP1.out.mono HB.out)
        have GR := hid (gr_trans G1.out HB.out)
        have HV4 := hid (HV2.out.mono HB.out)
        clear hbl
        go_wp2_with fail
        refine (refSum_any _ (bareB b) _ HRDB.out).mono ?_
        rw [show (crcExt 0#32 (bareB b)).toNat = cs32 from HCS.out.symm]
        rintro e w3 ⟨rfl, rfl⟩
        by_cases hsum : sm = cs32
        · subst hsum
          have HSS := hid (show numAt b 8 4 = sumB b by rw [← HSMQ.out, HCS.out])
          have e5 : ((sm : Int) != (sm : Int)) = false := by simp
          go_wp2_with fail
          clear e5
          refine (refGet_at _ b 4 4 _ _ rfl rfl (by omega) _ HV4.out (by rw [← HN.out]; omega)).mono ?_
          rintro e w4 ⟨er, rfl, hb4, her⟩
          rw [← HTG.out]
          rw [if_pos (by have := HLE.out; omega)] at her
          subst her
          have G4 := hid (gr_trans GR.out hb4)
          have HP4 := hid (HPR.out.mono hb4)
          have HV5 := hid (HV4.out.mono hb4)
          have hlt4 : w.heap.size < w4.heap.size := HP4.out.lt
          have HRP := hid (RowV.new w4 25 [.int .u32 (tg : Int), .slice none 0 0])
          have B4 := hid (show Below w4.heap.size w4 (w4.alloc (.cells #[.int .u32 (tg : Int), .slice none 0 0] 25 (0, 0))) from (Below.refl _ _).alloc (Nat.le_refl _) _)
          clear hb4
          go_wp2_with fail
          go_loopw [11] (fun y wr => ∃ (at_ : Nat) (cs : List Chk) (u : Value), 12 ≤ at_ ∧ at_ ≤ n ∧ y = .int .i64 (at_ : Int) ∧ Hid (RowV wr w4.heap.size 25 [.int .u32 (tg : Int), u]) ∧ Hid (ChunksOwn (w4.heap.size + 1) 41 5 wr u cs) ∧ Hid (chunksOf (b.drop 12) = (cs ++ (chunksOf (b.drop at_)).1, (chunksOf (b.drop at_)).2)) ∧ Hid (cs.length ≤ at_) ∧ Hid (Below w4.heap.size w4 wr) ∧ Hid (w4.heap.size + 1 ≤ wr.heap.size)) (fun y _ => n - (intOf y).toNat)
          case atStart => exact ⟨12, [], _, Nat.le_refl _, by omega, rfl, HRP, hid (ChunksOwn.nil _ _ _ _), hid (by simp), hid (Nat.zero_le _), B4, hid (by simp)⟩
          case round =>
            obtain ⟨at_, cs, u, h12, hat, rfl, HRW, HCO, HCH, HCL, HB4, HSZ4⟩ := hrel
            obtain ⟨ss, q1, q2, q3⟩ := id HCO.out
            obtain ⟨up, uc, rfl⟩ := q2.form
            have HP5 := hid (HP4.out.mono HB4.out)
            have G5 := hid (gr_trans G4.out HB4.out)
            by_cases hlt : at_ < n
            · have i1 : (at_ : Int) < (n : Int) := by omega
              obtain ⟨r, hr⟩ : ∃ r, r = b.drop at_ := ⟨_, rfl⟩
              have hrl : r.length = n - at_ := by rw [hr, List.length_drop, ← HN.out]
              have hne : r ≠ [] := fun e => by rw [e] at hrl; simp at hrl; omega
              have hcut := (HV5.out.mono HB4.out).cut at_ n hat (by rw [← HN.out]; exact Nat.le_refl _)
              rw [List.take_of_length_le (by rw [List.length_drop, ← HN.out]; exact Nat.le_refl _), ← hr] at hcut
              obtain ⟨p2, c2, hs2⟩ := sliced_form p at_ n c
              obtain ⟨n2, hn2⟩ : ∃ x, x = n - at_ := ⟨_, rfl⟩
              rw [← hn2] at hs2
              rw [hs2] at hcut
              have HCUT := hid hcut
              have HSLC := hid (show ∀ wx, (Instr.slice 29 (.slice p n c) (some (.int .i64 (at_ : Int))) none none).run Try.prog wx = .ok (.slice p2 n2 c2) wx from fun wx => by
                have hh := run_slice_from32 (P := Try.prog) 29 5 Try.underlying29 (by kernel_rfl) p n c at_ hat .i64 wx
                rw [hs2] at hh
                exact hh)
              have HRL := hid (show r.length ≤ 1000000 by omega)
              by_cases hok : chkOk r = true
              · have hsz := chkSize_pos r hok
                have HT := hid (show chkTells r = (chkOf r, chkSize r, 0) by rw [chkTells, if_pos hok])
                have HC2 := hid (show chunksOf (b.drop 12) = ((cs ++ [chkOf r]) ++ (chunksOf (r.drop (chkSize r))).1, (chunksOf (r.drop (chkSize r))).2) by rw [HCH.out, ← hr, chunksOf_ok r hne hok]; simp)
                obtain ⟨cx, hcx⟩ : ∃ x, x = chkOf r := ⟨_, rfl⟩
                obtain ⟨sz, hsz2⟩ : ∃ x, x = chkSize r := ⟨_, rfl⟩
                rw [← hcx, ← hsz2] at HC2 HT
                rw [← hsz2, hrl] at hsz
                rw [hr, List.drop_drop] at HC2
                obtain ⟨at2, hat2⟩ : ∃ x, x = at_ + sz := ⟨_, rfl⟩
                rw [← hat2] at HC2
                have hwa : IntKind.i64.wrap ((at_ : Int) + (sz : Int)) = (at2 : Int) := by rw [IntKind.wrap_i64]; omega
                have HA2 := hid (show at_ + 4 ≤ at2 ∧ at2 ≤ n by omega)
                obtain ⟨kk, ff, bb⟩ := cx
                have hcl := HCL.out
                clear hcx hsz2 hcut hs2 hn2 hok hne hsz hrl hr hat2
                go_wp2_with (refine wpList_slice_known rfl 29 (.tmp 52) (.tmp 53) rfl 5 Try.underlying29 _ _ _ rfl rfl (HSLC.out _) ?_)
                refine (rread_any _ r _ HCUT.out HRL.out).mono ?_
                rw [HT.out]
                rintro e w5 ⟨s, rfl, ho5, hb5⟩
                obtain ⟨ps, ns, cps, rfl⟩ : ∃ x y z, s = Value.slice x y z := (let ⟨x, z, hh⟩ := RdF.form ho5.rd; ⟨x, _, z, hh⟩)
                obtain ⟨W5, hW5⟩ : ∃ W5, W5 = w5.alloc (.cells #[.int .u8 (kk.toNat : Int), .int .u8 (ff.toNat : Int), .slice ps ns cps] 41 (0, 0)) := ⟨_, rfl⟩
                have hg5 : Below w5.heap.size w5 W5 := by rw [hW5]; exact (Below.refl _ _).alloc (Nat.le_refl _) _
                have HBX := hid (show RowV W5 w5.heap.size 41 [.int .u8 (kk.toNat : Int), .int .u8 (ff.toNat : Int), .slice ps ns cps] by rw [hW5]; exact RowV.new w5 _ _)
                obtain ⟨W6, hW6⟩ : ∃ W6, W6 = W5.alloc (.cells #[.int .u8 (kk.toNat : Int), .int .u8 (ff.toNat : Int), .slice ps ns cps] 41 (0, 0)) := ⟨_, rfl⟩
                have hg6 : Below W5.heap.size W5 W6 := by rw [hW6]; exact (Below.refl _ _).alloc (Nat.le_refl _) _
                have hgr := gr_trans hb5 (gr_trans hg5 hg6)
                have HQ2 := hid (q2.mono hgr)
                have HQ3 := hid (show ∀ i (_ : i < cs.length) (_ : i < ss.length), Go.FL.Own W6 (w4.heap.size + 1) 5 ss[i] cs[i].b from fun i x y => (q3 i x y).mono hgr)
                have HO6 := hid (((ho5.mono hg5).mono hg6).base HSZ4.out)
                have HNW := hid (show RdK W6 3 (.slice (some ⟨W5.heap.size, 0, none⟩) 1 1) 1 (chkCell ⟨kk, ff, bb⟩ (.slice ps ns cps)) by rw [hW6]; exact rdK_new W5 41 3 1 _ _ rfl rfl (by unfold maxLen; omega))
                have HR6 := hid (HRW.out.mono hgr)
                have HB6 := hid (gr_trans HB4.out hgr)
                have HZ6 := hid (Nat.le_trans HSZ4.out hgr.size)
                have HR5 := hid (HRW.out.mono (gr_trans hb5 hg5))
                have g1 := HR5.out.at 1 (by simp)
                have b0 := HBX.out.at 0 (by simp)
                have b1 := HBX.out.at 1 (by simp)
                have b2 := HBX.out.at 2 (by simp)
                simp only [List.getElem_cons_succ, List.getElem_cons_zero] at g1 b0 b1 b2
                rw [hW5] at g1 b0 b1 b2
                have HQ1 := hid q1
                have HW6 := hid (show W6 = (w5.alloc (.cells #[.int .u8 (kk.toNat : Int), .int .u8 (ff.toNat : Int), .slice ps ns cps] 41 (0, 0))).alloc (.cells #[.int .u8 (kk.toNat : Int), .int .u8 (ff.toNat : Int), .slice ps ns cps] 41 (0, 0)) by rw [hW6, hW5])
                have HW5S := hid (show W5.heap.size = w5.heap.size + 1 by rw [hW5]; simp)
                rw [HW5S.out] at HNW
                clear hb5 hg5 hg6 hgr q1 q2 q3 ho5 hW5 hW6
                go_wp2_with (at_builtin; rw [← HW6.out]; refine wpList_append_OwnK rfl (.tmp 64) (.tmp 66) 23 rfl (w4.heap.size + 1) 41 (.agg #[.int .u8 0, .int .u8 0, .slice none 0 0]) 3 32 rfl (by decide) Try.underlying23 infoChkP _ _ _ 1 _ _ ?h1m rfl HQ2.out rfl HNW.out ?hlen ?hlen2 HZ6.out ?_)
                case h1m =>
                  intro x hx
                  simp only [chkCell, List.mem_cons, List.not_mem_nil, or_false] at hx
                  rcases hx with rfl | rfl | rfl <;> rfl
                case hlen => omega
                case hlen2 => omega
                intro v' w7 hnn hg
                have HSN := hid (ChunksOwn.snoc (show (41 : Nat) ≠ 5 by decide) HQ1.out HQ2.out HQ3.out HO6.out hg hnn)
                obtain ⟨vp, vc, rfl⟩ := hnn.form
                have hge : ∀ k, (Value.slice up cs.length uc).ownBlock = some k → w4.heap.size + 1 ≤ k := HQ2.out.ge
                have HR7 := hid (HR6.out.grown hg (fun e => by have := hge _ e; omega))
                have HB7 := hid (HB6.out.grown hg HB6.out.size (fun k e => by have := hge _ e; omega))
                have HZ7 := hid (Nat.le_trans HZ6.out hg.size)
                have c1 := HR7.out.at 1 (by simp)
                simp only [List.getElem_cons_succ, List.getElem_cons_zero] at c1
                have f1 := HR7.out.frozen 1
                clear hg hnn hge g1 b0 b1 b2
                go_wp2_with fail
                have HR8 := hid (HR7.out.store 1 (.slice vp (cs.length + 1) vc))
                have HB8 := hid (HB7.out.setCell (p := ⟨w4.heap.size, 1, none⟩) (Nat.le_refl _) (.slice vp (cs.length + 1) vc))
                have HSN8 := hid (HSN.out.hold (w' := w7.setCell ⟨w4.heap.size, 1, none⟩ (.slice vp (cs.length + 1) vc)) fun k o hk ho _ => (Below.heap_setCell _ _ _ _ (by simp; omega)).trans ho)
                go_roundw
                case rel => exact ⟨at2, cs ++ [⟨kk, ff, bb⟩], _, by have := HA2.out; omega, HA2.out.2, rfl, HR8, HSN8, HC2, hid (by have := HA2.out; simp; omega), HB8, hid (by simp [World.setCell]; exact HZ7.out)⟩
                case measure => have := HA2.out; simp [intOf]; omega
              · have HT := hid (show chkTells r = (Chk.zero, 0, 7) by rw [chkTells, if_neg hok])
                have HF := hid (show (chunksOf (b.drop 12)).2 = false by rw [HCH.out, ← hr, chunksOf_bad r hne hok])
                have HRD := hid (show readP b = (.zero, 7) by rw [readP, if_neg (by have := HLE.out; omega), if_pos HSS.out, if_neg (by rw [HF.out]; simp)])
                clear hcut hs2 hn2 hok hne hrl hr q1 q2 q3
                go_wp2_with (refine wpList_slice_known rfl 29 (.tmp 52) (.tmp 53) rfl 5 Try.underlying29 _ _ _ rfl rfl (HSLC.out _) ?_)
                refine (rread_any _ r _ HCUT.out HRL.out).mono ?_
                rw [HT.out]
                rintro e w5 ⟨s, rfl, ho5, hb5⟩
                obtain ⟨ps, ns, cps, rfl⟩ : ∃ x y z, s = Value.slice x y z := (let ⟨x, z, hh⟩ := RdF.form ho5.rd; ⟨x, _, z, hh⟩)
                have hg5 : Below w5.heap.size w5 (w5.alloc (.cells #[.int .u8 (Chk.zero.k.toNat : Int), .int .u8 (Chk.zero.f.toNat : Int), .slice ps ns cps] 41 (0, 0))) := (Below.refl _ _).alloc (Nat.le_refl _) _
                have HP6 := hid (HP5.out.mono (gr_trans hb5 hg5))
                have G6 := hid (gr_trans G5.out (gr_trans hb5 hg5))
                clear hb5 hg5 ho5
                have p0 := HP6.out.at 0 (by simp)
                have p1 := HP6.out.at 1 (by simp)
                simp only [List.getElem_cons_succ, List.getElem_cons_zero] at p0 p1
                have p2 := HP6.out.frozen 0
                have p3 := HP6.out.frozen 1
                go_wp2_with fail
                refine rread10_ret (g := w.heap.size) (.int .u32 0) (.slice none 0 0) 7 rfl rfl rfl ?_ ?_
                · have hq := (HP6.out.store 0 (.int .u32 0)).store 1 (.slice none 0 0)
                  simpa using hq
                · rw [HRD.out]
                  exact ⟨_, rfl, PktOwn.zero _ _ _ _, (G6.out.setCell (p := ⟨w.heap.size, 0, none⟩) (Nat.le_refl _) _).setCell (p := ⟨w.heap.size, 1, none⟩) (Nat.le_refl _) _⟩
            · obtain rfl : at_ = n := by omega
              have hdn : b.drop at_ = [] := List.drop_eq_nil_of_le (by rw [← HN.out]; exact Nat.le_refl _)
              have hCH : chunksOf (b.drop 12) = (cs, true) := by rw [HCH.out, hdn, chunksOf_nil]; simp
              obtain ⟨hcb, hsm5⟩ := chunksOf_bytes (b.drop 12) (by rw [hCH])
              rw [hCH] at hcb hsm5
              simp only at hcb hsm5
              have HSB := hid (show sizesN cs ≤ 100000000000 by
                have := chunksB_length cs hsm5
                rw [hcb, List.length_drop, ← HN.out] at this
                omega)
              have HB5 := hid hsm5
              obtain ⟨pk, hpk⟩ : ∃ pk : Pkt, pk = ⟨tg, cs⟩ := ⟨_, rfl⟩
              have HPK := hid (show pk.tag = tg ∧ pk.cs = cs by rw [hpk]; exact ⟨rfl, rfl⟩)
              have HLQ := hid (show pk.laid sm = b ↔ (numAt b 0 2 = 5000 ∧ numAt b 2 2 = 5000) by
                rw [HSMQ.out]
                exact laid_eq b HLE.out pk (by rw [hpk]; exact HTG.out) (by rw [hpk]; exact hcb))
              have HRQ := hid (show readP b = if (numAt b 0 2 = 5000 ∧ numAt b 2 2 = 5000) ∧ mayB cs = true then (pk, 0) else (.zero, 7) by
                rw [readP, if_neg (by have := HLE.out; omega), if_pos HSS.out, hCH, ← HTG.out, ← hpk]
                simp)
              obtain ⟨ma, hma⟩ : ∃ m, m = mayB cs := ⟨_, rfl⟩
              have HMA := hid hma
              have r0 := HRW.out.at 0 (by simp)
              have r1 := HRW.out.at 1 (by simp)
              simp only [List.getElem_cons_succ, List.getElem_cons_zero] at r0 r1
              clear q1 q2 q3 hdn hCH hcb hsm5 hpk hma
              go_wp2_with fail
              clear r0 r1
              refine (rmay_any cs _ _ HCO.out.at).mono ?_
              rw [← HMA.out]
              rintro e w6 ⟨rfl, hb6⟩
              have HP6 := hid (HP5.out.mono hb6)
              have G6 := hid (gr_trans G5.out hb6)
              have HR6 := hid (HRW.out.mono hb6)
              have HC6 := hid (HCO.out.mono hb6)
              have HV6 := hid ((HV5.out.mono HB4.out).mono hb6)
              clear hb6
              cases ma
              · have HRD := hid (show readP b = (.zero, 7) by rw [HRQ.out, if_neg (by rw [← HMA.out]; simp)])
                have p0 := HP6.out.at 0 (by simp)
                have p1 := HP6.out.at 1 (by simp)
                simp only [List.getElem_cons_succ, List.getElem_cons_zero] at p0 p1
                have p2 := HP6.out.frozen 0
                have p3 := HP6.out.frozen 1
                go_wp2_with fail
                refine rread10_ret (g := w.heap.size) (.int .u32 0) (.slice none 0 0) 7 rfl rfl rfl ?_ ?_
                · have hq := (HP6.out.store 0 (.int .u32 0)).store 1 (.slice none 0 0)
                  simpa using hq
                · rw [HRD.out]
                  exact ⟨_, rfl, PktOwn.zero _ _ _ _, (G6.out.setCell (p := ⟨w.heap.size, 0, none⟩) (Nat.le_refl _) _).setCell (p := ⟨w.heap.size, 1, none⟩) (Nat.le_refl _) _⟩
              · have r0 := HR6.out.at 0 (by simp)
                have r1 := HR6.out.at 1 (by simp)
                simp only [List.getElem_cons_succ, List.getElem_cons_zero] at r0 r1
                go_wp2_with fail
                clear r0 r1
                refine (rlaid_any pk sm _ _ ⟨_, by rw [HPK.out.1], by rw [HPK.out.2]; exact HC6.out.at, by rw [HPK.out.1]; exact HTL.out⟩ HSL.out (by rw [HPK.out.2]; exact HSB.out) (by rw [HPK.out.2]; exact HB5.out)).mono ?_
                rintro e w7 ⟨v7, rfl, ho7, hb7⟩
                have HO7 := hid ho7.rd
                have HP7 := hid (HP6.out.mono hb7)
                have G7 := hid (gr_trans G6.out hb7)
                have HR7 := hid (HR6.out.mono hb7)
                have HC7 := hid (HC6.out.mono hb7)
                have HV7 := hid (HV6.out.mono hb7)
                clear ho7 hb7
                go_wp2_with fail
                refine (eqBytes_gr _ _ (pk.laid sm) b _ HO7.out HV7.out).mono ?_
                rintro e w8 ⟨rfl, hb8⟩
                obtain ⟨q, hq⟩ : ∃ q, q = decide (pk.laid sm = b) := ⟨_, rfl⟩
                rw [← hq]
                have HP8 := hid (HP7.out.mono hb8)
                have G8 := hid (gr_trans G7.out hb8)
                have HR8 := hid (HR7.out.mono hb8)
                have HC8 := hid (HC7.out.mono hb8)
                have HQ := hid hq
                clear hb8 hq
                cases q
                · have HRD := hid (show readP b = (.zero, 7) by rw [HRQ.out, if_neg (by rintro ⟨hh, -⟩; have := HQ.out; rw [decide_eq_true (HLQ.out.2 hh)] at this; simp at this)])
                  have p0 := HP8.out.at 0 (by simp)
                  have p1 := HP8.out.at 1 (by simp)
                  simp only [List.getElem_cons_succ, List.getElem_cons_zero] at p0 p1
                  have p2 := HP8.out.frozen 0
                  have p3 := HP8.out.frozen 1
                  go_wp2_with fail
                  refine rread10_ret (g := w.heap.size) (.int .u32 0) (.slice none 0 0) 7 rfl rfl rfl ?_ ?_
                  · have hq := (HP8.out.store 0 (.int .u32 0)).store 1 (.slice none 0 0)
                    simpa using hq
                  · rw [HRD.out]
                    exact ⟨_, rfl, PktOwn.zero _ _ _ _, (G8.out.setCell (p := ⟨w.heap.size, 0, none⟩) (Nat.le_refl _) _).setCell (p := ⟨w.heap.size, 1, none⟩) (Nat.le_refl _) _⟩
                · have HRD := hid (show readP b = (pk, 0) by rw [HRQ.out, if_pos ⟨HLQ.out.1 (of_decide_eq_true HQ.out.symm), HMA.out.symm⟩])
                  have p0 := HP8.out.at 0 (by simp)
                  have p1 := HP8.out.at 1 (by simp)
                  simp only [List.getElem_cons_succ, List.getElem_cons_zero] at p0 p1
                  have p2 := HP8.out.frozen 0
                  have p3 := HP8.out.frozen 1
                  have r0 := HR8.out.at 0 (by simp)
                  have r1 := HR8.out.at 1 (by simp)
                  simp only [List.getElem_cons_succ, List.getElem_cons_zero] at r0 r1
                  go_wp2_with fail
                  refine rread10_ret (g := w.heap.size) (.int .u32 (tg : Int)) (.slice up cs.length uc) 0 rfl rfl rfl ?_ ?_
                  · have hq := (HP8.out.store 0 (.int .u32 (tg : Int))).store 1 (.slice up cs.length uc)
                    simpa using hq
                  · rw [HRD.out]
                    have HC9 := HC8.out.hold (w' := (w8.setCell ⟨w.heap.size, 0, none⟩ (.int .u32 (tg : Int))).setCell ⟨w.heap.size, 1, none⟩ (.slice up cs.length uc)) fun k o hk ho _ =>
                      (Below.heap_setCell _ _ _ _ (by simp; omega)).trans ((Below.heap_setCell _ _ _ _ (by simp; omega)).trans ho)
                    exact ⟨_, rfl, ⟨_, by rw [HPK.out.1], by rw [HPK.out.2]; exact HC9.base (by omega), by rw [HPK.out.1]; exact HTL.out⟩, (G8.out.setCell (p := ⟨w.heap.size, 0, none⟩) (Nat.le_refl _) _).setCell (p := ⟨w.heap.size, 1, none⟩) (Nat.le_refl _) _⟩
        · have HRD := hid (show readP b = (.zero, 8) by rw [readP, if_neg (by have := HLE.out; omega), if_neg (by rw [← HSMQ.out, ← HCS.out]; exact hsum)])
          have e5 : ((cs32 : Int) != (sm : Int)) = true := by rw [bne_iff_ne]; omega
          have p0 := HPR.out.at 0 (by simp)
          have p1 := HPR.out.at 1 (by simp)
          simp only [List.getElem_cons_succ, List.getElem_cons_zero] at p0 p1
          have p2 := HPR.out.frozen 0
          have p3 := HPR.out.frozen 1
          go_wp2_with fail
          refine rread10_ret (g := w.heap.size) (.int .u32 0) (.slice none 0 0) 8 rfl rfl rfl ?_ ?_
          · have hq := (HPR.out.store 0 (.int .u32 0)).store 1 (.slice none 0 0)
            simpa using hq
          · rw [HRD.out]
            exact ⟨_, rfl, PktOwn.zero _ _ _ _, (GR.out.setCell (p := ⟨w.heap.size, 0, none⟩) (Nat.le_refl _) _).setCell (p := ⟨w.heap.size, 1, none⟩) (Nat.le_refl _) _⟩
end Go.Proofs.Ytahpklciafpdaaa

/- ChunkRow: the walk of the law. Conditions: none but what the row reads. -/
import Derived.Test.YtbjmakckljjbiaaChunkWorks
import Derived.Test.YtbjmakckljjbiaaChunksOpen
import Derived.Test.YtbjmakckljjbiaaRegGr
namespace Go.FL
open Go.RowKit
def catCh (cs : List Chk) : List UInt8 := (cs.map Chk.bytes).flatten
theorem catCh_snoc (cs : List Chk) (c : Chk) : catCh (cs ++ [c]) = catCh cs ++ c.bytes := by simp [catCh]
theorem catCh_cons (c : Chk) (cs : List Chk) : catCh (c :: cs) = c.bytes ++ catCh cs := rfl
theorem catCh_le (cs : List Chk) (h : ∀ c ∈ cs, c.b.length ≤ 2048) : (catCh cs).length ≤ 2055 * cs.length := by
  induction cs with
  | nil => simp [catCh]
  | cons c cs ih =>
    have h1 := ih (fun x hx => h x (by simp [hx]))
    have h2 := h c (by simp)
    have h3 := (c.bytes_pos (by omega)).2.1
    rw [catCh_cons, List.length_append, List.length_cons]
    omega
theorem run_slice_fromI {P : Program} (t e : TypeId) (ht : P.underlying t = some (.slice e)) (hz : (P.info? e).map (·.size) = some 1) (p : Option Addr) (n c i : Nat) (hi : i ≤ n) (k : IntKind) (w : World) :
    (Instr.slice t (.slice p n c) (some (.int k (i : Int))) none none).run P w = .ok (sliced p i n c 1) w := by
  cases hq : P.info? e with
  | none => simp [hq] at hz
  | some inf =>
    have hs : inf.size = 1 := by simpa [hq] using hz
    simp [Instr.slice, run_underlying ht, Instr.sliceBounds, run_sliceBound, sizeOf, typeInfo, hq, hs, hi, sliced]
end Go.FL
namespace Go.Proofs.Ytbjmakckljjbiaa
open Go.RowKit Go.FL Go.ChangeShapes

set_option maxRecDepth 100000 in
set_option maxHeartbeats 4000000 in
theorem chunkRow_walk {w : World} {v : Value} (cs : List Chk) (hx : ChunksAt w v cs) :
    Calls Try.prog 6 #[v] w fun e w' => e = .returned (.bool true) ∧ Below w.heap.size w w' := by
  have HX := hid hx
  obtain ⟨p, cp, rfl, hlc, hcm, hel⟩ := hx
  have HEL := hid hel
  unfold maxLen at hcm
  clear hel
  by_cases hbig : 60 < cs.length
  · go_enter Try.func6, Try.ntmps6
    go_wp2_with fail
    refine (works_any _).mono ?_
    rintro e w2 ⟨rfl, hb2⟩
    go_wp2_with fail
    go_ret
    exact ⟨rfl, hb2⟩
  · have hn60 : cs.length ≤ 60 := by omega
    clear hbig
    go_enter Try.func6, Try.ntmps6
    go_wp2_with fail
    go_loopw [3, 4] (fun a y wr => ∃ i : Nat, i ≤ cs.length ∧ y = .int .i64 (i : Int) ∧ Hid (Own wr w.heap.size 5 a (catCh (cs.take i))) ∧ Hid (∀ c ∈ cs.take i, c.b.length ≤ 2048) ∧ Hid (Below w.heap.size w wr)) (fun _ y _ => cs.length - (intOf y).toNat)
    case atStart => exact ⟨0, Nat.zero_le _, rfl, Own.nil _ _ _, fun c hc => by simp at hc, Below.refl _ _⟩
    case round =>
      obtain ⟨i, hi, rfl, ho, hall, hb⟩ := hrel
      have HO := hid ho.out
      have HALL := hid hall.out
      have HB := hid hb.out
      clear ho hall hb
      by_cases hlt : i < cs.length
      · obtain ⟨gb, go, sl, rfl, k0, k1, k2, hrd⟩ := HEL.out i hlt
        have h0 := cell?_of_below HB.out k0
        have h1 := cell?_of_below HB.out k1
        have h2 := cell?_of_below HB.out k2
        have HSL := hid (hrd.mono HB.out)
        have hsn : cs.take (i + 1) = cs.take i ++ [cs[i]] := List.take_succ_eq_append_getElem hlt
        have HSN := hid hsn
        have hi64 : (i : Int) < (cs.length : Int) := by omega
        generalize cs[i] = cx at *
        obtain ⟨kk, ff, b⟩ := cx
        simp only at h0 h1 h2 hrd HSL
        obtain ⟨ps, cps, rfl, hls, hcs, _, _⟩ := hrd
        have hkb := byte_lt kk
        have hfb := byte_lt ff
        unfold maxLen at hcs
        clear k0 k1 k2 hsn
        by_cases hlong : 2048 < b.length
        · go_wp2_with fail
          refine (works_any _).mono ?_
          rintro e w2 ⟨rfl, hb2⟩
          go_wp2_with fail
          go_ret
          exact ⟨rfl, gr_trans HB.out hb2⟩
        · have hbl : b.length ≤ 2048 := by omega
          clear hlong
          go_wp2_with fail
          refine (cwrite_all _ ⟨kk, ff, b⟩ _ ⟨_, rfl, HSL.out⟩).mono ?_
          rintro e w2 ⟨v2, rfl, ho2, hb2⟩
          have HO2 := hid ho2
          have HOM := hid (HO.out.mono hb2)
          have HB2 := hid (gr_trans HB.out hb2)
          have HLN := hid (show (catCh (cs.take i)).length + (⟨kk, ff, b⟩ : Chk).bytes.length ≤ 140737488355328 by
            have e1 := catCh_le _ HALL.out
            have e2 := (Chk.bytes_pos ⟨kk, ff, b⟩ (by show b.length ≤ _; omega)).2.1
            simp at e1 e2
            omega)
          clear ho2 hb2 h0 h1 h2
          go_wp2_with (at_builtin; refine wpList_append_Own rfl (.tmp 30) (.tmp 35) 22 rfl w.heap.size 5 Try.underlying22 infoU8o _ _ (catCh (cs.take i)) (⟨kk, ff, b⟩ : Chk).bytes rfl HOM.out rfl HO2.out.rd HLN.out HB2.out.size ?_)
          intro v3 w3 ho3 hg3
          rw [← catCh_snoc, ← HSN.out] at ho3
          have HO3 := hid ho3
          have HB3 := hid (HB2.out.grown hg3 HB2.out.size HOM.out.ge)
          have HALL3 := hid (show ∀ c ∈ cs.take (i + 1), c.b.length ≤ 2048 from fun c hc => by
            rw [HSN.out, List.mem_append] at hc
            rcases hc with hc | hc
            · exact HALL.out c hc
            · simp at hc
              subst hc
              exact hbl)
          clear ho3 hg3 HO HOM HO2 HALL HB HB2 HSN HLN HSL
          go_wp2_with fail
          go_roundw
          case rel => exact ⟨i + 1, by omega, by go_num, HO3.out, HALL3.out, HB3.out⟩
          case measure => simp [intOf]; omega
      · obtain rfl : i = cs.length := by omega
        rw [List.take_length] at HO HALL
        have HRD := hid HO.out.rd
        have HGE := hid HO.out.ge
        obtain ⟨z, cc, rfl, hzc, hcc⟩ := HO.out.shape
        have HCL := hid (show (catCh cs).length ≤ 140737488355320 by
          have := catCh_le _ HALL.out
          omega)
        unfold maxLen at hcc
        obtain ⟨wl, hwl⟩ : ∃ wl : World, wl = wr := ⟨_, rfl⟩
        rw [← hwl]
        rw [← hwl] at HRD HB
        clear hwl HO
        go_wp2_with fail
        go_loopw [3, 5, 6, 7, 8] (fun a y _ _ _ wx => ∃ (i lr cz : Nat) (zz : Option Addr), i ≤ cs.length ∧ y = .int .i64 (i : Int) ∧ a = .slice zz lr cz ∧ lr = (catCh (cs.drop i)).length ∧ Hid (Rd wx (.slice zz lr cz) (catCh (cs.drop i))) ∧ Hid (Below w.heap.size w wx)) (fun _ y _ _ _ _ => cs.length - (intOf y).toNat)
        case atStart => exact ⟨0, _, _, _, Nat.zero_le _, rfl, rfl, rfl, HRD.out, HB.out⟩
        case round =>
          clear HRD HB
          obtain ⟨i, lr, cz, zz, hi, rfl, rfl, hlr, hrd, hb⟩ := hrel
          have HRD := hid hrd.out
          have HB := hid hb.out
          have HLR := hid hlr
          clear hrd hb hlr
          by_cases hlt : i < cs.length
          · obtain ⟨gb, go, sl, rfl, k0, k1, kq, hsl⟩ := HEL.out i hlt
            have hdn : cs.drop i = cs[i] :: cs.drop (i + 1) := List.drop_eq_getElem_cons hlt
            have hb2k := HALL.out cs[i] (List.getElem_mem hlt)
            have I0 := hid (show (0 : Int) ≤ (i : Int) by omega)
            have I1 := hid (show (i : Int) < (cs.length : Int) by omega)
            have I2 := hid (show ((i : Int)).toNat = i by omega)
            have hi64 : (i : Int) < (cs.length : Int) := by omega
            generalize cs[i] = cx at *
            obtain ⟨k2, f2, b2⟩ := cx
            simp only at k0 k1 kq hsl hb2k
            obtain ⟨rest, hrest⟩ : ∃ rest, rest = catCh (cs.drop (i + 1)) := ⟨_, rfl⟩
            obtain ⟨n2, hn2⟩ : ∃ n2, n2 = (⟨k2, f2, b2⟩ : Chk).bytes.length := ⟨_, rfl⟩
            have HCD := hid (show catCh (cs.drop i) = (⟨k2, f2, b2⟩ : Chk).bytes ++ rest by rw [hdn, catCh_cons, hrest])
            have HT := hid (show chkTells (catCh (cs.drop i)) = (⟨k2, f2, b2⟩, n2, 0) by
              rw [HCD.out, chkTells_back _ _ (by show b2.length ≤ _; omega), hn2])
            have hle2 : n2 ≤ lr := by rw [HLR.out, HCD.out, List.length_append, hn2]; omega
            have HLE := hid (show ¬ (lr : Int) < (n2 : Int) by omega)
            have LE2 := hid (show n2 ≤ lr from hle2)
            have HLL := hid (show (catCh (cs.drop i)).length ≤ 140737488355320 by
              have e1 : catCh cs = catCh (cs.take i) ++ catCh (cs.drop i) := by
                rw [catCh, catCh, catCh, ← List.flatten_append, ← List.map_append, List.take_append_drop]
              have e2 := HCL.out
              rw [e1, List.length_append] at e2
              omega)
            have HDR := hid (show catCh (cs.drop (i + 1)) = (catCh (cs.drop i)).drop n2 by rw [HCD.out, hn2, ← hrest]; simp)
            have hlr2 : lr - n2 = (catCh (cs.drop (i + 1))).length := by rw [HDR.out, List.length_drop, ← HLR.out]
            have HLR2 := hid hlr2
            have hlrm : lr ≤ 140737488355320 := by rw [HLR.out]; exact HLL.out
            have hkb := byte_lt k2
            have hfb := byte_lt f2
            have hbb : b2.length ≤ 2048 := hb2k
            clear hdn hrest hn2 hlr2 hle2
            go_wp2_with fail
            have hrd0 := HRD.out
            refine (cread_good _ (catCh (cs.drop i)) ⟨k2, f2, b2⟩ n2 HT.out _ hrd0 HLL.out).mono ?_
            rintro e w3 ⟨p3, c3, rfl, ho3, hb3⟩
            simp only at ho3 ⊢
            obtain ⟨W3, hW3⟩ : ∃ W3, W3 = w3.alloc (.cells #[.int .u8 (k2.toNat : Int), .int .u8 (f2.toNat : Int), .slice p3 b2.length c3] 24 (0, 0)) := ⟨_, rfl⟩
            have g33 : Below w3.heap.size w3 W3 := by rw [hW3]; exact (Below.refl _ _).alloc (Nat.le_refl _) _
            have HR3 := hid (show RowV W3 w3.heap.size 24 [.int .u8 (k2.toNat : Int), .int .u8 (f2.toNat : Int), .slice p3 b2.length c3] by rw [hW3]; exact RowV.new w3 24 _)
            have K3 := hid (gr_trans hb3 g33)
            have G3 := hid (gr_trans HB.out K3.out)
            have HB3 := hid (ho3.rd.mono g33)
            have HSL := hid (hsl.mono G3.out)
            have K0 := hid (cell?_of_below G3.out k0)
            have K1 := hid (cell?_of_below G3.out k1)
            have K2 := hid (cell?_of_below G3.out kq)
            have HRD3 := hid (HRD.out.mono K3.out)
            have HE3 := hid hW3
            clear ho3 hb3 hW3 g33 hsl k0 k1 kq hrd0
            go_wp2_with fail
            rw [← HE3.out]
            refine wp_region_gr [Is (.int .i64 0), Is (.bool false), Is (.bool false), Is (.int .i64 (n2 : Int)), Is (.slice zz lr cz), Is (.int .i64 ((lr : Nat) : Int)), Is (.bool false), Is (.bool false), Is (.bool false), Is (.agg ([.int .u8 (k2.toNat : Int), .int .u8 (f2.toNat : Int), .slice p3 b2.length c3]).toArray), Is (.slice (some ⟨gb, go, none⟩) cs.length cp), Is (.int .i64 (i : Int)), Is (.pointer (some ⟨gb, go + i * 3, none⟩)), Is (.agg #[.int .u8 (k2.toNat : Int), .int .u8 (f2.toNat : Int), sl]), Is (.bool true), Is (.bool false), Is (.bool false)] (by kernel_rfl) (by kernel_rfl) (by kernel_rfl) ?_ ?_ ?_
            · simp only [StabAll, Is.gr, RdF.gr, OwnF.gr, AnyF.gr, and_self]
            · rename_i Kk hKk; clear hKk Kk
              simp only [AllOps, List.map_cons, List.map_nil, depsOf, List.filterMap_cons, List.filterMap_nil, Region.binds, depFacts, guardF, reduceIte, List.getD_eq_getElem?_getD, List.getElem?_cons_succ, List.getElem?_cons_zero, Option.getD_some, factAt, and_true]
              refine ⟨?_, ?_, ?_, ?_, ?_, ?_, ?_, ?_, ?_, ?_, ?_, ?_, ?_, ?_, ?_, ?_, ?_⟩
              all_goals intro ρ wv hρ hR hd
              all_goals try simp only [Is] at hd
              · exact opOk_move (.inl rfl) ⟨by simp only [Is]; (first | exact hρ.2 8 rfl | exact hd | exact hd.1 | exact hd.2 | simp [hd]), GrR.refl _⟩
              · exact opOk_val (v := .bool false) (w' := wv) (by simp [execOp, go_sem, hρ.1.const, hρ.1.func, hd]) ⟨rfl, GrR.refl _⟩
              · exact opOk_move (.inl rfl) ⟨by simp only [Is]; (first | exact hρ.2 50 rfl | exact hd | exact hd.1 | exact hd.2 | simp [hd]), GrR.refl _⟩
              · refine ⟨fun _ => ?_, fun hg => absurd (by simp [hd]) hg⟩; exact opOk_move (.inl rfl) ⟨by simp only [Is]; (first | exact hρ.2 7 rfl | exact hd | exact hd.1 | exact hd.2 | simp [hd]), GrR.refl _⟩
              · refine ⟨fun _ => ?_, fun hg => absurd (by simp [hd]) hg⟩; exact opOk_move (.inl rfl) ⟨by simp only [Is]; (first | exact hρ.2 3 rfl | exact hd | exact hd.1 | exact hd.2 | simp [hd]), GrR.refl _⟩
              · refine ⟨fun _ => ?_, fun hg => absurd (by simp [hd]) hg⟩; exact opOk_len rfl _ Try.underlying22 _ (lr) _ (by first | exact hρ.2 _ rfl | exact hd | exact hd.1 | exact hd.2 | simp [hd]) ⟨rfl, GrR.refl _⟩
              · refine ⟨fun _ => ?_, fun hg => absurd (by simp [hd]) hg⟩; exact opOk_val (v := .bool false) (w' := wv) (by simp [execOp, go_sem, hρ.1.const, hρ.1.func, hd, LE2.out]) ⟨rfl, GrR.refl _⟩
              · exact opOk_val (v := .bool false) (w' := wv) (by simp [execOp, go_sem, hρ.1.const, hρ.1.func, hd]) ⟨rfl, GrR.refl _⟩
              · exact opOk_move (.inl rfl) ⟨by simp only [Is]; (first | exact hρ.2 56 rfl | exact hd | exact hd.1 | exact hd.2 | simp [hd]), GrR.refl _⟩
              · refine ⟨fun _ => ?_, fun hg => absurd (by simp [hd]) hg⟩; exact opOk_loadRow rfl (w3.heap.size) (by first | exact hρ.2 _ rfl | simp [hd]) _ ([.int .u8 (k2.toNat : Int), .int .u8 (f2.toNat : Int), .slice p3 b2.length c3]) _ (HR3.out.mono hR) Try.underlying24 rfl (by kernel_rfl) ⟨rfl, GrR.refl _⟩
              · refine ⟨fun _ => ?_, fun hg => absurd (by simp [hd]) hg⟩; exact opOk_move (.inl rfl) ⟨by simp only [Is]; (first | exact hρ.2 0 rfl | exact hd | exact hd.1 | exact hd.2 | simp [hd]), GrR.refl _⟩
              · refine ⟨fun _ => ?_, fun hg => absurd (by simp [hd]) hg⟩; exact opOk_move (.inl rfl) ⟨by simp only [Is]; (first | exact hρ.2 5 rfl | exact hd | exact hd.1 | exact hd.2 | simp [hd]), GrR.refl _⟩
              · refine ⟨fun _ => ?_, fun hg => absurd (by simp [hd]) hg⟩; exact opOk_val (v := .pointer (some ⟨gb, go + i * 3, none⟩)) (w' := wv) (by simp [execOp, go_sem, hρ.1.const, hρ.1.func, hd, I0.out, I1.out, I2.out, Try.underlying38]) ⟨rfl, GrR.refl _⟩
              · refine ⟨fun _ => ?_, fun hg => absurd (by simp [hd]) hg⟩; (have h0 := cell?_of_below hR K0.out; have h1 := cell?_of_below hR K1.out; have h2 := cell?_of_below hR K2.out; exact opOk_val (v := .agg #[.int .u8 (k2.toNat : Int), .int .u8 (f2.toNat : Int), sl]) (w' := wv) (by simp [execOp, go_sem, hd, h0, h1, h2]) ⟨rfl, GrR.refl _⟩)
              · refine ⟨fun _ => ?_, fun hg => absurd (by simp [hd]) hg⟩; exact opOk_call hρ.1 rfl rfl Try.func20 (by kernel_rfl) rfl (by simp [hd, hρ.1.const]) ((chkSame_yes _ _ ⟨k2, f2, b2⟩ _ ⟨_, rfl, HB3.out.mono hR⟩ ⟨_, rfl, HSL.out.mono hR⟩).mono fun e w' ⟨h1, h2⟩ => ⟨_, h1, rfl, h2⟩)
              · refine ⟨fun _ => ?_, fun hg => absurd (by simp [hd]) hg⟩; exact opOk_val (v := .bool false) (w' := wv) (by simp [execOp, go_sem, hρ.1.const, hρ.1.func, hd]) ⟨rfl, GrR.refl _⟩
              · exact opOk_val (v := .bool false) (w' := wv) (by simp [execOp, go_sem, hρ.1.const, hρ.1.func, hd]) ⟨rfl, GrR.refl _⟩
            · intro vals wv hR hall
              have hend := hall 16 (by simp)
              simp only [factAt, Is, List.getD_eq_getElem?_getD, List.getElem?_cons_succ, List.getElem?_cons_zero, Option.getD_some] at hend
              clear hall
              simp only [fillFrom, Act.put, hend, List.setIfInBounds_toArray, List.set_cons_zero, List.set_cons_succ]
              rename_i Kk hKk
              refine hKk _ _ ?_
              clear hKk Kk
              obtain ⟨p6, c6, hs6⟩ : ∃ p6 c6, sliced zz n2 lr cz 1 = .slice p6 (lr - n2) c6 := ⟨_, _, rfl⟩
              have hslv : ∀ wx, (Instr.slice 22 (.slice zz lr cz) (some (.int .i64 (n2 : Int))) none none).run Try.prog wx = .ok (.slice p6 (lr - n2) c6) wx := fun wx => by
                rw [← hs6]
                exact run_slice_fromI (P := Try.prog) 22 5 Try.underlying22 (by kernel_rfl) zz lr cz n2 LE2.out .i64 wx
              have hcut := (HRD3.out.mono hR).cut n2 lr LE2.out (by rw [← HLR.out]; exact Nat.le_refl _)
              rw [hs6, List.take_of_length_le (by rw [List.length_drop, ← HLR.out]; exact Nat.le_refl _), ← HDR.out] at hcut
              have HCUT := hid hcut
              have HBE := hid (gr_trans G3.out hR)
              clear hs6 hcut hR
              go_wp2_with fail
              go_roundw
              case rel => exact ⟨i + 1, lr - n2, c6, p6, by omega, by go_num, rfl, HLR2.out, HCUT.out, HBE.out⟩
              case measure => simp [intOf]; omega
          · obtain rfl : i = cs.length := by omega
            have hlz : lr = 0 := by rw [HLR.out, List.drop_length]; rfl
            rw [List.drop_length] at HRD
            subst hlz
            clear HLR hlt
            go_wp2_with fail
            have hrd0 := HRD.out
            refine (cread_bad _ [] (by decide +kernel) _ hrd0 (by simp)).mono ?_
            rintro e w3 ⟨p3, c3, rfl, ho3, hb3⟩
            have G3 := hid ((gr_trans HB.out hb3).alloc (gr_trans HB.out hb3).size (.cells #[.int .u8 0, .int .u8 0, .slice p3 0 c3] 24 (0, 0)))
            clear ho3 hb3 hrd0
            go_wp2_with fail
            refine (works_any _).mono ?_
            rintro e w5 ⟨rfl, hb5⟩
            go_wp2_with fail
            go_ret
            exact ⟨rfl, gr_trans G3.out hb5⟩
end Go.Proofs.Ytbjmakckljjbiaa

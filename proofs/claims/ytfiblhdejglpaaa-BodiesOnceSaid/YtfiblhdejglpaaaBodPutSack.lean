/- bodies.PutSack: an acknowledgement as a chunk. Conditions: what comes in reads as it should. -/
import Derived.Test.YtfiblhdejglpaaaBodPutFwd
namespace Go.FL
open Go.RowKit
def SackAt (w : World) (v : Value) (s : SackD) : Prop := ∃ sg sd, v = .agg #[.int .u32 (s.cum : Int), .int .u32 (s.rwnd : Int), sg, sd] ∧ RdP w sg s.gaps ∧ RdV w sd (s.dups.map fun x : Nat => Value.int .u32 (x : Int))
theorem SackAt.mono {w w' : World} {v : Value} {s : SackD} (h : SackAt w v s) (hb : Below w.heap.size w w') : SackAt w' v s := by
  obtain ⟨sg, sd, h1, h2, h3⟩ := h
  exact ⟨sg, sd, h1, h2.mono hb, h3.mono hb⟩
def SackD.wf (s : SackD) : Prop := s.cum < 4294967296 ∧ s.rwnd < 4294967296 ∧ pairsWf s.gaps ∧ numsWf s.dups
theorem cat_step (l : List Nat) (j : Nat) (h : j < l.length) : catBE 4 (l.take (j + 1)) = catBE 4 (l.take j) ++ catBE 4 [l[j]] := by
  rw [List.take_succ_eq_append_getElem h, catBE_append]
theorem RdV.nums {w : World} {v : Value} {l : List Nat} (h : RdV w v (l.map fun x : Nat => Value.int .u32 (x : Int))) : ∃ p c, v = .slice p l.length c ∧ l.length ≤ c ∧ c ≤ maxLen ∧ ∀ j (_ : j < l.length), ∃ b off, p = some ⟨b, off, none⟩ ∧ w.cell? ⟨b, off + j, none⟩ = some (.int .u32 (l[j] : Int)) := by
  obtain ⟨p, c, h1, h2, h3, h4, h5⟩ := h
  rw [List.length_map] at h1 h2
  refine ⟨p, c, h1, h2, h3, fun j hj => ?_⟩
  obtain ⟨b, off, e, hc⟩ := h5 j (by simpa using hj)
  exact ⟨b, off, e, by simpa using hc⟩
end Go.FL
namespace Go.Proofs.Ytfiblhdejglpaaa
open Go.RowKit Go.FL Go.ChangeShapes

theorem putSack_ret {a : Act} {W : World} {g : Nat} {R : Ending → World → Prop} (v0 v1 v2 : Value) (h2 : a.tmps.getD 2 undef = .pointer (some ⟨g, 0, none⟩)) (hd : a.defers = [])
    (hc : RowV W g 28 [v0, v1, v2]) (hR : R (.returned (.agg #[v0, v1, v2])) W) : bodyPost Try.prog Try.f24 R .ret a W := by
  refine bodyPost_ret (v := .agg #[v0, v1, v2]) ?_ hd hR
  obtain ⟨c0, c1, c2⟩ := RowV.three hc
  simp only [Array.getD_eq_getD_getElem?] at h2
  simp [results, Try.results24, go_sem, h2, asAddr, c0, c1, c2]

set_option maxRecDepth 100000 in
set_option maxHeartbeats 4000000 in
theorem putSack_any (v : Value) (d : SackD) (hw : d.wf) (w : World) (h : SackAt w v d) (hl : d.gaps.length ≤ 1000000) (hl2 : d.dups.length ≤ 1000000) :
    Calls Try.prog 24 #[v] w (RetChk w 5 d.chk) := by
  obtain ⟨sg, sd, rfl, hrd, hrd2⟩ := h
  have HV := hid hrd
  have HU := hid hrd2
  obtain ⟨p, c, rfl, hlc, hcm, hpn, hcell⟩ := hrd
  obtain ⟨q, cq, rfl, hlq, hcq, hcelq⟩ := hrd2.nums
  unfold maxLen at hcm hcq
  clear hcell hcelq hrd2
  have HBD := hid (show d.body = (beBytes 4 d.cum ++ beBytes 4 d.rwnd ++ (beBytes 2 d.gaps.length ++ beBytes 2 d.dups.length)) ++ gapsBytes d.gaps ++ catBE 4 d.dups by simp [SackD.body, SackD.head])
  show Calls _ _ _ _ (RetChk w 5 ⟨3, 0, d.body⟩)
  obtain ⟨hcu, hrw, hpw, hnw⟩ := hw
  have HPW := hid hpw
  have HNW := hid hnw
  rw [HBD.out]
  obtain ⟨cum, rwnd, l, m⟩ := d
  simp only at *
  clear hpw hnw HBD
  have W1 := hid (wrap64_nat cum (by omega))
  have W2 := hid (wrap64_nat rwnd (by omega))
  obtain ⟨ng, hng⟩ : ∃ n, n = l.length := ⟨_, rfl⟩
  obtain ⟨nd, hnd⟩ : ∃ n, n = m.length := ⟨_, rfl⟩
  have HNG := hid hng
  have HND := hid hnd
  have W3 := hid (wrap64_nat ng (by omega))
  have W4 := hid (wrap64_nat nd (by omega))
  rw [← hng] at HV hl hlc ⊢
  rw [← hnd] at HU hl2 hlq ⊢
  obtain ⟨b8, hb8⟩ : ∃ x, x = beBytes 4 cum ++ beBytes 4 rwnd := ⟨_, rfl⟩
  have HL8 := hid (show b8.length = 8 by rw [hb8]; simp [beBytes_length])
  obtain ⟨b12, hb12⟩ : ∃ x, x = b8 ++ (beBytes 2 ng ++ beBytes 2 nd) := ⟨_, rfl⟩
  have HL12 := hid (show b12.length = 12 by rw [hb12]; simp [HL8.out, beBytes_length])
  rw [← hb8, ← hb12]
  have HB8 := hid (show [] ++ catBE 4 [cum, rwnd] = b8 by rw [hb8]; simp [catBE])
  have HB12 := hid (show b8 ++ catBE 2 [ng, nd] = b12 by rw [hb12]; simp [catBE])
  clear hb8 hb12 hng hnd
  obtain ⟨W0, hW0⟩ : ∃ W0, W0 = w.alloc (.cells #[.int .u32 (cum : Int), .int .u32 (rwnd : Int), .slice p ng c, .slice q nd cq] 45 (0, 0)) := ⟨_, rfl⟩
  have hs0 : W0.heap.size = w.heap.size + 1 := by rw [hW0]; simp
  obtain ⟨W, hW⟩ : ∃ W, W = W0.alloc (.cells #[.int .u8 0, .int .u8 0, .slice none 0 0] 28 (0, 0)) := ⟨_, rfl⟩
  have hs1 : W.heap.size = w.heap.size + 2 := by rw [hW]; simp [hs0]
  have HR := hid (show RowV W w.heap.size 45 [.int .u32 (cum : Int), .int .u32 (rwnd : Int), .slice p ng c, .slice q nd cq] by rw [hW, hW0]; exact (RowV.new w 45 _).alloc _)
  have HQ := hid (show RowV W (w.heap.size + 1) 28 [.int .u8 0, .int .u8 0, .slice none 0 0] by rw [hW, ← hs0]; exact RowV.new W0 28 _)
  have G0 := hid (show Below w.heap.size w W by rw [hW, hW0]; exact ((Below.refl _ _).alloc (Nat.le_refl _) _).alloc (by simp) _)
  rw [hW0] at hW
  have HE := hid hW
  clear hW hW0 hs0
  have K0 := hid (HR.out.at 0 (by simp))
  have K1 := hid (HR.out.at 1 (by simp))
  have K2 := hid (HR.out.at 2 (by simp))
  have K3 := hid (HR.out.at 3 (by simp))
  simp only [List.getElem_cons_succ, List.getElem_cons_zero] at K0 K1 K2 K3
  go_enter Try.func24, Try.ntmps24
  go_wp2_with fail
  rw [← HE.out]
  refine wp_region_gr [Is (.pointer (some ⟨w.heap.size, 0, none⟩)), Is (.int .u32 (cum : Int)), Is (.int .u64 (cum : Int)), Is (.pointer (some ⟨w.heap.size, 1, none⟩)), Is (.int .u32 (rwnd : Int)), Is (.int .u64 (rwnd : Int)), RdVF [.int .u64 (cum : Int), .int .u64 (rwnd : Int)], OwnF W.heap.size 5 b8, Is (.pointer (some ⟨w.heap.size, 2, none⟩)), Is (.slice p ng c), Is (.int .i64 ((ng : Nat) : Int)), Is (.int .u64 (ng : Int)), Is (.pointer (some ⟨w.heap.size, 3, none⟩)), Is (.slice q nd cq), Is (.int .i64 ((nd : Nat) : Int)), Is (.int .u64 (nd : Int)), RdVF [.int .u64 (ng : Int), .int .u64 (nd : Int)], OwnF W.heap.size 5 b12, OwnF W.heap.size 5 b12] (by kernel_rfl) (by kernel_rfl) (by kernel_rfl) ?_ ?_ ?_
  · simp only [StabAll, Is.gr, RdF.gr, OwnF.gr, AnyF.gr, RdVF.gr, and_self]
  · rename_i Kk hKk; clear hKk Kk
    simp only [AllOps, List.map_cons, List.map_nil, depsOf, List.filterMap_cons, List.filterMap_nil, Region.binds, depFacts, guardF, reduceIte, List.getD_eq_getElem?_getD, List.getElem?_cons_succ, List.getElem?_cons_zero, Option.getD_some, factAt, and_true]
    refine ⟨?_, ?_, ?_, ?_, ?_, ?_, ?_, ?_, ?_, ?_, ?_, ?_, ?_, ?_, ?_, ?_, ?_, ?_, ?_⟩
    all_goals intro ρ wv hρ hR hd
    all_goals try simp only [Is] at hd
    · exact opOk_val (v := .pointer (some ⟨w.heap.size, 0, none⟩)) (w' := wv) (by simp [execOp, go_sem, hρ.1.const, hρ.1.func, hd, (hρ.2 1 rfl)]) ⟨rfl, GrR.refl _⟩
    · (have h0 := cell?_of_below hR K0.out; exact opOk_val (v := .int .u32 (cum : Int)) (w' := wv) (by simp [execOp, go_sem, hd, h0]) ⟨rfl, GrR.refl _⟩)
    · exact opOk_val (v := .int .u64 (cum : Int)) (w' := wv) (by simp [execOp, go_sem, hρ.1.const, hρ.1.func, hd, W1.out]) ⟨rfl, GrR.refl _⟩
    · exact opOk_val (v := .pointer (some ⟨w.heap.size, 1, none⟩)) (w' := wv) (by simp [execOp, go_sem, hρ.1.const, hρ.1.func, hd, (hρ.2 1 rfl)]) ⟨rfl, GrR.refl _⟩
    · (have h0 := cell?_of_below hR K1.out; exact opOk_val (v := .int .u32 (rwnd : Int)) (w' := wv) (by simp [execOp, go_sem, hd, h0]) ⟨rfl, GrR.refl _⟩)
    · exact opOk_val (v := .int .u64 (rwnd : Int)) (w' := wv) (by simp [execOp, go_sem, hρ.1.const, hρ.1.func, hd, W2.out]) ⟨rfl, GrR.refl _⟩
    · exact opOk_val (v := .slice (some ⟨wv.heap.size, 0, none⟩) 2 2) (w' := wv.alloc (.cells #[.int .u64 (cum : Int), .int .u64 (rwnd : Int)] 86 (0, 0))) (by simp [execOp, go_sem, hρ.1.const, hd]) ⟨rdV_new wv 86 [.int .u64 (cum : Int), .int .u64 (rwnd : Int)] 2 _ rfl rfl (by unfold maxLen; omega), (Below.refl _ _).alloc (Nat.le_refl _) _⟩
    · exact opOk_call hρ.1 rfl rfl Try.func48 (by kernel_rfl) rfl (by simp [hd, hρ.1.const]) ((bput_any _ _ [] 4 _ rfl (by omega) [cum, rwnd] _ (Rd.nil _) hd (by simp; omega) (by simp) (by simp) (by simp)).mono fun e w' ⟨v', h1, h2, h3⟩ => ⟨v', h1, by rw [HB8.out] at h2; exact h2.base hR.size, h3⟩)
    · exact opOk_val (v := .pointer (some ⟨w.heap.size, 2, none⟩)) (w' := wv) (by simp [execOp, go_sem, hρ.1.const, hρ.1.func, hd, (hρ.2 1 rfl)]) ⟨rfl, GrR.refl _⟩
    · (have h0 := cell?_of_below hR K2.out; exact opOk_val (v := .slice p ng c) (w' := wv) (by simp [execOp, go_sem, hd, h0]) ⟨rfl, GrR.refl _⟩)
    · exact opOk_len rfl _ Try.underlying42 _ (ng) _ (by first | exact hρ.2 _ rfl | exact hd | exact hd.1 | exact hd.2 | simp [hd]) ⟨rfl, GrR.refl _⟩
    · exact opOk_val (v := .int .u64 (ng : Int)) (w' := wv) (by simp [execOp, go_sem, hρ.1.const, hρ.1.func, hd, W3.out]) ⟨rfl, GrR.refl _⟩
    · exact opOk_val (v := .pointer (some ⟨w.heap.size, 3, none⟩)) (w' := wv) (by simp [execOp, go_sem, hρ.1.const, hρ.1.func, hd, (hρ.2 1 rfl)]) ⟨rfl, GrR.refl _⟩
    · (have h0 := cell?_of_below hR K3.out; exact opOk_val (v := .slice q nd cq) (w' := wv) (by simp [execOp, go_sem, hd, h0]) ⟨rfl, GrR.refl _⟩)
    · exact opOk_len rfl _ Try.underlying43 _ (nd) _ (by first | exact hρ.2 _ rfl | exact hd | exact hd.1 | exact hd.2 | simp [hd]) ⟨rfl, GrR.refl _⟩
    · exact opOk_val (v := .int .u64 (nd : Int)) (w' := wv) (by simp [execOp, go_sem, hρ.1.const, hρ.1.func, hd, W4.out]) ⟨rfl, GrR.refl _⟩
    · exact opOk_val (v := .slice (some ⟨wv.heap.size, 0, none⟩) 2 2) (w' := wv.alloc (.cells #[.int .u64 (ng : Int), .int .u64 (nd : Int)] 86 (0, 0))) (by simp [execOp, go_sem, hρ.1.const, hd]) ⟨rdV_new wv 86 [.int .u64 (ng : Int), .int .u64 (nd : Int)] 2 _ rfl rfl (by unfold maxLen; omega), (Below.refl _ _).alloc (Nat.le_refl _) _⟩
    · exact opOk_call hρ.1 rfl rfl Try.func48 (by kernel_rfl) rfl (by simp [hd, hρ.1.const]) ((bput_any _ _ b8 2 _ rfl (by omega) [ng, nd] _ hd.1.rd hd.2.1 (by simp; omega) (by simp) (by simp) (by rw [HL8.out]; omega)).mono fun e w' ⟨v', h1, h2, h3⟩ => ⟨v', h1, by rw [HB12.out] at h2; exact h2.base hR.size, h3⟩)
    · exact opOk_move (.inr rfl) ⟨(by first | exact hd | exact hd.1), GrR.refl _⟩
  · intro vals wv hR hall
    have h18 := hall 18 (by simp)
    simp only [factAt, OwnF, List.getD_eq_getElem?_getD, List.getElem?_cons_succ, List.getElem?_cons_zero, Option.getD_some] at h18
    clear hall
    obtain ⟨p1, c1, hv1, -, -, -, -⟩ := h18.rd
    simp only [fillFrom, Act.put, hv1, List.setIfInBounds_toArray, List.set_cons_zero, List.set_cons_succ, Nat.zero_add, Nat.reduceAdd]
    rw [hv1] at h18
    have HO1 := hid h18
    rename_i Kk hKk
    refine hKk _ _ ?_
    obtain ⟨w1, hw1⟩ : ∃ x, x = wv := ⟨_, rfl⟩
    subst hw1
    clear hKk Kk hv1 h18
    have HR1 := hid (HR.out.mono hR)
    have HQ1 := hid (HQ.out.mono hR)
    have G1 := hid (gr_trans G0.out hR)
    have hsW := hR.size
    have k2 := HR1.out.at 2 (by simp)
    simp only [List.getElem_cons_succ, List.getElem_cons_zero] at k2
    rw [HL12.out] at HO1 ⊢
    clear hR K0 K1 K2 K3
    go_wp2_with fail
    go_loopw [3, 5, 29] (fun o x y wr => ∃ (j : Nat) (z : Option Addr) (cc : Nat), j ≤ ng ∧ y = .int .i64 (j : Int) ∧ o = .slice z (12 + 4 * j) cc ∧ Hid (Own wr W.heap.size 5 o (b12 ++ gapsBytes (l.take j))) ∧ Hid (Below w1.heap.size w1 wr)) (fun _ _ y _ => ng - (intOf y).toNat)
    case atStart => exact ⟨0, p1, c1, Nat.zero_le _, rfl, rfl, hid (by simpa [gapsBytes] using HO1.out), hid (Below.refl _ _)⟩
    case round =>
      obtain ⟨j, z, cc, hj, rfl, rfl, HO, HB⟩ := hrel
      by_cases hlt : j < ng
      · have HVr := hid (HV.out.mono (gr_trans G1.out HB.out))
        obtain ⟨pp, ccc, hpe, -, -, -, hcel⟩ := HVr.out
        simp only [Value.slice.injEq] at hpe
        obtain ⟨rfl, -, rfl⟩ := hpe
        have hltl : j < l.length := by rw [← HNG.out]; exact hlt
        obtain ⟨bb, off, rfl, d0, d1⟩ := hcel j hltl
        obtain ⟨n1, n2⟩ := HPW.out _ (List.getElem_mem hltl)
        have HST := hid (gaps_step l j hltl)
        have HLJ := hid (show (b12 ++ gapsBytes (l.take j)).length = 12 + 4 * j by rw [List.length_append, gapsBytes_length, List.length_take, Nat.min_eq_left (by omega), HL12.out])
        have HLK := hid (show (b12 ++ gapsBytes (l.take (j + 1))).length = 12 + 4 * (j + 1) by rw [List.length_append, gapsBytes_length, List.length_take, Nat.min_eq_left (by omega), HL12.out])
        generalize l[j] = gj at *
        obtain ⟨ga, gb⟩ := gj
        simp only at d0 d1 n1 n2 HST
        have hwa := wrap64_nat ga (by omega)
        have hwb := wrap64_nat gb (by omega)
        have i0 : (0 : Int) ≤ (j : Int) := by omega
        have i1 : (j : Int) < (ng : Int) := by omega
        have i2 : ((j : Int)).toNat = j := by omega
        obtain ⟨W5, hW5⟩ : ∃ W5, W5 = wr.alloc (.cells #[.int .u16 (ga : Int), .int .u16 (gb : Int)] 80 (0, 0)) := ⟨_, rfl⟩
        have hs5 : W5.heap.size = wr.heap.size + 1 := by rw [hW5]; simp
        have g5 : Below wr.heap.size wr W5 := by rw [hW5]; exact (Below.refl _ _).alloc (Nat.le_refl _) _
        have HO5 := hid (HO.out.mono g5)
        have HB5 := hid (gr_trans HB.out g5)
        have HE5 := hid hW5
        clear hcel hW5 g5 k2 hltl
        go_wp2_with fail
        rw [← HE5.out, ← hs5]
        refine (bput_new _ (b12 ++ gapsBytes (l.take j)) 2 _ rfl (by omega) [ga, gb] W5 _ 2 rfl rfl HO5.out.rd (by simp; omega) (by simp) (by simp) (by rw [HLJ.out]; omega)).mono ?_
        rintro e w2 ⟨v2, rfl, ho2, hb2⟩
        rw [List.append_assoc, ← HST.out] at ho2
        have HO2 := hid (ho2.base (Nat.le_trans hsW HB5.out.size))
        have HB2 := hid (gr_trans HB5.out hb2)
        obtain ⟨z1, c3, rfl, -, -, -, -⟩ := ho2.rd
        rw [HLK.out] at HO2 ⊢
        clear ho2 hb2 d0 d1
        go_wp2_with fail
        go_roundw
        case rel => exact ⟨j + 1, z1, c3, by omega, by go_num, rfl, HO2, HB2⟩
        case measure => simp [intOf]; omega
      · obtain rfl : j = ng := by omega
        obtain ⟨wo, hwo⟩ : ∃ x, x = wr := ⟨_, rfl⟩
        subst hwo
        have hOf := HO.out
        rw [HNG.out, List.take_length, ← HNG.out] at hOf
        obtain ⟨bg, hbg⟩ : ∃ x, x = b12 ++ gapsBytes l := ⟨_, rfl⟩
        rw [← hbg] at hOf
        have HBG := hid hbg
        have HLG := hid (show bg.length = 12 + 4 * j by rw [hbg, List.length_append, gapsBytes_length, HL12.out, HNG.out])
        have HOF := hid hOf
        have HQr := hid (HQ1.out.mono HB.out)
        have HRr := hid (HR1.out.mono HB.out)
        have Gr := hid (gr_trans G1.out HB.out)
        have hsR := Nat.le_trans hsW HB.out.size
        have k3 := HRr.out.at 3 (by simp)
        simp only [List.getElem_cons_succ, List.getElem_cons_zero] at k3
        clear hOf hbg k2 HO
        go_wp2_with fail
        go_loopw [3, 7, 46] (fun o x y ws => ∃ (i : Nat) (z : Option Addr) (cc : Nat), i ≤ nd ∧ y = .int .i64 (i : Int) ∧ o = .slice z (12 + 4 * j + 4 * i) cc ∧ Hid (Own ws W.heap.size 5 o (bg ++ catBE 4 (m.take i))) ∧ Hid (Below wo.heap.size wo ws)) (fun _ _ y _ => nd - (intOf y).toNat)
        case atStart => exact ⟨0, z, cc, Nat.zero_le _, rfl, rfl, hid (by simpa [catBE] using HOF.out), hid (Below.refl _ _)⟩
        case round =>
          obtain ⟨i, z2, cc2, hi, rfl, rfl, HO2, HB2⟩ := hrel
          by_cases hlt2 : i < nd
          · obtain ⟨pp, ccc, hpe, -, -, hcel⟩ := (HU.out.mono (gr_trans Gr.out HB2.out)).nums
            rw [← HND.out] at hpe
            simp only [Value.slice.injEq] at hpe
            obtain ⟨rfl, -, rfl⟩ := hpe
            have hltl : i < m.length := by rw [← HND.out]; exact hlt2
            obtain ⟨bb, off, rfl, d0⟩ := hcel i hltl
            have n1 := HNW.out _ (List.getElem_mem hltl)
            have HST := hid (cat_step m i hltl)
            have HLJ := hid (show (bg ++ catBE 4 (m.take i)).length = 12 + 4 * j + 4 * i by rw [List.length_append, catBE_length, List.length_take, Nat.min_eq_left (by omega), HLG.out])
            have HLK := hid (show (bg ++ catBE 4 (m.take (i + 1))).length = 12 + 4 * j + 4 * (i + 1) by rw [List.length_append, catBE_length, List.length_take, Nat.min_eq_left (by omega), HLG.out])
            generalize m[i] = mi at *
            have hwa := wrap64_nat mi (by omega)
            have i0 : (0 : Int) ≤ (i : Int) := by omega
            have i1 : (i : Int) < (nd : Int) := by omega
            have i2 : ((i : Int)).toNat = i := by omega
            clear hcel hltl k3
            go_wp2_with fail
            refine (bput_new _ (bg ++ catBE 4 (m.take i)) 4 _ rfl (by omega) [mi] wr _ 1 rfl rfl HO2.out.rd (by simp; omega) (by simp) (by simp) (by rw [HLJ.out]; omega)).mono ?_
            rintro e w3 ⟨v3, rfl, ho3, hb3⟩
            rw [List.append_assoc, ← HST.out] at ho3
            have HO3 := hid (ho3.base (Nat.le_trans hsR HB2.out.size))
            have HB3 := hid (gr_trans HB2.out hb3)
            obtain ⟨z3, c3, rfl, -, -, -, -⟩ := ho3.rd
            rw [HLK.out] at HO3 ⊢
            clear ho3 hb3 d0
            go_wp2_with fail
            go_roundw
            case rel => exact ⟨i + 1, z3, c3, by omega, by go_num, rfl, HO3, HB3⟩
            case measure => simp [intOf]; omega
          · obtain rfl : i = nd := by omega
            have hOg := HO2.out
            rw [HND.out, List.take_length, ← HND.out] at hOg
            have HOG := hid hOg
            have HQs := hid (HQr.out.mono HB2.out)
            have Gs := hid (gr_trans Gr.out HB2.out)
            obtain ⟨q0, q1, q2⟩ := HQs.out.three
            have f0 := HQs.out.frozen 0
            have f1 := HQs.out.frozen 1
            have f2 := HQs.out.frozen 2
            clear hOg k3 HO2
            go_wp2_with fail
            refine putSack_ret (.int .u8 3) (.int .u8 0) _ rfl rfl (((HQs.out.store 0 _).store 1 _).store 2 _) ⟨_, rfl, ?_, ((Gs.out.setCell (by simp) _).setCell (by simp) _).setCell (by simp) _⟩
            show Own _ _ _ _ (b12 ++ gapsBytes l ++ catBE 4 m)
            rw [← HBG.out]
            exact (HOG.out.keep (r := some (w.heap.size + 1)) (gb_set (gb_set (gb_set (gb_refl _ _) 0 _) 1 _) 2 _) (fun k hk e => by have := HOG.out.ge k hk; simp at e; omega)).base (show w.heap.size ≤ W.heap.size by omega)
end Go.Proofs.Ytfiblhdejglpaaa

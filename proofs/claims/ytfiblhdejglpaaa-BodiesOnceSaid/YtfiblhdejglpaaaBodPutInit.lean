/- bodies.PutInit and the closure of GetInit: a beginning as a chunk. Conditions: what comes in reads as it should. -/
import Derived.Test.YtfiblhdejglpaaaBodPuts
import Derived.Test.YtfiblhdejglpaaaOctPad
namespace Go.FL
open Go.RowKit
def InitAt (w : World) (v : Value) (i : InitD) : Prop := ∃ s, v = .agg #[.int .u32 (i.tag : Int), .int .u32 (i.rwnd : Int), .int .u16 (i.out : Int), .int .u16 (i.in_ : Int), .int .u32 (i.tsn : Int), s] ∧ Rd w s i.ck
theorem InitAt.mono {w w' : World} {v : Value} {i : InitD} (h : InitAt w v i) (hb : Below w.heap.size w w') : InitAt w' v i := by
  obtain ⟨s, h1, h2⟩ := h
  exact ⟨s, h1, h2.mono hb⟩
end Go.FL
namespace Go.Proofs.Ytfiblhdejglpaaa
open Go.RowKit Go.FL Go.ChangeShapes

theorem putInit_ret {a : Act} {W : World} {g : Nat} {R : Ending → World → Prop} (v0 v1 v2 : Value) (h2 : a.tmps.getD 4 undef = .pointer (some ⟨g, 0, none⟩)) (hd : a.defers = [])
    (hc : RowV W g 28 [v0, v1, v2]) (hR : R (.returned (.agg #[v0, v1, v2])) W) : bodyPost Try.prog Try.f42 R .ret a W := by
  refine bodyPost_ret (v := .agg #[v0, v1, v2]) ?_ hd hR
  obtain ⟨c0, c1, c2⟩ := RowV.three hc
  simp only [Array.getD_eq_getD_getElem?] at h2
  simp [results, Try.results42, go_sem, h2, asAddr, c0, c1, c2]

theorem getInit1_ret {a : Act} {W : World} {g : Nat} {R : Ending → World → Prop} (v0 v1 v2 : Value) (h2 : a.tmps.getD 3 undef = .pointer (some ⟨g, 0, none⟩)) (hd : a.defers = [])
    (hc : RowV W g 28 [v0, v1, v2]) (hR : R (.returned (.agg #[v0, v1, v2])) W) : bodyPost Try.prog Try.f67 R .ret a W := by
  refine bodyPost_ret (v := .agg #[v0, v1, v2]) ?_ hd hR
  obtain ⟨c0, c1, c2⟩ := RowV.three hc
  simp only [Array.getD_eq_getD_getElem?] at h2
  simp [results, Try.results67, go_sem, h2, asAddr, c0, c1, c2]

set_option maxRecDepth 100000 in
set_option maxHeartbeats 4000000 in
theorem putInit_any (kind : UInt8) (v : Value) (d : InitD) (hw : d.wf) (w : World) (h : InitAt w v d) (hl : d.ck.length ≤ 1000000) :
    Calls Try.prog 42 #[.int .u8 (kind.toNat : Int), v] w (RetChk w 5 (d.chk kind)) := by
  obtain ⟨s, rfl, hrd⟩ := h
  have HV := hid hrd
  obtain ⟨p, c, rfl, hlc, hcm, hpn, hcell⟩ := hrd
  unfold maxLen at hcm
  clear hcell
  show Calls _ _ _ _ (RetChk w 5 ⟨kind, 0, d.body kind⟩)
  have HBD := hid (show d.body kind = if kind = 2 then padded ((beBytes 4 d.tag ++ beBytes 4 d.rwnd ++ (beBytes 2 d.out ++ beBytes 2 d.in_) ++ beBytes 4 d.tsn) ++ (beBytes 2 7 ++ beBytes 2 (4 + d.ck.length)) ++ d.ck) else (beBytes 4 d.tag ++ beBytes 4 d.rwnd ++ (beBytes 2 d.out ++ beBytes 2 d.in_) ++ beBytes 4 d.tsn) by simp [InitD.body, InitD.more, InitD.head])
  obtain ⟨g1, g2, g3, g4, g5⟩ := hw
  rw [HBD.out]
  obtain ⟨tag, rwnd, out, in_, tsn, b⟩ := d
  simp only at *
  clear HBD
  have W1 := hid (wrap64_nat tag (by omega))
  have W2 := hid (wrap64_nat rwnd (by omega))
  have W3 := hid (wrap64_nat out (by omega))
  have W4 := hid (wrap64_nat in_ (by omega))
  have w5 := wrap64_nat tsn (by omega)
  obtain ⟨n, hn⟩ : ∃ n, n = b.length := ⟨_, rfl⟩
  have HN := hid hn
  rw [← hn] at HV hl hlc ⊢
  have w6 := wrap64_nat (4 + n) (by omega)
  obtain ⟨b8, hb8⟩ : ∃ x, x = beBytes 4 tag ++ beBytes 4 rwnd := ⟨_, rfl⟩
  have HL8 := hid (show b8.length = 8 by rw [hb8]; simp [beBytes_length])
  rw [← hb8]
  obtain ⟨b12, hb12⟩ : ∃ x, x = b8 ++ (beBytes 2 out ++ beBytes 2 in_) := ⟨_, rfl⟩
  have HL12 := hid (show b12.length = 12 by rw [hb12]; simp [HL8.out, beBytes_length])
  rw [← hb12]
  obtain ⟨b16, hb16⟩ : ∃ x, x = b12 ++ beBytes 4 tsn := ⟨_, rfl⟩
  have HL16 := hid (show b16.length = 16 by rw [hb16]; simp [HL12.out, beBytes_length])
  rw [← hb16]
  obtain ⟨b20, hb20⟩ : ∃ x, x = b16 ++ (beBytes 2 7 ++ beBytes 2 (4 + n)) := ⟨_, rfl⟩
  have HL20 := hid (show b20.length = 20 by rw [hb20]; simp [HL16.out, beBytes_length])
  rw [← hb20]
  have HB8 := hid (show [] ++ catBE 4 [tag, rwnd] = b8 by rw [hb8]; simp [catBE])
  have HB12 := hid (show b8 ++ catBE 2 [out, in_] = b12 by rw [hb12]; simp [catBE])
  have HB16 := hid (show b12 ++ catBE 4 [tsn] = b16 by rw [hb16]; simp [catBE])
  have HB20 := hid (show b16 ++ catBE 2 [7, 4 + n] = b20 by rw [hb20]; simp [catBE])
  obtain ⟨bl, hbl⟩ : ∃ x, x = (if kind = 2 then padded (b20 ++ b) else b16) := ⟨_, rfl⟩
  rw [← hbl]
  have HBL := hid hbl
  clear hb8 hb12 hb16 hb20 hn hbl
  obtain ⟨W0, hW0⟩ : ∃ W0, W0 = w.alloc (.cells #[.int .u32 (tag : Int), .int .u32 (rwnd : Int), .int .u16 (out : Int), .int .u16 (in_ : Int), .int .u32 (tsn : Int), .slice p n c] 70 (0, 0)) := ⟨_, rfl⟩
  have hs0 : W0.heap.size = w.heap.size + 1 := by rw [hW0]; simp
  obtain ⟨W, hW⟩ : ∃ W, W = W0.alloc (.cells #[.int .u8 0, .int .u8 0, .slice none 0 0] 28 (0, 0)) := ⟨_, rfl⟩
  have hs1 : W.heap.size = w.heap.size + 2 := by rw [hW]; simp [hs0]
  have HR := hid (show RowV W w.heap.size 70 [.int .u32 (tag : Int), .int .u32 (rwnd : Int), .int .u16 (out : Int), .int .u16 (in_ : Int), .int .u32 (tsn : Int), .slice p n c] by rw [hW, hW0]; exact (RowV.new w 70 _).alloc _)
  have HQ := hid (show RowV W (w.heap.size + 1) 28 [.int .u8 0, .int .u8 0, .slice none 0 0] by rw [hW, ← hs0]; exact RowV.new W0 28 _)
  have G0 := hid (show Below w.heap.size w W by rw [hW, hW0]; exact ((Below.refl _ _).alloc (Nat.le_refl _) _).alloc (by simp) _)
  rw [hW0] at hW
  have HE := hid hW
  clear hW hW0 hs0
  have K0 := hid (HR.out.at 0 (by simp))
  have K1 := hid (HR.out.at 1 (by simp))
  have K2 := hid (HR.out.at 2 (by simp))
  have K3 := hid (HR.out.at 3 (by simp))
  simp only [List.getElem_cons_succ, List.getElem_cons_zero] at K0 K1 K2 K3
  have hkb := byte_lt kind
  go_enter Try.func42, Try.ntmps42
  go_wp2_with fail
  rw [← HE.out]
  refine wp_region_gr [Is (.pointer (some ⟨w.heap.size, 0, none⟩)), Is (.int .u32 (tag : Int)), Is (.int .u64 (tag : Int)), Is (.pointer (some ⟨w.heap.size, 1, none⟩)), Is (.int .u32 (rwnd : Int)), Is (.int .u64 (rwnd : Int)), RdVF [.int .u64 (tag : Int), .int .u64 (rwnd : Int)], OwnF W.heap.size 5 b8, Is (.pointer (some ⟨w.heap.size, 2, none⟩)), Is (.int .u16 (out : Int)), Is (.int .u64 (out : Int)), Is (.pointer (some ⟨w.heap.size, 3, none⟩)), Is (.int .u16 (in_ : Int)), Is (.int .u64 (in_ : Int)), RdVF [.int .u64 (out : Int), .int .u64 (in_ : Int)], OwnF W.heap.size 5 b12, OwnF W.heap.size 5 b12] (by kernel_rfl) (by kernel_rfl) (by kernel_rfl) ?_ ?_ ?_
  · simp only [StabAll, Is.gr, RdF.gr, OwnF.gr, AnyF.gr, RdVF.gr, and_self]
  · rename_i Kk hKk; clear hKk Kk
    simp only [AllOps, List.map_cons, List.map_nil, depsOf, List.filterMap_cons, List.filterMap_nil, Region.binds, depFacts, guardF, reduceIte, List.getD_eq_getElem?_getD, List.getElem?_cons_succ, List.getElem?_cons_zero, Option.getD_some, factAt, and_true]
    refine ⟨?_, ?_, ?_, ?_, ?_, ?_, ?_, ?_, ?_, ?_, ?_, ?_, ?_, ?_, ?_, ?_, ?_⟩
    all_goals intro ρ wv hρ hR hd
    all_goals try simp only [Is] at hd
    · exact opOk_val (v := .pointer (some ⟨w.heap.size, 0, none⟩)) (w' := wv) (by simp [execOp, go_sem, hρ.1.const, hρ.1.func, hd, (hρ.2 3 rfl)]) ⟨rfl, GrR.refl _⟩
    · (have h0 := cell?_of_below hR K0.out; exact opOk_val (v := .int .u32 (tag : Int)) (w' := wv) (by simp [execOp, go_sem, hd, h0]) ⟨rfl, GrR.refl _⟩)
    · exact opOk_val (v := .int .u64 (tag : Int)) (w' := wv) (by simp [execOp, go_sem, hρ.1.const, hρ.1.func, hd, W1.out]) ⟨rfl, GrR.refl _⟩
    · exact opOk_val (v := .pointer (some ⟨w.heap.size, 1, none⟩)) (w' := wv) (by simp [execOp, go_sem, hρ.1.const, hρ.1.func, hd, (hρ.2 3 rfl)]) ⟨rfl, GrR.refl _⟩
    · (have h0 := cell?_of_below hR K1.out; exact opOk_val (v := .int .u32 (rwnd : Int)) (w' := wv) (by simp [execOp, go_sem, hd, h0]) ⟨rfl, GrR.refl _⟩)
    · exact opOk_val (v := .int .u64 (rwnd : Int)) (w' := wv) (by simp [execOp, go_sem, hρ.1.const, hρ.1.func, hd, W2.out]) ⟨rfl, GrR.refl _⟩
    · exact opOk_val (v := .slice (some ⟨wv.heap.size, 0, none⟩) 2 2) (w' := wv.alloc (.cells #[.int .u64 (tag : Int), .int .u64 (rwnd : Int)] 86 (0, 0))) (by simp [execOp, go_sem, hρ.1.const, hd]) ⟨rdV_new wv 86 [.int .u64 (tag : Int), .int .u64 (rwnd : Int)] 2 _ rfl rfl (by unfold maxLen; omega), (Below.refl _ _).alloc (Nat.le_refl _) _⟩
    · exact opOk_call hρ.1 rfl rfl Try.func48 (by kernel_rfl) rfl (by simp [hd, hρ.1.const]) ((bput_any _ _ [] 4 _ rfl (by omega) [tag, rwnd] _ (Rd.nil _) hd (by simp; omega) (by simp) (by simp) (by simp)).mono fun e w' ⟨v', h1, h2, h3⟩ => ⟨v', h1, by rw [HB8.out] at h2; exact h2.base hR.size, h3⟩)
    · exact opOk_val (v := .pointer (some ⟨w.heap.size, 2, none⟩)) (w' := wv) (by simp [execOp, go_sem, hρ.1.const, hρ.1.func, hd, (hρ.2 3 rfl)]) ⟨rfl, GrR.refl _⟩
    · (have h0 := cell?_of_below hR K2.out; exact opOk_val (v := .int .u16 (out : Int)) (w' := wv) (by simp [execOp, go_sem, hd, h0]) ⟨rfl, GrR.refl _⟩)
    · exact opOk_val (v := .int .u64 (out : Int)) (w' := wv) (by simp [execOp, go_sem, hρ.1.const, hρ.1.func, hd, W3.out]) ⟨rfl, GrR.refl _⟩
    · exact opOk_val (v := .pointer (some ⟨w.heap.size, 3, none⟩)) (w' := wv) (by simp [execOp, go_sem, hρ.1.const, hρ.1.func, hd, (hρ.2 3 rfl)]) ⟨rfl, GrR.refl _⟩
    · (have h0 := cell?_of_below hR K3.out; exact opOk_val (v := .int .u16 (in_ : Int)) (w' := wv) (by simp [execOp, go_sem, hd, h0]) ⟨rfl, GrR.refl _⟩)
    · exact opOk_val (v := .int .u64 (in_ : Int)) (w' := wv) (by simp [execOp, go_sem, hρ.1.const, hρ.1.func, hd, W4.out]) ⟨rfl, GrR.refl _⟩
    · exact opOk_val (v := .slice (some ⟨wv.heap.size, 0, none⟩) 2 2) (w' := wv.alloc (.cells #[.int .u64 (out : Int), .int .u64 (in_ : Int)] 86 (0, 0))) (by simp [execOp, go_sem, hρ.1.const, hd]) ⟨rdV_new wv 86 [.int .u64 (out : Int), .int .u64 (in_ : Int)] 2 _ rfl rfl (by unfold maxLen; omega), (Below.refl _ _).alloc (Nat.le_refl _) _⟩
    · exact opOk_call hρ.1 rfl rfl Try.func48 (by kernel_rfl) rfl (by simp [hd, hρ.1.const]) ((bput_any _ _ b8 2 _ rfl (by omega) [out, in_] _ hd.1.rd hd.2.1 (by simp; omega) (by simp) (by simp) (by rw [HL8.out]; omega)).mono fun e w' ⟨v', h1, h2, h3⟩ => ⟨v', h1, by rw [HB12.out] at h2; exact h2.base hR.size, h3⟩)
    · exact opOk_move (.inr rfl) ⟨(by first | exact hd | exact hd.1), GrR.refl _⟩
  · intro vals wv hR hall
    have h16 := hall 16 (by simp)
    simp only [factAt, OwnF, List.getD_eq_getElem?_getD, List.getElem?_cons_succ, List.getElem?_cons_zero, Option.getD_some] at h16
    clear hall
    obtain ⟨p1, c1, hv1, -, -, -, -⟩ := h16.rd
    simp only [fillFrom, Act.put, hv1, List.setIfInBounds_toArray, List.set_cons_zero, List.set_cons_succ, Nat.zero_add, Nat.reduceAdd]
    rw [hv1] at h16
    have HO1 := hid h16
    rename_i Kk hKk
    refine hKk _ _ ?_
    obtain ⟨w1, hw1⟩ : ∃ x, x = wv := ⟨_, rfl⟩
    subst hw1
    clear hKk Kk hv1 h16
    have HR1 := hid (HR.out.mono hR)
    have HQ1 := hid (HQ.out.mono hR)
    have G1 := hid (gr_trans G0.out hR)
    have hsW := hR.size
    have k4 := HR1.out.at 4 (by simp)
    simp only [List.getElem_cons_succ, List.getElem_cons_zero] at k4
    rw [HL12.out] at HO1 ⊢
    clear hR K0 K1 K2 K3
    go_wp2_with fail
    refine (bput_new _ b12 4 _ rfl (by omega) [tsn] w1 _ 1 rfl rfl HO1.out.rd (by simp; omega) (by simp) (by simp) (by rw [HL12.out]; omega)).mono ?_
    rintro e w2 ⟨v2, rfl, ho2, hb2⟩
    rw [HB16.out] at ho2
    have HO2 := hid ho2
    have HR2 := hid (HR1.out.mono hb2)
    have HQ2 := hid (HQ1.out.mono hb2)
    have G2 := hid (gr_trans G1.out hb2)
    obtain ⟨p2, c2, rfl, -, -, -, -⟩ := ho2.rd
    have hs2 := hb2.size
    rw [HL16.out] at HO2 ⊢
    have k5 := HR2.out.at 5 (by simp)
    simp only [List.getElem_cons_succ, List.getElem_cons_zero] at k5
    clear ho2 hb2 k4
    by_cases hk2 : kind = 2
    · subst hk2
      rw [if_pos rfl] at HBL
      go_wp2_with fail
      refine (bput_new _ b16 2 _ rfl (by omega) [7, 4 + n] w2 _ 2 (by simp) rfl HO2.out.rd (by simp; omega) (by simp) (by simp) (by rw [HL16.out]; omega)).mono ?_
      rintro e w3 ⟨v3, rfl, ho3, hb3⟩
      rw [HB20.out] at ho3
      have HO3 := hid ho3
      have HR3 := hid (HR2.out.mono hb3)
      have HQ3 := hid (HQ2.out.mono hb3)
      have G3 := hid (gr_trans G2.out hb3)
      obtain ⟨p3, c3, rfl, -, -, -, -⟩ := ho3.rd
      have hs3 := hb3.size
      rw [HL20.out] at HO3 ⊢
      have k6 := HR3.out.at 5 (by simp)
      simp only [List.getElem_cons_succ, List.getElem_cons_zero] at k6
      clear ho3 hb3 k5
      go_wp2_with (at_builtin; refine wpList_append_Own rfl (.tmp 38) (.tmp 40) 24 rfl w2.heap.size 5 Try.underlying24 infoU8 _ _ b20 b rfl HO3.out rfl (HV.out.mono G3.out) (by rw [HL20.out, ← HN.out]; omega) hs3 ?_)
      intro v4 w4 ho4 hg4
      have hq3 := HQ3.out.lt
      have hlw := HR3.out.lt
      have hq2 := HQ2.out.lt
      have HQ4 := hid (HQ3.out.grown hg4 (fun e => by have := HO3.out.ge _ e; omega))
      have G4 := hid (show Below w.heap.size w w4 from G3.out.grown hg4 G3.out.size (fun k hk => Nat.le_trans G2.out.size (HO3.out.ge k hk)))
      obtain ⟨p4, c4, rfl, -, -, -, -⟩ := ho4.rd
      have HO4 := hid ho4
      have HLT := hid (show (b20 ++ b).length = 20 + n by rw [List.length_append, HL20.out, HN.out])
      obtain ⟨bb, hbb⟩ : ∃ x, x = b20 ++ b := ⟨_, rfl⟩
      have HBB := hid hbb
      rw [← hbb] at HLT HO4 ⊢
      have h4s := hg4.size
      rw [HLT.out] at HO4 ⊢
      clear ho4 hg4 k6 hbb
      go_wp2_with fail
      refine (pad_any _ bb _ HO4.out.rd (by rw [HLT.out]; omega)).mono ?_
      rintro e w5 ⟨v5, rfl, ho5, hb5⟩
      have HO5 := hid ho5
      have HQ5 := hid (HQ4.out.mono hb5)
      have G5 := hid (gr_trans G4.out hb5)
      obtain ⟨p5, c5, rfl, -, -, -, -⟩ := ho5.rd
      obtain ⟨pd, hpd⟩ : ∃ x, x = padded bb := ⟨_, rfl⟩
      have HPD := hid hpd
      rw [← hpd] at HO5 ⊢
      have hq4 := HQ4.out.lt
      clear ho5 hb5 hpd
      obtain ⟨q0, q1, q2⟩ := HQ5.out.three
      have f0 := HQ5.out.frozen 0
      have f1 := HQ5.out.frozen 1
      have f2 := HQ5.out.frozen 2
      go_wp2_with fail
      refine putInit_ret (.int .u8 2) (.int .u8 0) _ rfl rfl (((HQ5.out.store 0 _).store 1 _).store 2 _) ⟨_, rfl, ?_, ((G5.out.setCell (by simp) _).setCell (by simp) _).setCell (by simp) _⟩
      show Own _ _ _ _ bl
      rw [HBL.out, ← HBB.out, ← HPD.out]
      exact (HO5.out.keep (r := some (w.heap.size + 1)) (gb_set (gb_set (gb_set (gb_refl _ _) 0 _) 1 _) 2 _) (fun k hk e => by have := HO5.out.ge k hk; simp at e; omega)).base (show w.heap.size ≤ w4.heap.size by omega)
    · rw [if_neg hk2] at HBL
      have hkn : ((kind.toNat : Int) == 2) = false := by
        rw [beq_eq_false_iff_ne, ne_eq]
        intro h
        exact hk2 (by rw [← UInt8.toNat_inj]; have h3 : kind.toNat = 2 := by omega
                      exact h3)
      have HQ2' := hid HQ2.out
      obtain ⟨q0, q1, q2⟩ := HQ2.out.three
      have f0 := HQ2.out.frozen 0
      have f1 := HQ2.out.frozen 1
      have f2 := HQ2.out.frozen 2
      go_wp2_with fail
      refine putInit_ret (.int .u8 (kind.toNat : Int)) (.int .u8 0) _ rfl rfl (((HQ2.out.store 0 _).store 1 _).store 2 _) ⟨_, rfl, ?_, ((G2.out.setCell (by simp) _).setCell (by simp) _).setCell (by simp) _⟩
      show Own _ _ _ _ bl
      rw [HBL.out]
      exact (HO2.out.keep (r := some (w.heap.size + 1)) (gb_set (gb_set (gb_set (gb_refl _ _) 0 _) 1 _) 2 _) (fun k hk e => by have := HO2.out.ge k hk; simp at e; omega)).base (show w.heap.size ≤ w1.heap.size by omega)

set_option maxRecDepth 20000 in
set_option maxHeartbeats 1000000 in
theorem getInit1_any (k f : UInt8) (s : Value) (v : Value) (d : InitD) (hw : d.wf) (gc : Nat) (w : World) (h : InitAt w v d) (hl : d.ck.length ≤ 1000000) (hc : RowV w gc 28 [.int .u8 (k.toNat : Int), .int .u8 (f.toNat : Int), s]) :
    Calls Try.prog 67 #[v, .pointer (some ⟨gc, 0, none⟩)] w (RetChk w 5 (d.chk k)) := by
  have HI := hid h
  have HWF := hid hw
  obtain ⟨sx, rfl, hrd⟩ := h
  obtain ⟨p, n, c, rfl⟩ := hrd.form
  have HIN := hid (fun (wx : World) (h : InitAt wx (.agg #[.int .u32 (d.tag : Int), .int .u32 (d.rwnd : Int), .int .u16 (d.out : Int), .int .u16 (d.in_ : Int), .int .u32 (d.tsn : Int), .slice p n c]) d) => putInit_any k _ d HWF.out wx h hl)
  obtain ⟨bl, hbl⟩ : ∃ x, x = d.body k := ⟨_, rfl⟩
  show Calls _ _ _ _ (RetChk w 5 ⟨k, 0, d.body k⟩)
  have HIN2 := hid (show ∀ (wx : World) (h : InitAt wx (.agg #[.int .u32 (d.tag : Int), .int .u32 (d.rwnd : Int), .int .u16 (d.out : Int), .int .u16 (d.in_ : Int), .int .u32 (d.tsn : Int), .slice p n c]) d), Calls Try.prog 42 #[.int .u8 (k.toNat : Int), .agg #[.int .u32 (d.tag : Int), .int .u32 (d.rwnd : Int), .int .u16 (d.out : Int), .int .u16 (d.in_ : Int), .int .u32 (d.tsn : Int), .slice p n c]] wx (RetChk wx 5 ⟨k, 0, bl⟩) by rw [hbl]; exact HIN.out)
  rw [← hbl]
  clear hrd HIN hbl hw HWF
  obtain ⟨W0, hW0⟩ : ∃ W0, W0 = w.alloc (.cells #[.int .u32 (d.tag : Int), .int .u32 (d.rwnd : Int), .int .u16 (d.out : Int), .int .u16 (d.in_ : Int), .int .u32 (d.tsn : Int), .slice p n c] 70 (0, 0)) := ⟨_, rfl⟩
  have hs0 : W0.heap.size = w.heap.size + 1 := by rw [hW0]; simp
  obtain ⟨W, hW⟩ : ∃ W, W = W0.alloc (.cells #[.int .u8 0, .int .u8 0, .slice none 0 0] 28 (0, 0)) := ⟨_, rfl⟩
  have HR := hid (show RowV W w.heap.size 70 [.int .u32 (d.tag : Int), .int .u32 (d.rwnd : Int), .int .u16 (d.out : Int), .int .u16 (d.in_ : Int), .int .u32 (d.tsn : Int), .slice p n c] by rw [hW, hW0]; exact (RowV.new w 70 _).alloc _)
  have HQ := hid (show RowV W (w.heap.size + 1) 28 [.int .u8 0, .int .u8 0, .slice none 0 0] by rw [hW, ← hs0]; exact RowV.new W0 28 _)
  have G0 := hid (show Below w.heap.size w W by rw [hW, hW0]; exact ((Below.refl _ _).alloc (Nat.le_refl _) _).alloc (by simp) _)
  have c0 : W.cell? ⟨gc, 0, none⟩ = some (.int .u8 (k.toNat : Int)) := (hc.mono G0.out).at 0 (by simp)
  have i0 := HR.out.at 0 (by simp)
  have i1 := HR.out.at 1 (by simp)
  have i2 := HR.out.at 2 (by simp)
  have i3 := HR.out.at 3 (by simp)
  have i4 := HR.out.at 4 (by simp)
  have i5 := HR.out.at 5 (by simp)
  simp only [List.getElem_cons_succ, List.getElem_cons_zero] at i0 i1 i2 i3 i4 i5
  rw [hW0] at hW
  have HE := hid hW
  rw [hW] at c0 i0 i1 i2 i3 i4 i5
  clear hW hW0 hs0
  go_enter Try.func67, Try.ntmps67
  go_wp2_with fail
  rw [← HE.out]
  refine (HIN2.out _ (HI.out.mono G0.out)).mono ?_
  rintro e w1 ⟨v1, rfl, ho1, hb1⟩
  have HO1 := hid ho1
  simp only at ho1
  obtain ⟨p1, c1, rfl, -, -, -, -⟩ := ho1.rd
  have HQ1 := hid (HQ.out.mono hb1)
  have G1 := hid (gr_trans G0.out hb1)
  have hsz := G0.out.size
  have hq := HQ.out.lt
  obtain ⟨q0, q1, q2⟩ := HQ1.out.three
  have f0 := HQ1.out.frozen 0
  have f1 := HQ1.out.frozen 1
  have f2 := HQ1.out.frozen 2
  clear ho1 hb1 c0 i0 i1 i2 i3 i4 i5
  go_wp2_with fail
  refine getInit1_ret (.int .u8 (k.toNat : Int)) (.int .u8 0) _ rfl rfl (((HQ1.out.store 0 _).store 1 _).store 2 _) ⟨_, rfl, ?_, ((G1.out.setCell (by simp) _).setCell (by simp) _).setCell (by simp) _⟩
  exact (HO1.out.keep (r := some (w.heap.size + 1)) (gb_set (gb_set (gb_set (gb_refl _ _) 0 _) 1 _) 2 _) (fun k hk e => by have := HO1.out.ge k hk; simp at e; omega)).base hsz
end Go.Proofs.Ytfiblhdejglpaaa

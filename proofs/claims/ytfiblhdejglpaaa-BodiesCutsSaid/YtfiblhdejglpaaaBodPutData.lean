/- bodies.PutData: a chunk of data. Conditions: what comes in reads as it should. -/
import Derived.Test.YtfiblhdejglpaaaBodSmall
import Derived.Test.YtfiblhdejglpaaaBaseC
import Derived.Test.YtfiblhdejglpaaaBaseD
namespace Go.FL
open Go.RowKit
theorem RowV.three {w : World} {g e : Nat} {a b c : Value} (h : RowV w g e [a, b, c]) : w.cell? ⟨g, 0, none⟩ = some a ∧ w.cell? ⟨g, 1, none⟩ = some b ∧ w.cell? ⟨g, 2, none⟩ = some c :=
  ⟨h.at 0 (by simp), h.at 1 (by simp), h.at 2 (by simp)⟩
instance (a b : Chk) : Decidable (a = b) := decidable_of_iff (a.k = b.k ∧ a.f = b.f ∧ a.b = b.b) ⟨fun h => Chk.ext' h.1 h.2.1 h.2.2, fun h => by subst h; exact ⟨rfl, rfl, rfl⟩⟩
/-- A chunk that is returned, its body new memory. -/
def RetChk (w : World) (e : Nat) (c : Chk) (en : Ending) (w' : World) : Prop :=
  ∃ s, en = .returned (.agg #[.int .u8 (c.k.toNat : Int), .int .u8 (c.f.toNat : Int), s]) ∧ Own w' w.heap.size e s c.b ∧ Below w.heap.size w w'
/-- Data by value. -/
def DataAt (w : World) (v : Value) (d : DataD) : Prop := ∃ s, v = .agg #[.int .u32 (d.tsn : Int), .int .u16 (d.st : Int), .int .u16 (d.ssn : Int), .bool d.un, .bool d.fi, .bool d.la, s] ∧ Rd w s d.b
theorem DataAt.mono {w w' : World} {v : Value} {d : DataD} (h : DataAt w v d) (hb : Below w.heap.size w w') : DataAt w' v d := by
  obtain ⟨s, h1, h2⟩ := h
  exact ⟨s, h1, h2.mono hb⟩
theorem wrap64_nat (n : Nat) (h : n < 18446744073709551616) : IntKind.u64.wrap (n : Int) = (n : Int) := by
  rw [IntKind.wrap_u64]; omega
end Go.FL
namespace Go.Proofs.Ytfiblhdejglpaaa
open Go.RowKit Go.FL Go.ChangeShapes

theorem putData_ret {a : Act} {W : World} {g : Nat} {R : Ending → World → Prop} (v0 v1 v2 : Value) (h2 : a.tmps.getD 2 undef = .pointer (some ⟨g, 0, none⟩)) (hd : a.defers = [])
    (hc : RowV W g 28 [v0, v1, v2]) (hR : R (.returned (.agg #[v0, v1, v2])) W) : bodyPost Try.prog Try.f15 R .ret a W := by
  refine bodyPost_ret (v := .agg #[v0, v1, v2]) ?_ hd hR
  obtain ⟨c0, c1, c2⟩ := RowV.three hc
  simp only [Array.getD_eq_getD_getElem?] at h2
  simp [results, Try.results15, go_sem, h2, asAddr, c0, c1, c2]

set_option maxRecDepth 100000 in
set_option maxHeartbeats 4000000 in
theorem putData_any (v : Value) (d : DataD) (hw : d.wf) (w : World) (h : DataAt w v d) (hl : d.b.length ≤ 1000000) :
    Calls Try.prog 15 #[v] w (RetChk w 5 d.chk) := by
  obtain ⟨s, rfl, hrd⟩ := h
  have HV := hid hrd
  obtain ⟨p, c, rfl, hlc, hcm, hpn, hcell⟩ := hrd
  unfold maxLen at hcm
  clear hcell
  have HCK := hid (show d.chk = ⟨0, bitIf 4 d.un ||| bitIf 2 d.fi ||| bitIf 1 d.la, beBytes 4 d.tsn ++ (beBytes 2 d.st ++ (beBytes 2 d.ssn ++ (beBytes 4 0 ++ d.b)))⟩ from rfl)
  rw [HCK.out]
  obtain ⟨h1, h2, h3⟩ := hw
  obtain ⟨tsn, st, ssn, un, fi, la, b⟩ := d
  simp only at *
  clear HCK
  have W1 := hid (wrap64_nat tsn (by omega))
  have W2 := hid (wrap64_nat st (by omega))
  have W3 := hid (wrap64_nat ssn (by omega))
  obtain ⟨fa, hfa⟩ : ∃ x, x = bitIf 4 un := ⟨_, rfl⟩
  obtain ⟨fb, hfb⟩ : ∃ x, x = bitIf 2 fi := ⟨_, rfl⟩
  obtain ⟨fc, hfc⟩ : ∃ x, x = bitIf 1 la := ⟨_, rfl⟩
  rw [← hfa, ← hfb, ← hfc]
  have HFA := hid hfa
  have HFB := hid hfb
  have HFC := hid hfc
  obtain ⟨fd, hfd⟩ : ∃ x, x = fa ||| fb := ⟨_, rfl⟩
  obtain ⟨fe, hfe⟩ : ∃ x, x = fd ||| fc := ⟨_, rfl⟩
  have HO1 := hid (show bits .or .u8 (fa.toNat : Int) (fb.toNat : Int) = (fd.toNat : Int) by rw [hfd]; exact bits_or8 _ _)
  have HO2 := hid (show bits .or .u8 (fd.toNat : Int) (fc.toNat : Int) = (fe.toNat : Int) by rw [hfe]; exact bits_or8 _ _)
  rw [← hfd, ← hfe]
  obtain ⟨b8, hb8⟩ : ∃ x, x = beBytes 4 tsn ++ catBE 2 [st, ssn] := ⟨_, rfl⟩
  have HL8 := hid (show b8.length = 8 by rw [hb8]; simp [beBytes_length, catBE_length])
  have HB8 := hid hb8
  obtain ⟨bd, hbd⟩ : ∃ x, x = b8 ++ beBytes 4 0 := ⟨_, rfl⟩
  have HLD := hid (show bd.length = 12 by rw [hbd, List.length_append, HL8.out, beBytes_length])
  have HBD := hid hbd
  rw [show beBytes 4 tsn ++ (beBytes 2 st ++ (beBytes 2 ssn ++ (beBytes 4 0 ++ b))) = bd ++ b by rw [hbd, hb8]; simp [catBE]]
  clear hfa hfb hfc hfd hfe hb8 hbd
  obtain ⟨W0, hW0⟩ : ∃ W0, W0 = w.alloc (.cells #[.int .u32 (tsn : Int), .int .u16 (st : Int), .int .u16 (ssn : Int), .bool un, .bool fi, .bool la, .slice p b.length c] 26 (0, 0)) := ⟨_, rfl⟩
  have hs0 : W0.heap.size = w.heap.size + 1 := by rw [hW0]; simp
  obtain ⟨W, hW⟩ : ∃ W, W = W0.alloc (.cells #[.int .u8 0, .int .u8 0, .slice none 0 0] 28 (0, 0)) := ⟨_, rfl⟩
  have HR := hid (show RowV W w.heap.size 26 [.int .u32 (tsn : Int), .int .u16 (st : Int), .int .u16 (ssn : Int), .bool un, .bool fi, .bool la, .slice p b.length c] by rw [hW, hW0]; exact (RowV.new w 26 _).alloc _)
  have HQ := hid (show RowV W (w.heap.size + 1) 28 [.int .u8 0, .int .u8 0, .slice none 0 0] by rw [hW, ← hs0]; exact RowV.new W0 28 _)
  have HW := hid (show Below w.heap.size w W by rw [hW, hW0]; exact ((Below.refl _ _).alloc (Nat.le_refl _) _).alloc (by simp) _)
  rw [hW0] at hW
  have HE := hid hW
  clear hW hW0 hs0
  have K0 := hid (HR.out.at 0 (by simp))
  have K1 := hid (HR.out.at 1 (by simp))
  have K2 := hid (HR.out.at 2 (by simp))
  simp only [List.getElem_cons_succ, List.getElem_cons_zero] at K0 K1 K2
  go_enter Try.func15, Try.ntmps15
  go_wp2_with fail
  rw [← HE.out]
  refine wp_region_gr [Is (.pointer (some ⟨w.heap.size, 0, none⟩)), Is (.int .u32 (tsn : Int)), Is (.int .u64 (tsn : Int)), RdVF [.int .u64 (tsn : Int)], OwnF W.heap.size 5 (beBytes 4 tsn), Is (.pointer (some ⟨w.heap.size, 1, none⟩)), Is (.int .u16 (st : Int)), Is (.int .u64 (st : Int)), Is (.pointer (some ⟨w.heap.size, 2, none⟩)), Is (.int .u16 (ssn : Int)), Is (.int .u64 (ssn : Int)), RdVF [.int .u64 (st : Int), .int .u64 (ssn : Int)], OwnF W.heap.size 5 b8, OwnF W.heap.size 5 b8] (by kernel_rfl) (by kernel_rfl) (by kernel_rfl) ?_ ?_ ?_
  · simp only [StabAll, Is.gr, RdF.gr, OwnF.gr, AnyF.gr, RdVF.gr, and_self]
  · rename_i Kk hKk; clear hKk Kk
    simp only [AllOps, List.map_cons, List.map_nil, depsOf, List.filterMap_cons, List.filterMap_nil, Region.binds, depFacts, guardF, reduceIte, List.getD_eq_getElem?_getD, List.getElem?_cons_succ, List.getElem?_cons_zero, Option.getD_some, factAt, and_true]
    refine ⟨?_, ?_, ?_, ?_, ?_, ?_, ?_, ?_, ?_, ?_, ?_, ?_, ?_, ?_⟩
    all_goals intro ρ wv hρ hR hd
    all_goals try simp only [Is] at hd
    · exact opOk_val (v := .pointer (some ⟨w.heap.size, 0, none⟩)) (w' := wv) (by simp [execOp, go_sem, hρ.1.const, hρ.1.func, hd, (hρ.2 1 rfl)]) ⟨rfl, GrR.refl _⟩
    · (have h0 := cell?_of_below hR K0.out; exact opOk_val (v := .int .u32 (tsn : Int)) (w' := wv) (by simp [execOp, go_sem, hd, h0]) ⟨rfl, GrR.refl _⟩)
    · exact opOk_val (v := .int .u64 (tsn : Int)) (w' := wv) (by simp [execOp, go_sem, hρ.1.const, hρ.1.func, hd, W1.out]) ⟨rfl, GrR.refl _⟩
    · exact opOk_val (v := .slice (some ⟨wv.heap.size, 0, none⟩) 1 1) (w' := wv.alloc (.cells #[.int .u64 (tsn : Int)] 86 (0, 0))) (by simp [execOp, go_sem, hρ.1.const, hd]) ⟨rdV_new wv 86 [.int .u64 (tsn : Int)] 1 _ rfl rfl (by unfold maxLen; omega), (Below.refl _ _).alloc (Nat.le_refl _) _⟩
    · exact opOk_call hρ.1 rfl rfl Try.func48 (by kernel_rfl) rfl (by simp [hd, hρ.1.const]) ((bput_any _ _ [] 4 _ rfl (by omega) [tsn] _ (Rd.nil _) hd (by simp; omega) (by simp) (by simp) (by simp)).mono fun e w' ⟨v', h1, h2, h3⟩ => ⟨v', h1, by have := h2.base hR.size; simp only [catBE, List.map_cons, List.map_nil, List.flatten_cons, List.flatten_nil, List.append_nil, List.nil_append] at this; exact this, h3⟩)
    · exact opOk_val (v := .pointer (some ⟨w.heap.size, 1, none⟩)) (w' := wv) (by simp [execOp, go_sem, hρ.1.const, hρ.1.func, hd, (hρ.2 1 rfl)]) ⟨rfl, GrR.refl _⟩
    · (have h0 := cell?_of_below hR K1.out; exact opOk_val (v := .int .u16 (st : Int)) (w' := wv) (by simp [execOp, go_sem, hd, h0]) ⟨rfl, GrR.refl _⟩)
    · exact opOk_val (v := .int .u64 (st : Int)) (w' := wv) (by simp [execOp, go_sem, hρ.1.const, hρ.1.func, hd, W2.out]) ⟨rfl, GrR.refl _⟩
    · exact opOk_val (v := .pointer (some ⟨w.heap.size, 2, none⟩)) (w' := wv) (by simp [execOp, go_sem, hρ.1.const, hρ.1.func, hd, (hρ.2 1 rfl)]) ⟨rfl, GrR.refl _⟩
    · (have h0 := cell?_of_below hR K2.out; exact opOk_val (v := .int .u16 (ssn : Int)) (w' := wv) (by simp [execOp, go_sem, hd, h0]) ⟨rfl, GrR.refl _⟩)
    · exact opOk_val (v := .int .u64 (ssn : Int)) (w' := wv) (by simp [execOp, go_sem, hρ.1.const, hρ.1.func, hd, W3.out]) ⟨rfl, GrR.refl _⟩
    · exact opOk_val (v := .slice (some ⟨wv.heap.size, 0, none⟩) 2 2) (w' := wv.alloc (.cells #[.int .u64 (st : Int), .int .u64 (ssn : Int)] 86 (0, 0))) (by simp [execOp, go_sem, hρ.1.const, hd]) ⟨rdV_new wv 86 [.int .u64 (st : Int), .int .u64 (ssn : Int)] 2 _ rfl rfl (by unfold maxLen; omega), (Below.refl _ _).alloc (Nat.le_refl _) _⟩
    · exact opOk_call hρ.1 rfl rfl Try.func48 (by kernel_rfl) rfl (by simp [hd, hρ.1.const]) ((bput_any _ _ (beBytes 4 tsn) 2 _ rfl (by omega) [st, ssn] _ hd.1.rd hd.2.1 (by simp; omega) (by simp) (by simp) (by simp [beBytes_length])).mono fun e w' ⟨v', h1, h2, h3⟩ => ⟨v', h1, by rw [← HB8.out] at h2; exact h2.base hR.size, h3⟩)
    · exact opOk_move (.inr rfl) ⟨(by first | exact hd | exact hd.1), GrR.refl _⟩
  · intro vals wv hR hall
    have h13 := hall 13 (by simp)
    simp only [factAt, OwnF, List.getD_eq_getElem?_getD, List.getElem?_cons_succ, List.getElem?_cons_zero, Option.getD_some] at h13
    clear hall
    obtain ⟨p1, c1, hv1, -, -, -, -⟩ := h13.rd
    simp only [fillFrom, Act.put, hv1, List.setIfInBounds_toArray, List.set_cons_zero, List.set_cons_succ]
    rw [hv1] at h13
    have HO8 := hid h13
    rename_i Kk hKk
    refine hKk _ _ ?_
    clear hKk Kk hv1 h13
    have HR1 := hid (HR.out.mono hR)
    have HQ1 := hid (HQ.out.mono hR)
    have G1 := hid (gr_trans HW.out hR)
    have K6 := hid (HR1.out.at 6 (by simp))
    simp only [List.getElem_cons_succ, List.getElem_cons_zero] at K6
    have hl8 := HL8.out
    rw [hl8] at HO8 ⊢
    obtain ⟨wA, hwA⟩ : ∃ x, x = wv := ⟨_, rfl⟩
    subst hwA
    clear hl8 hR K0 K1 K2
    go_wp2_with fail
    refine wp_region_tail 5 [Is (.slice p1 8 c1), RdVF [.int .u64 0], OwnF wA.heap.size 5 bd, Is (.pointer (some ⟨w.heap.size, 6, none⟩)), Is (.slice p b.length c)] (by kernel_rfl) (by kernel_rfl) (by kernel_rfl) (by kernel_rfl) (by kernel_rfl) (by kernel_rfl) ?_ ?_ ?_
    · simp only [StabAll, Is.gr, RdF.gr, OwnF.gr, AnyF.gr, RdVF.gr, and_self]
    · rename_i Kk hKk; clear hKk Kk
      simp only [List.take_succ_cons, List.take_zero, AllOps, List.map_cons, List.map_nil, depsOf, List.filterMap_cons, List.filterMap_nil, Region.binds, depFacts, guardF, reduceIte, List.getD_eq_getElem?_getD, List.getElem?_cons_succ, List.getElem?_cons_zero, Option.getD_some, factAt, and_true]
      refine ⟨?_, ?_, ?_, ?_, ?_⟩
      all_goals intro ρ wv hρ hR hd
      all_goals try simp only [Is] at hd
      · exact opOk_move (.inl rfl) ⟨by simp only [Is]; (first | exact hρ.2 3 rfl | exact hd | exact hd.1 | exact hd.2 | simp [hd]), GrR.refl _⟩
      · exact opOk_val (v := .slice (some ⟨wv.heap.size, 0, none⟩) 1 1) (w' := wv.alloc (.cells #[.int .u64 0] 86 (0, 0))) (by simp [execOp, go_sem, hρ.1.const, hd]) ⟨rdV_new wv 86 [.int .u64 0] 1 _ rfl rfl (by unfold maxLen; omega), (Below.refl _ _).alloc (Nat.le_refl _) _⟩
      · exact opOk_call hρ.1 rfl rfl Try.func48 (by kernel_rfl) rfl (by simp [hd, hρ.1.const]) ((bput_any _ _ b8 4 _ rfl (by omega) [0] _ (hd.1 ▸ HO8.out.rd.mono hR) hd.2 (by simp) (by simp) (by simp) (by rw [HL8.out]; omega)).mono fun e w' ⟨v', h1, h2, h3⟩ => ⟨v', h1, by rw [show b8 ++ catBE 4 [0] = bd by rw [HBD.out]; simp [catBE]] at h2; exact h2.base hR.size, h3⟩)
      · exact opOk_val (v := .pointer (some ⟨w.heap.size, 6, none⟩)) (w' := wv) (by simp [execOp, go_sem, hρ.1.const, hρ.1.func, hd, (hρ.2 1 rfl)]) ⟨rfl, GrR.refl _⟩
      · (have h0 := cell?_of_below hR K6.out; exact opOk_val (v := .slice p b.length c) (w' := wv) (by simp [execOp, go_sem, hd, h0]) ⟨rfl, GrR.refl _⟩)
    · intro vals wv hR hall
      have i2 := hall 2 (by omega)
      have i4 := hall 4 (by omega)
      simp only [factAt, Is, OwnF, List.getD_eq_getElem?_getD, List.getElem?_cons_succ, List.getElem?_cons_zero, Option.getD_some] at i2 i4
      clear hall
      obtain ⟨p2, c2, hv2, -, -, -, -⟩ := i2.rd
      simp only [List.take_succ_cons, List.take_zero, List.drop_succ_cons, List.drop_zero, fillFrom, Act.put, hv2, i4, List.setIfInBounds_toArray, List.set_cons_zero, List.set_cons_succ]
      rw [hv2] at i2
      have HO9 := hid i2
      have G2 := hid (gr_trans G1.out hR)
      have HR2 := hid (HR1.out.mono hR)
      have HQ2 := hid (HQ1.out.mono hR)
      have hsz := hR.size
      clear hv2 i2 i4 hR
      go_wp2_with (at_builtin; refine wpList_append_Own rfl (.tmp 19) (.tmp 21) 24 rfl wA.heap.size 5 Try.underlying24 infoU8 _ _ bd b rfl HO9.out rfl (HV.out.mono G2.out) (by rw [HLD.out]; omega) hsz ?_)
      intro v3 w3 ho3 hg3
      have hlt1 := HR1.out.lt
      have hlt2 := HQ1.out.lt
      have HR3 := hid (HR2.out.grown hg3 (fun e => by have := HO9.out.ge _ e; omega))
      have HQ3 := hid (HQ2.out.grown hg3 (fun e => by have := HO9.out.ge _ e; omega))
      have G3 := hid (show Below w.heap.size w w3 from G2.out.grown hg3 G2.out.size (fun k hk => Nat.le_trans G1.out.size (HO9.out.ge k hk)))
      have HO3 := hid ho3
      obtain ⟨p3, c3, rfl, -, -, -, -⟩ := ho3.rd
      obtain ⟨bb, hbb⟩ : ∃ x, x = bd ++ b := ⟨_, rfl⟩
      have HBB := hid hbb
      rw [← hbb] at HO3 ⊢
      obtain ⟨n3, hn3⟩ : ∃ n, n = bb.length := ⟨_, rfl⟩
      rw [← hn3] at HO3 ⊢
      have K3 := hid (HR3.out.at 3 (by simp))
      have K4 := hid (HR3.out.at 4 (by simp))
      have K5 := hid (HR3.out.at 5 (by simp))
      simp only [List.getElem_cons_succ, List.getElem_cons_zero] at K3 K4 K5
      obtain ⟨wB, hwB⟩ : ∃ x, x = w3 := ⟨_, rfl⟩
      subst hwB
      clear ho3 hg3 hbb hsz
      go_wp2_with fail
      refine wp_region_tail 12 [Is (.pointer (some ⟨w.heap.size, 3, none⟩)), Is (.bool un), Is (.int .u8 (fa.toNat : Int)), Is (.pointer (some ⟨w.heap.size, 4, none⟩)), Is (.bool fi), Is (.int .u8 (fb.toNat : Int)), Is (.int .u8 (fd.toNat : Int)), Is (.pointer (some ⟨w.heap.size, 5, none⟩)), Is (.bool la), Is (.int .u8 (fc.toNat : Int)), Is (.int .u8 (fe.toNat : Int)), Is (.slice p3 n3 c3)] (by kernel_rfl) (by kernel_rfl) (by kernel_rfl) (by kernel_rfl) (by kernel_rfl) (by kernel_rfl) ?_ ?_ ?_
      · simp only [StabAll, Is.gr, RdF.gr, OwnF.gr, AnyF.gr, and_self]
      · rename_i Kk hKk; clear hKk Kk
        simp only [List.take_succ_cons, List.take_zero, AllOps, List.map_cons, List.map_nil, depsOf, List.filterMap_cons, List.filterMap_nil, Region.binds, depFacts, guardF, reduceIte, List.getD_eq_getElem?_getD, List.getElem?_cons_succ, List.getElem?_cons_zero, Option.getD_some, factAt, and_true]
        refine ⟨?_, ?_, ?_, ?_, ?_, ?_, ?_, ?_, ?_, ?_, ?_, ?_⟩
        all_goals intro ρ wv hρ hR hd
        all_goals try simp only [Is] at hd
        · exact opOk_val (v := .pointer (some ⟨w.heap.size, 3, none⟩)) (w' := wv) (by simp [execOp, go_sem, hρ.1.const, hρ.1.func, hd, (hρ.2 1 rfl)]) ⟨rfl, GrR.refl _⟩
        · (have h0 := cell?_of_below hR K3.out; exact opOk_val (v := .bool un) (w' := wv) (by simp [execOp, go_sem, hd, h0]) ⟨rfl, GrR.refl _⟩)
        · exact opOk_call hρ.1 rfl rfl Try.func49 (by kernel_rfl) rfl (by simp [hd, hρ.1.const]) ((bflag_any un 4 _ rfl _).mono fun e w' ⟨h1, h2⟩ => ⟨_, h1, by rw [HFA.out]; rfl, h2 ▸ GrR.refl _⟩)
        · exact opOk_val (v := .pointer (some ⟨w.heap.size, 4, none⟩)) (w' := wv) (by simp [execOp, go_sem, hρ.1.const, hρ.1.func, hd, (hρ.2 1 rfl)]) ⟨rfl, GrR.refl _⟩
        · (have h0 := cell?_of_below hR K4.out; exact opOk_val (v := .bool fi) (w' := wv) (by simp [execOp, go_sem, hd, h0]) ⟨rfl, GrR.refl _⟩)
        · exact opOk_call hρ.1 rfl rfl Try.func49 (by kernel_rfl) rfl (by simp [hd, hρ.1.const]) ((bflag_any fi 2 _ rfl _).mono fun e w' ⟨h1, h2⟩ => ⟨_, h1, by rw [HFB.out]; rfl, h2 ▸ GrR.refl _⟩)
        · exact opOk_val (v := .int .u8 (fd.toNat : Int)) (w' := wv) (by simp [execOp, go_sem, hρ.1.const, hρ.1.func, hd, HO1.out]) ⟨rfl, GrR.refl _⟩
        · exact opOk_val (v := .pointer (some ⟨w.heap.size, 5, none⟩)) (w' := wv) (by simp [execOp, go_sem, hρ.1.const, hρ.1.func, hd, (hρ.2 1 rfl)]) ⟨rfl, GrR.refl _⟩
        · (have h0 := cell?_of_below hR K5.out; exact opOk_val (v := .bool la) (w' := wv) (by simp [execOp, go_sem, hd, h0]) ⟨rfl, GrR.refl _⟩)
        · exact opOk_call hρ.1 rfl rfl Try.func49 (by kernel_rfl) rfl (by simp [hd, hρ.1.const]) ((bflag_any la 1 _ rfl _).mono fun e w' ⟨h1, h2⟩ => ⟨_, h1, by rw [HFC.out]; rfl, h2 ▸ GrR.refl _⟩)
        · exact opOk_val (v := .int .u8 (fe.toNat : Int)) (w' := wv) (by simp [execOp, go_sem, hρ.1.const, hρ.1.func, hd, HO2.out]) ⟨rfl, GrR.refl _⟩
        · exact opOk_move (.inl rfl) ⟨by simp only [Is]; (first | exact hρ.2 3 rfl | exact hd | exact hd.1 | exact hd.2 | simp [hd]), GrR.refl _⟩
      · intro vals wv hR hall
        have i10 := hall 10 (by omega)
        have i11 := hall 11 (by omega)
        simp only [factAt, Is, List.getD_eq_getElem?_getD, List.getElem?_cons_succ, List.getElem?_cons_zero, Option.getD_some] at i10 i11
        clear hall
        simp only [List.take_succ_cons, List.take_zero, List.drop_succ_cons, List.drop_zero, fillFrom, Act.put, i10, i11, List.setIfInBounds_toArray, List.set_cons_zero, List.set_cons_succ]
        have HQ4 := hid (HQ3.out.mono hR)
        have HO4 := hid (HO3.out.mono hR)
        have G4 := hid (gr_trans G3.out hR)
        obtain ⟨q0, q1, q2⟩ := HQ4.out.three
        have f0 := HQ4.out.frozen 0
        have f1 := HQ4.out.frozen 1
        have f2 := HQ4.out.frozen 2
        clear i10 i11 hR
        go_wp2_with fail
        rw [hn3] at HO4
        refine putData_ret (.int .u8 0) (.int .u8 (fe.toNat : Int)) (.slice p3 bb.length c3) rfl rfl (((HQ4.out.store 0 _).store 1 _).store 2 _) ⟨_, rfl, ?_, ((G4.out.setCell (by simp) _).setCell (by simp) _).setCell (by simp) _⟩
        show Own _ _ _ _ (bd ++ b)
        rw [← HBB.out]
        exact (HO4.out.keep (r := some (w.heap.size + 1)) (gb_set (gb_set (gb_set (gb_refl _ _) 0 _) 1 _) 2 _) (fun k hk e => by have := HO4.out.ge k hk; simp at e; omega)).base G1.out.size
end Go.Proofs.Ytfiblhdejglpaaa

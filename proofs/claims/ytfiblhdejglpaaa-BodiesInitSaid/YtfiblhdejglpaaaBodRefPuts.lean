/- The document's Put functions without loops. Conditions: what comes in reads as it should. -/
import Derived.Test.YtfiblhdejglpaaaBodPuts
import Derived.Test.YtfiblhdejglpaaaPutsB
import Derived.Test.YtfiblhdejglpaaaOctRef2
namespace Go.FL
theorem kind_eq2 (k : UInt8) : ((k.toNat : Int) == 2) = decide (k = 2) := by
  rw [Bool.eq_iff_iff]
  simp only [beq_iff_eq, decide_eq_true_eq]
  rw [← UInt8.toNat_inj]
  show (k.toNat : Int) = 2 ↔ k.toNat = 2
  omega
end Go.FL
namespace Go.Proofs.Ytfiblhdejglpaaa
open Go.RowKit Go.FL Go.ChangeShapes

theorem rputCum_ret {a : Act} {W : World} {g : Nat} {R : Ending → World → Prop} (v0 v1 v2 : Value) (h2 : a.tmps.getD 2 undef = .pointer (some ⟨g, 0, none⟩)) (hd : a.defers = [])
    (hc : RowV W g 28 [v0, v1, v2]) (hR : R (.returned (.agg #[v0, v1, v2])) W) : bodyPost Try.prog Try.f41 R .ret a W := by
  refine bodyPost_ret (v := .agg #[v0, v1, v2]) ?_ hd hR
  obtain ⟨c0, c1, c2⟩ := RowV.three hc
  simp only [Array.getD_eq_getD_getElem?] at h2
  simp [results, Try.results41, go_sem, h2, asAddr, c0, c1, c2]
theorem rputTime_ret {a : Act} {W : World} {g : Nat} {R : Ending → World → Prop} (v0 v1 v2 : Value) (h2 : a.tmps.getD 4 undef = .pointer (some ⟨g, 0, none⟩)) (hd : a.defers = [])
    (hc : RowV W g 28 [v0, v1, v2]) (hR : R (.returned (.agg #[v0, v1, v2])) W) : bodyPost Try.prog Try.f39 R .ret a W := by
  refine bodyPost_ret (v := .agg #[v0, v1, v2]) ?_ hd hR
  obtain ⟨c0, c1, c2⟩ := RowV.three hc
  simp only [Array.getD_eq_getD_getElem?] at h2
  simp [results, Try.results39, go_sem, h2, asAddr, c0, c1, c2]
theorem rputInit_ret {a : Act} {W : World} {g : Nat} {R : Ending → World → Prop} (v0 v1 v2 : Value) (h2 : a.tmps.getD 4 undef = .pointer (some ⟨g, 0, none⟩)) (hd : a.defers = [])
    (hc : RowV W g 28 [v0, v1, v2]) (hR : R (.returned (.agg #[v0, v1, v2])) W) : bodyPost Try.prog Try.f45 R .ret a W := by
  refine bodyPost_ret (v := .agg #[v0, v1, v2]) ?_ hd hR
  obtain ⟨c0, c1, c2⟩ := RowV.three hc
  simp only [Array.getD_eq_getD_getElem?] at h2
  simp [results, Try.results45, go_sem, h2, asAddr, c0, c1, c2]
theorem rputData_ret {a : Act} {W : World} {g : Nat} {R : Ending → World → Prop} (v0 v1 v2 : Value) (h2 : a.tmps.getD 2 undef = .pointer (some ⟨g, 0, none⟩)) (hd : a.defers = [])
    (hc : RowV W g 28 [v0, v1, v2]) (hR : R (.returned (.agg #[v0, v1, v2])) W) : bodyPost Try.prog Try.f19 R .ret a W := by
  refine bodyPost_ret (v := .agg #[v0, v1, v2]) ?_ hd hR
  obtain ⟨c0, c1, c2⟩ := RowV.three hc
  simp only [Array.getD_eq_getD_getElem?] at h2
  simp [results, Try.results19, go_sem, h2, asAddr, c0, c1, c2]

set_option maxRecDepth 20000 in
set_option maxHeartbeats 1000000 in
theorem rputCum_any (cum : Nat) (hc : cum < 4294967296) (w : World) :
    Calls Try.prog 41 #[.int .u32 (cum : Int)] w (RetChk w 5 (cumChk cum)) := by
  have hw := wrap64_nat cum (by omega)
  obtain ⟨W, hW⟩ : ∃ W, W = w.alloc (.cells #[.int .u8 0, .int .u8 0, .slice none 0 0] 28 (0, 0)) := ⟨_, rfl⟩
  have HQ0 := hid (show RowV W w.heap.size 28 [.int .u8 0, .int .u8 0, .slice none 0 0] by rw [hW]; exact RowV.new w 28 _)
  have G0 := hid (show Below w.heap.size w W by rw [hW]; exact (Below.refl _ _).alloc (Nat.le_refl _) _)
  have hsz : W.heap.size = w.heap.size + 1 := by rw [hW]; simp
  have HE := hid hW
  clear hW
  go_enter Try.func41, Try.ntmps41
  go_wp2_with fail
  rw [← HE.out]
  refine (refPut_at _ [] cum 4 _ _ rfl rfl (by omega) _ (Rd.nil _) (by simp) (by omega)).mono ?_
  rintro e w1 ⟨v1, rfl, ho1, hb1⟩
  obtain ⟨b1, hB1⟩ : ∃ l, l = [] ++ beBytes 4 (cum) := ⟨_, rfl⟩
  have HB1 := hid hB1
  have HL1 := hid (show b1.length = 4 by rw [hB1, List.length_append, beBytes_length]; rfl)
  rw [← hB1] at ho1
  obtain ⟨p1, c1, rfl, -, -, -, -⟩ := ho1.rd
  have HO1 := hid ho1
  have HQ1 := hid (HQ0.out.mono hb1)
  have G1 := hid (gr_trans G0.out hb1)
  have hsz1 := hb1.size
  rw [HL1.out] at HO1 ⊢
  clear ho1 hb1 hB1
  obtain ⟨q0, q1, q2⟩ := HQ1.out.three
  have f0 := HQ1.out.frozen 0
  have f1 := HQ1.out.frozen 1
  have f2 := HQ1.out.frozen 2
  go_wp2_with fail
  refine rputCum_ret (.int .u8 7) (.int .u8 0) _ rfl rfl (((HQ1.out.store 0 _).store 1 _).store 2 _) ⟨_, rfl, ?_, ((G1.out.setCell (by simp) _).setCell (by simp) _).setCell (by simp) _⟩
  show Own _ _ _ _ (beBytes 4 cum)
  rw [show beBytes 4 cum = b1 by rw [HB1.out]; rfl]
  exact (HO1.out.keep (r := some w.heap.size) (gb_set (gb_set (gb_set (gb_refl _ _) 0 _) 1 _) 2 _) (fun k hk e => by have := HO1.out.ge k hk; simp at e; omega)).base (show w.heap.size ≤ W.heap.size by omega)

set_option maxRecDepth 20000 in
set_option maxHeartbeats 1000000 in
theorem rputTime_any (k : UInt8) (at_ : Int) (w : World) :
    Calls Try.prog 39 #[.int .u8 (k.toNat : Int), .int .i64 at_] w (RetChk w 5 (timeChk k at_)) := by
  have hw := wrap_time at_
  have hlt := timeN_lt at_
  have HTB := hid (show timeBody at_ = beBytes 2 1 ++ (beBytes 2 12 ++ beBytes 8 (timeN at_)) from rfl)
  show Calls _ _ _ _ (RetChk w 5 ⟨k, 0, timeBody at_⟩)
  rw [HTB.out]
  generalize timeN at_ = tn at *
  obtain ⟨W, hW⟩ : ∃ W, W = w.alloc (.cells #[.int .u8 0, .int .u8 0, .slice none 0 0] 28 (0, 0)) := ⟨_, rfl⟩
  have HQ0 := hid (show RowV W w.heap.size 28 [.int .u8 0, .int .u8 0, .slice none 0 0] by rw [hW]; exact RowV.new w 28 _)
  have G0 := hid (show Below w.heap.size w W by rw [hW]; exact (Below.refl _ _).alloc (Nat.le_refl _) _)
  have hsz : W.heap.size = w.heap.size + 1 := by rw [hW]; simp
  have HE := hid hW
  clear hW
  go_enter Try.func39, Try.ntmps39
  go_wp2_with fail
  rw [← HE.out]
  refine (refPut_at _ [] 1 2 _ _ rfl rfl (by omega) _ (Rd.nil _) (by simp) (by omega)).mono ?_
  rintro e w1 ⟨v1, rfl, ho1, hb1⟩
  obtain ⟨b1, hB1⟩ : ∃ l, l = [] ++ beBytes 2 (1) := ⟨_, rfl⟩
  have HB1 := hid hB1
  have HL1 := hid (show b1.length = 2 by rw [hB1, List.length_append, beBytes_length]; rfl)
  rw [← hB1] at ho1
  obtain ⟨p1, c1, rfl, -, -, -, -⟩ := ho1.rd
  have HO1 := hid ho1
  have HQ1 := hid (HQ0.out.mono hb1)
  have G1 := hid (gr_trans G0.out hb1)
  have hsz1 := hb1.size
  rw [HL1.out] at HO1 ⊢
  clear ho1 hb1 hB1
  go_wp2_with fail
  refine (refPut_at _ b1 12 2 _ _ rfl rfl (by omega) _ HO1.out.rd (by rw [HL1.out]; omega) (by omega)).mono ?_
  rintro e w2 ⟨v2, rfl, ho2, hb2⟩
  obtain ⟨b2, hB2⟩ : ∃ l, l = b1 ++ beBytes 2 (12) := ⟨_, rfl⟩
  have HB2 := hid hB2
  have HL2 := hid (show b2.length = 2 + 2 by rw [hB2, List.length_append, beBytes_length, HL1.out])
  rw [← hB2] at ho2
  obtain ⟨p2, c2, rfl, -, -, -, -⟩ := ho2.rd
  have HO2 := hid ho2
  have HQ2 := hid (HQ1.out.mono hb2)
  have G2 := hid (gr_trans G1.out hb2)
  have hsz2 := hb2.size
  rw [HL2.out] at HO2 ⊢
  clear ho2 hb2 hB2
  go_wp2_with fail
  refine (refPut_at _ b2 tn 8 _ _ rfl rfl (by omega) _ HO2.out.rd (by rw [HL2.out]; omega) (by omega)).mono ?_
  rintro e w3 ⟨v3, rfl, ho3, hb3⟩
  obtain ⟨b3, hB3⟩ : ∃ l, l = b2 ++ beBytes 8 (tn) := ⟨_, rfl⟩
  have HB3 := hid hB3
  have HL3 := hid (show b3.length = 2 + 2 + 8 by rw [hB3, List.length_append, beBytes_length, HL2.out])
  rw [← hB3] at ho3
  obtain ⟨p3, c3, rfl, -, -, -, -⟩ := ho3.rd
  have HO3 := hid ho3
  have HQ3 := hid (HQ2.out.mono hb3)
  have G3 := hid (gr_trans G2.out hb3)
  have hsz3 := hb3.size
  rw [HL3.out] at HO3 ⊢
  clear ho3 hb3 hB3
  obtain ⟨q0, q1, q2⟩ := HQ3.out.three
  have f0 := HQ3.out.frozen 0
  have f1 := HQ3.out.frozen 1
  have f2 := HQ3.out.frozen 2
  go_wp2_with fail
  refine rputTime_ret (.int .u8 (k.toNat : Int)) (.int .u8 0) _ rfl rfl (((HQ3.out.store 0 _).store 1 _).store 2 _) ⟨_, rfl, ?_, ((G3.out.setCell (by simp) _).setCell (by simp) _).setCell (by simp) _⟩
  show Own _ _ _ _ (beBytes 2 1 ++ (beBytes 2 12 ++ beBytes 8 tn))
  rw [show beBytes 2 1 ++ (beBytes 2 12 ++ beBytes 8 tn) = b3 by rw [HB3.out, HB2.out, HB1.out]; simp]
  exact (HO3.out.keep (r := some w.heap.size) (gb_set (gb_set (gb_set (gb_refl _ _) 0 _) 1 _) 2 _) (fun k hk e => by have := HO3.out.ge k hk; simp at e; omega)).base (show w.heap.size ≤ w2.heap.size by omega)

set_option maxRecDepth 100000 in
set_option maxHeartbeats 4000000 in
theorem rputInit_any (kind : UInt8) (v : Value) (d : InitD) (hw : d.wf) (w : World) (h : InitAt w v d) (hl : d.ck.length ≤ 1000000) :
    Calls Try.prog 45 #[.int .u8 (kind.toNat : Int), v] w (RetChk w 5 (d.chk kind)) := by
  obtain ⟨s, rfl, hrd⟩ := h
  have HV := hid hrd
  obtain ⟨p, c, rfl, hlc, hcm, hpn, hcell⟩ := hrd
  unfold maxLen at hcm
  clear hcell
  show Calls _ _ _ _ (RetChk w 5 ⟨kind, 0, d.body kind⟩)
  have HBD := hid (show d.body kind = if kind = 2 then padded (((((((([] ++ beBytes 4 d.tag) ++ beBytes 4 d.rwnd) ++ beBytes 2 d.out) ++ beBytes 2 d.in_) ++ beBytes 4 d.tsn) ++ beBytes 2 7) ++ beBytes 2 (4 + d.ck.length)) ++ d.ck) else ((((([] ++ beBytes 4 d.tag) ++ beBytes 4 d.rwnd) ++ beBytes 2 d.out) ++ beBytes 2 d.in_) ++ beBytes 4 d.tsn) by simp [InitD.body, InitD.more, InitD.head])
  obtain ⟨g1, g2, g3, g4, g5⟩ := hw
  rw [HBD.out]
  obtain ⟨tag, rwnd, out, in_, tsn, b⟩ := d
  simp only at *
  clear HBD
  have wr1 := wrap64_nat tag (by omega)
  have wr2 := wrap64_nat rwnd (by omega)
  have wr3 := wrap64_nat out (by omega)
  have wr4 := wrap64_nat in_ (by omega)
  have wr5 := wrap64_nat tsn (by omega)
  obtain ⟨n, hn⟩ : ∃ n, n = b.length := ⟨_, rfl⟩
  have HN := hid hn
  rw [← hn] at HV hl hlc ⊢
  have wr6 := wrap64_nat (4 + n) (by omega)
  obtain ⟨bl, hbl⟩ : ∃ x, x = (if kind = 2 then padded (((((((([] ++ beBytes 4 tag) ++ beBytes 4 rwnd) ++ beBytes 2 out) ++ beBytes 2 in_) ++ beBytes 4 tsn) ++ beBytes 2 7) ++ beBytes 2 (4 + n)) ++ b) else ((((([] ++ beBytes 4 tag) ++ beBytes 4 rwnd) ++ beBytes 2 out) ++ beBytes 2 in_) ++ beBytes 4 tsn)) := ⟨_, rfl⟩
  rw [← hbl]
  have HBL := hid hbl
  clear hn hbl
  obtain ⟨W0, hW0⟩ : ∃ W0, W0 = w.alloc (.cells #[.int .u32 (tag : Int), .int .u32 (rwnd : Int), .int .u16 (out : Int), .int .u16 (in_ : Int), .int .u32 (tsn : Int), .slice p n c] 70 (0, 0)) := ⟨_, rfl⟩
  have hs0 : W0.heap.size = w.heap.size + 1 := by rw [hW0]; simp
  obtain ⟨W, hW⟩ : ∃ W, W = W0.alloc (.cells #[.int .u8 0, .int .u8 0, .slice none 0 0] 28 (0, 0)) := ⟨_, rfl⟩
  have hs1 : W.heap.size = w.heap.size + 2 := by rw [hW]; simp [hs0]
  have HR0 := hid (show RowV W w.heap.size 70 [.int .u32 (tag : Int), .int .u32 (rwnd : Int), .int .u16 (out : Int), .int .u16 (in_ : Int), .int .u32 (tsn : Int), .slice p n c] by rw [hW, hW0]; exact (RowV.new w 70 _).alloc _)
  have HQ0 := hid (show RowV W (w.heap.size + 1) 28 [.int .u8 0, .int .u8 0, .slice none 0 0] by rw [hW, ← hs0]; exact RowV.new W0 28 _)
  have G0 := hid (show Below w.heap.size w W by rw [hW, hW0]; exact ((Below.refl _ _).alloc (Nat.le_refl _) _).alloc (by simp) _)
  have k0 := HR0.out.at 0 (by simp)
  simp only [List.getElem_cons_succ, List.getElem_cons_zero] at k0
  rw [hW0] at hW
  have HE := hid hW
  rw [hW] at k0
  clear hW hW0 hs0
  have hkb := byte_lt kind
  have hk2 := kind_eq2 kind
  go_enter Try.func45, Try.ntmps45
  go_wp2_with fail
  rw [← HE.out]
  refine (refPut_at _ [] tag 4 _ _ rfl rfl (by omega) _ (Rd.nil _) (by simp) (by omega)).mono ?_
  rintro e w1 ⟨v1, rfl, ho1, hb1⟩
  obtain ⟨b1, hB1⟩ : ∃ l, l = [] ++ beBytes 4 (tag) := ⟨_, rfl⟩
  have HB1 := hid hB1
  have HL1 := hid (show b1.length = 4 by rw [hB1, List.length_append, beBytes_length]; rfl)
  rw [← hB1] at ho1
  obtain ⟨p1, c1, rfl, -, -, -, -⟩ := ho1.rd
  have HO1 := hid ho1
  have HR1 := hid (HR0.out.mono hb1)
  have HQ1 := hid (HQ0.out.mono hb1)
  have G1 := hid (gr_trans G0.out hb1)
  have hsz1 := hb1.size
  rw [HL1.out] at HO1 ⊢
  clear ho1 hb1 hB1
  have k1 := HR1.out.at 1 (by simp)
  simp only [List.getElem_cons_succ, List.getElem_cons_zero] at k1
  go_wp2_with fail
  refine (refPut_at _ b1 rwnd 4 _ _ rfl rfl (by omega) _ HO1.out.rd (by rw [HL1.out]; omega) (by omega)).mono ?_
  rintro e w2 ⟨v2, rfl, ho2, hb2⟩
  obtain ⟨b2, hB2⟩ : ∃ l, l = b1 ++ beBytes 4 (rwnd) := ⟨_, rfl⟩
  have HB2 := hid hB2
  have HL2 := hid (show b2.length = 4 + 4 by rw [hB2, List.length_append, beBytes_length, HL1.out])
  rw [← hB2] at ho2
  obtain ⟨p2, c2, rfl, -, -, -, -⟩ := ho2.rd
  have HO2 := hid ho2
  have HR2 := hid (HR1.out.mono hb2)
  have HQ2 := hid (HQ1.out.mono hb2)
  have G2 := hid (gr_trans G1.out hb2)
  have hsz2 := hb2.size
  rw [HL2.out] at HO2 ⊢
  clear ho2 hb2 hB2
  have k2 := HR2.out.at 2 (by simp)
  simp only [List.getElem_cons_succ, List.getElem_cons_zero] at k2
  go_wp2_with fail
  refine (refPut_at _ b2 out 2 _ _ rfl rfl (by omega) _ HO2.out.rd (by rw [HL2.out]; omega) (by omega)).mono ?_
  rintro e w3 ⟨v3, rfl, ho3, hb3⟩
  obtain ⟨b3, hB3⟩ : ∃ l, l = b2 ++ beBytes 2 (out) := ⟨_, rfl⟩
  have HB3 := hid hB3
  have HL3 := hid (show b3.length = 4 + 4 + 2 by rw [hB3, List.length_append, beBytes_length, HL2.out])
  rw [← hB3] at ho3
  obtain ⟨p3, c3, rfl, -, -, -, -⟩ := ho3.rd
  have HO3 := hid ho3
  have HR3 := hid (HR2.out.mono hb3)
  have HQ3 := hid (HQ2.out.mono hb3)
  have G3 := hid (gr_trans G2.out hb3)
  have hsz3 := hb3.size
  rw [HL3.out] at HO3 ⊢
  clear ho3 hb3 hB3
  have k3 := HR3.out.at 3 (by simp)
  simp only [List.getElem_cons_succ, List.getElem_cons_zero] at k3
  go_wp2_with fail
  refine (refPut_at _ b3 in_ 2 _ _ rfl rfl (by omega) _ HO3.out.rd (by rw [HL3.out]; omega) (by omega)).mono ?_
  rintro e w4 ⟨v4, rfl, ho4, hb4⟩
  obtain ⟨b4, hB4⟩ : ∃ l, l = b3 ++ beBytes 2 (in_) := ⟨_, rfl⟩
  have HB4 := hid hB4
  have HL4 := hid (show b4.length = 4 + 4 + 2 + 2 by rw [hB4, List.length_append, beBytes_length, HL3.out])
  rw [← hB4] at ho4
  obtain ⟨p4, c4, rfl, -, -, -, -⟩ := ho4.rd
  have HO4 := hid ho4
  have HR4 := hid (HR3.out.mono hb4)
  have HQ4 := hid (HQ3.out.mono hb4)
  have G4 := hid (gr_trans G3.out hb4)
  have hsz4 := hb4.size
  rw [HL4.out] at HO4 ⊢
  clear ho4 hb4 hB4
  have k4 := HR4.out.at 4 (by simp)
  simp only [List.getElem_cons_succ, List.getElem_cons_zero] at k4
  go_wp2_with fail
  refine (refPut_at _ b4 tsn 4 _ _ rfl rfl (by omega) _ HO4.out.rd (by rw [HL4.out]; omega) (by omega)).mono ?_
  rintro e w5 ⟨v5, rfl, ho5, hb5⟩
  obtain ⟨b5, hB5⟩ : ∃ l, l = b4 ++ beBytes 4 (tsn) := ⟨_, rfl⟩
  have HB5 := hid hB5
  have HL5 := hid (show b5.length = 4 + 4 + 2 + 2 + 4 by rw [hB5, List.length_append, beBytes_length, HL4.out])
  rw [← hB5] at ho5
  obtain ⟨p5, c5, rfl, -, -, -, -⟩ := ho5.rd
  have HO5 := hid ho5
  have HR5 := hid (HR4.out.mono hb5)
  have HQ5 := hid (HQ4.out.mono hb5)
  have G5 := hid (gr_trans G4.out hb5)
  have hsz5 := hb5.size
  rw [HL5.out] at HO5 ⊢
  clear ho5 hb5 hB5
  by_cases e2 : kind = 2
  · subst e2
    rw [if_pos rfl] at HBL
    clear hk2
    go_wp2_with fail
    refine (refPut_at _ b5 7 2 _ _ rfl rfl (by omega) _ HO5.out.rd (by rw [HL5.out]; omega) (by omega)).mono ?_
    rintro e w6 ⟨v6, rfl, ho6, hb6⟩
    obtain ⟨b6, hB6⟩ : ∃ l, l = b5 ++ beBytes 2 (7) := ⟨_, rfl⟩
    have HB6 := hid hB6
    have HL6 := hid (show b6.length = 4 + 4 + 2 + 2 + 4 + 2 by rw [hB6, List.length_append, beBytes_length, HL5.out])
    rw [← hB6] at ho6
    obtain ⟨p6, c6, rfl, -, -, -, -⟩ := ho6.rd
    have HO6 := hid ho6
    have HR6 := hid (HR5.out.mono hb6)
    have HQ6 := hid (HQ5.out.mono hb6)
    have G6 := hid (gr_trans G5.out hb6)
    have hsz6 := hb6.size
    rw [HL6.out] at HO6 ⊢
    clear ho6 hb6 hB6
    have k6 := HR6.out.at 5 (by simp)
    simp only [List.getElem_cons_succ, List.getElem_cons_zero] at k6
    go_wp2_with fail
    refine (refPut_at _ b6 (4 + n) 2 _ _ rfl rfl (by omega) _ HO6.out.rd (by rw [HL6.out]; omega) (by omega)).mono ?_
    rintro e w7 ⟨v7, rfl, ho7, hb7⟩
    obtain ⟨b7, hB7⟩ : ∃ l, l = b6 ++ beBytes 2 ((4 + n)) := ⟨_, rfl⟩
    have HB7 := hid hB7
    have HL7 := hid (show b7.length = 4 + 4 + 2 + 2 + 4 + 2 + 2 by rw [hB7, List.length_append, beBytes_length, HL6.out])
    rw [← hB7] at ho7
    obtain ⟨p7, c7, rfl, -, -, -, -⟩ := ho7.rd
    have HO7 := hid ho7
    have HR7 := hid (HR6.out.mono hb7)
    have HQ7 := hid (HQ6.out.mono hb7)
    have G7 := hid (gr_trans G6.out hb7)
    have hsz7 := hb7.size
    rw [HL7.out] at HO7 ⊢
    clear ho7 hb7 hB7
    have k7 := HR7.out.at 5 (by simp)
    simp only [List.getElem_cons_succ, List.getElem_cons_zero] at k7
    go_wp2_with (at_builtin; refine wpList_append_Own rfl (.tmp 41) (.tmp 43) 24 rfl w6.heap.size 5 Try.underlying24 infoU8 _ _ b7 b rfl HO7.out rfl (HV.out.mono G7.out) (by rw [HL7.out, ← HN.out]; omega) hsz7 ?_)
    intro v8 w8 ho8 hg8
    have hq7 := HQ7.out.lt
    have hq6 := HQ6.out.lt
    have HQ8 := hid (HQ7.out.grown hg8 (fun e => by have := HO7.out.ge _ e; omega))
    have G8 := hid (show Below w.heap.size w w8 from G7.out.grown hg8 G7.out.size (fun k hk => Nat.le_trans G6.out.size (HO7.out.ge k hk)))
    obtain ⟨p8, c8, rfl, -, -, -, -⟩ := ho8.rd
    have HLT := hid (show (b7 ++ b).length = 20 + n by rw [List.length_append, HL7.out, HN.out])
    obtain ⟨bb, hbb⟩ : ∃ x, x = b7 ++ b := ⟨_, rfl⟩
    have HBB := hid hbb
    have HO8 := hid ho8
    rw [← hbb] at HLT HO8 ⊢
    have h8s := hg8.size
    rw [HLT.out] at HO8 ⊢
    clear ho8 hg8 hbb k7
    go_wp2_with fail
    refine (refPad_any _ bb _ HO8.out.rd (by rw [HLT.out]; omega)).mono ?_
    rintro e w9 ⟨v9, rfl, ho9, hb9⟩
    have HO9 := hid ho9
    have HQ9 := hid (HQ8.out.mono hb9)
    have G9 := hid (gr_trans G8.out hb9)
    obtain ⟨p9, c9, rfl, -, -, -, -⟩ := ho9.rd
    obtain ⟨pd, hpd⟩ : ∃ x, x = padded bb := ⟨_, rfl⟩
    have HPD := hid hpd
    rw [← hpd] at HO9 ⊢
    have hq8 := HQ8.out.lt
    clear ho9 hb9 hpd
    obtain ⟨q0, q1, q2⟩ := HQ9.out.three
    have f0 := HQ9.out.frozen 0
    have f1 := HQ9.out.frozen 1
    have f2 := HQ9.out.frozen 2
    go_wp2_with fail
    refine rputInit_ret (.int .u8 2) (.int .u8 0) _ rfl rfl (((HQ9.out.store 0 _).store 1 _).store 2 _) ⟨_, rfl, ?_, ((G9.out.setCell (by simp) _).setCell (by simp) _).setCell (by simp) _⟩
    show Own _ _ _ _ bl
    rw [HBL.out, ← HB1.out, ← HB2.out, ← HB3.out, ← HB4.out, ← HB5.out, ← HB6.out, ← HB7.out, ← HBB.out, ← HPD.out]
    exact (HO9.out.keep (r := some (w.heap.size + 1)) (gb_set (gb_set (gb_set (gb_refl _ _) 0 _) 1 _) 2 _) (fun k hk e => by have := HO9.out.ge k hk; simp at e; omega)).base (show w.heap.size ≤ w8.heap.size by omega)
  · rw [if_neg e2] at HBL
    rw [decide_eq_false e2] at hk2
    obtain ⟨q0, q1, q2⟩ := HQ5.out.three
    have f0 := HQ5.out.frozen 0
    have f1 := HQ5.out.frozen 1
    have f2 := HQ5.out.frozen 2
    go_wp2_with fail
    refine rputInit_ret (.int .u8 (kind.toNat : Int)) (.int .u8 0) _ rfl rfl (((HQ5.out.store 0 _).store 1 _).store 2 _) ⟨_, rfl, ?_, ((G5.out.setCell (by simp) _).setCell (by simp) _).setCell (by simp) _⟩
    show Own _ _ _ _ bl
    rw [HBL.out, ← HB1.out, ← HB2.out, ← HB3.out, ← HB4.out, ← HB5.out]
    exact (HO5.out.keep (r := some (w.heap.size + 1)) (gb_set (gb_set (gb_set (gb_refl _ _) 0 _) 1 _) 2 _) (fun k hk e => by have := HO5.out.ge k hk; simp at e; omega)).base (show w.heap.size ≤ w4.heap.size by omega)
end Go.Proofs.Ytfiblhdejglpaaa

/- Plain, pair: two ends are made. Conditions: the keys are of 1 to 64 bytes. -/
import Derived.Test.YtiimlanbbfhkjaaDoorAsTwo
set_option linter.unusedSimpArgs false
set_option linter.unusedVariables false


namespace Go.FL

/-- Two ends that are closed. -/
def pairD (p : Nat) (k l : List UInt8) : TwoD := ⟨newD p 40 k, newD p 40 l, .none, .none, 0, 0⟩
end Go.FL

namespace Go.Proofs.YtiimlanbbfhkjaaDoor

open Go.RowKit Go.FL Go.ChangeShapes

/-- Two ends of this program, and what is on its way. -/
abbrev Mid (B : Nat) (w : World) (t ga gb : Nat) (vra vrb xa xb : Value) (T : TwoD) (A L : List OutD) : Prop := MidAt 77 59 5 35 B w t ga gb vra vrb xa xb T A L
abbrev Two (B : Nat) (w : World) (t ga gb : Nat) (vra vrb : Value) (T : TwoD) : Prop := Mid B w t ga gb vra vrb (.slice none 0 0) (.slice none 0 0) T [] []
theorem plain23_ret {a : Act} {W : World} {g : Nat} {R : Ending → World → Prop} (v0 v1 v2 v3 v4 v5 v6 v7 v8 v9 v10 v11 v12 v13 : Value) (h2 : a.tmps.getD 2 undef = .pointer (some ⟨g, 0, none⟩)) (hd : a.defers = [])
    (hc : RowV W g 53 [v0, v1, v2, v3, v4, v5, v6, v7, v8, v9, v10, v11, v12, v13]) (hR : R (.returned (.agg #[v0, v1, v2, v3, v4, v5, v6, v7, v8, v9, v10, v11, v12, v13])) W) : bodyPost Tryd.prog Tryd.f32 R .ret a W := by
  refine bodyPost_ret (v := .agg #[v0, v1, v2, v3, v4, v5, v6, v7, v8, v9, v10, v11, v12, v13]) ?_ hd hR
  have c0 := hc.at 0 (by simp)
  have c1 := hc.at 1 (by simp)
  have c2 := hc.at 2 (by simp)
  have c3 := hc.at 3 (by simp)
  have c4 := hc.at 4 (by simp)
  have c5 := hc.at 5 (by simp)
  have c6 := hc.at 6 (by simp)
  have c7 := hc.at 7 (by simp)
  have c8 := hc.at 8 (by simp)
  have c9 := hc.at 9 (by simp)
  have c10 := hc.at 10 (by simp)
  have c11 := hc.at 11 (by simp)
  have c12 := hc.at 12 (by simp)
  have c13 := hc.at 13 (by simp)
  simp only [List.getElem_cons_succ, List.getElem_cons_zero] at c0 c1 c2 c3 c4 c5 c6 c7 c8 c9 c10 c11 c12 c13
  simp only [Array.getD_eq_getD_getElem?] at h2
  simp [results, Tryd.results32, go_sem, h2, asAddr, c0, c1, c2, c3, c4, c5, c6, c7, c8, c9, c10, c11, c12, c13]
set_option maxRecDepth 100000 in
theorem plain23_any (x : UInt8) (w : World) : Calls Tryd.prog 32 #[.int .u8 (x.toNat : Int)] w fun e w' => e = .returned (.agg #[.int .i64 (((1 + x.toNat % 4 : Nat) : Int)), .int .i64 128, .int .i64 2, .int .i64 65536, .int .i64 65536, .int .i64 1000, .int .i64 3, .int .i64 1, .int .i64 60, .int .i64 5, .int .i64 100, .int .i64 10, .int .i64 2, .int .i64 (5)]) ∧ Below w.heap.size w w' := by
  have hx := byte_lt x
  have h1 : IntKind.i64.wrap (x.toNat : Int) = (x.toNat : Int) := by rw [IntKind.wrap_i64]; omega
  have h2 : IntKind.i64.wrap (((x.toNat : Int)).tmod 4) = ((x.toNat % 4 : Nat) : Int) := by rw [Int.tmod_eq_emod_of_nonneg (by omega), IntKind.wrap_i64]; omega
  have h3 : IntKind.i64.wrap (1 + ((x.toNat % 4 : Nat) : Int)) = ((1 + x.toNat % 4 : Nat) : Int) := by rw [IntKind.wrap_i64]; omega
  go_enter Tryd.func32, Tryd.ntmps32
  go_wp2_with fail
  exact plain23_ret (.int .i64 (((1 + x.toNat % 4 : Nat) : Int))) (.int .i64 128) (.int .i64 2) (.int .i64 65536) (.int .i64 65536) (.int .i64 1000) (.int .i64 3) (.int .i64 1) (.int .i64 60) (.int .i64 5) (.int .i64 100) (.int .i64 10) (.int .i64 2) (.int .i64 (5)) rfl rfl (RowV.new w _ _) ⟨rfl, (Below.refl _ _).alloc (Nat.le_refl _) _⟩
theorem plain25_ret {a : Act} {W : World} {g : Nat} {R : Ending → World → Prop} (v0 v1 v2 v3 v4 v5 v6 v7 v8 v9 v10 v11 v12 v13 : Value) (h2 : a.tmps.getD 2 undef = .pointer (some ⟨g, 0, none⟩)) (hd : a.defers = [])
    (hc : RowV W g 53 [v0, v1, v2, v3, v4, v5, v6, v7, v8, v9, v10, v11, v12, v13]) (hR : R (.returned (.agg #[v0, v1, v2, v3, v4, v5, v6, v7, v8, v9, v10, v11, v12, v13])) W) : bodyPost Tryd.prog Tryd.f17 R .ret a W := by
  refine bodyPost_ret (v := .agg #[v0, v1, v2, v3, v4, v5, v6, v7, v8, v9, v10, v11, v12, v13]) ?_ hd hR
  have c0 := hc.at 0 (by simp)
  have c1 := hc.at 1 (by simp)
  have c2 := hc.at 2 (by simp)
  have c3 := hc.at 3 (by simp)
  have c4 := hc.at 4 (by simp)
  have c5 := hc.at 5 (by simp)
  have c6 := hc.at 6 (by simp)
  have c7 := hc.at 7 (by simp)
  have c8 := hc.at 8 (by simp)
  have c9 := hc.at 9 (by simp)
  have c10 := hc.at 10 (by simp)
  have c11 := hc.at 11 (by simp)
  have c12 := hc.at 12 (by simp)
  have c13 := hc.at 13 (by simp)
  simp only [List.getElem_cons_succ, List.getElem_cons_zero] at c0 c1 c2 c3 c4 c5 c6 c7 c8 c9 c10 c11 c12 c13
  simp only [Array.getD_eq_getD_getElem?] at h2
  simp [results, Tryd.results17, go_sem, h2, asAddr, c0, c1, c2, c3, c4, c5, c6, c7, c8, c9, c10, c11, c12, c13]
set_option maxRecDepth 100000 in
theorem plain25_any (x : UInt8) (w : World) : Calls Tryd.prog 17 #[.int .u8 (x.toNat : Int)] w fun e w' => e = .returned (.agg #[.int .i64 (((1 + x.toNat % 4 : Nat) : Int)), .int .i64 128, .int .i64 2, .int .i64 65536, .int .i64 65536, .int .i64 1000, .int .i64 3, .int .i64 1, .int .i64 60, .int .i64 5, .int .i64 100, .int .i64 10, .int .i64 2, .int .i64 (5)]) ∧ Below w.heap.size w w' := by
  obtain ⟨p, hp⟩ : ∃ p, p = 1 + x.toNat % 4 := ⟨_, rfl⟩
  have HC := hid (plain23_any x)
  rw [← hp] at HC ⊢
  clear hp
  have hx := byte_lt x
  go_enter Tryd.func17, Tryd.ntmps17
  go_wp2_with fail
  refine (HC.out _).mono ?_
  rintro e w1 ⟨rfl, hb1⟩
  obtain ⟨j, hj⟩ : ∃ j, j = w.heap.size := ⟨_, rfl⟩
  have hz := (RowV.new w 53 [.int .i64 0, .int .i64 0, .int .i64 0, .int .i64 0, .int .i64 0, .int .i64 0, .int .i64 0, .int .i64 0, .int .i64 0, .int .i64 0, .int .i64 0, .int .i64 0, .int .i64 0, .int .i64 0]).mono hb1
  have GZ := hid (show Below w.heap.size w w1 from gr_trans ((Below.refl w.heap.size w).alloc (Nat.le_refl _) _) hb1)
  have q0 := hz.at 0 (by simp)
  have q1 := hz.at 1 (by simp)
  have q2 := hz.at 2 (by simp)
  have q3 := hz.at 3 (by simp)
  have q4 := hz.at 4 (by simp)
  have q5 := hz.at 5 (by simp)
  have q6 := hz.at 6 (by simp)
  have q7 := hz.at 7 (by simp)
  have q8 := hz.at 8 (by simp)
  have q9 := hz.at 9 (by simp)
  have q10 := hz.at 10 (by simp)
  have q11 := hz.at 11 (by simp)
  have q12 := hz.at 12 (by simp)
  have q13 := hz.at 13 (by simp)
  simp only [List.getElem_cons_succ, List.getElem_cons_zero] at q0 q1 q2 q3 q4 q5 q6 q7 q8 q9 q10 q11 q12 q13
  have f0 := hz.frozen 0
  have f1 := hz.frozen 1
  have f2 := hz.frozen 2
  have f3 := hz.frozen 3
  have f4 := hz.frozen 4
  have f5 := hz.frozen 5
  have f6 := hz.frozen 6
  have f7 := hz.frozen 7
  have f8 := hz.frozen 8
  have f9 := hz.frozen 9
  have f10 := hz.frozen 10
  have f11 := hz.frozen 11
  have f12 := hz.frozen 12
  have f13 := hz.frozen 13
  go_wp2_with fail
  exact plain25_ret (.int .i64 (p : Int)) (.int .i64 128) (.int .i64 2) (.int .i64 65536) (.int .i64 65536) (.int .i64 1000) (.int .i64 3) (.int .i64 1) (.int .i64 60) (.int .i64 5) (.int .i64 100) (.int .i64 10) (.int .i64 2) (.int .i64 (5)) rfl rfl ((((((((((((((hz.store 0 (.int .i64 (p : Int))).store 1 (.int .i64 128)).store 2 (.int .i64 2)).store 3 (.int .i64 65536)).store 4 (.int .i64 65536)).store 5 (.int .i64 1000)).store 6 (.int .i64 3)).store 7 (.int .i64 1)).store 8 (.int .i64 60)).store 9 (.int .i64 5)).store 10 (.int .i64 100)).store 11 (.int .i64 10)).store 12 (.int .i64 2)).store 13 (.int .i64 (5))) ⟨rfl, ((((((((((((((GZ.out.setCell (p := ⟨w.heap.size, 0, none⟩) (Nat.le_refl _) (.int .i64 (p : Int))).setCell (p := ⟨w.heap.size, 1, none⟩) (Nat.le_refl _) (.int .i64 128)).setCell (p := ⟨w.heap.size, 2, none⟩) (Nat.le_refl _) (.int .i64 2)).setCell (p := ⟨w.heap.size, 3, none⟩) (Nat.le_refl _) (.int .i64 65536)).setCell (p := ⟨w.heap.size, 4, none⟩) (Nat.le_refl _) (.int .i64 65536)).setCell (p := ⟨w.heap.size, 5, none⟩) (Nat.le_refl _) (.int .i64 1000)).setCell (p := ⟨w.heap.size, 6, none⟩) (Nat.le_refl _) (.int .i64 3)).setCell (p := ⟨w.heap.size, 7, none⟩) (Nat.le_refl _) (.int .i64 1)).setCell (p := ⟨w.heap.size, 8, none⟩) (Nat.le_refl _) (.int .i64 60)).setCell (p := ⟨w.heap.size, 9, none⟩) (Nat.le_refl _) (.int .i64 5)).setCell (p := ⟨w.heap.size, 10, none⟩) (Nat.le_refl _) (.int .i64 100)).setCell (p := ⟨w.heap.size, 11, none⟩) (Nat.le_refl _) (.int .i64 10)).setCell (p := ⟨w.heap.size, 12, none⟩) (Nat.le_refl _) (.int .i64 2)).setCell (p := ⟨w.heap.size, 13, none⟩) (Nat.le_refl _) (.int .i64 (5)))⟩
set_option maxRecDepth 100000 in
set_option maxHeartbeats 2000000 in
theorem pair_any (x : UInt8) (k l : List UInt8) (v u : Value) (w : World) (hv : Rd w v k) (hu : Rd w u l) (hk : 1 ≤ k.length ∧ k.length ≤ 64) (hl : 1 ≤ l.length ∧ l.length ≤ 64) (B : Nat) (hB : B ≤ w.heap.size) :
    Calls Tryd.prog 7 #[.int .u8 (x.toNat : Int), v, u] w fun e w' => ∃ t ga gb, e = .returned (.pointer (some ⟨t, 0, none⟩)) ∧ Two B w' t ga gb (.slice none 0 0) (.slice none 0 0) (pairD (1 + x.toNat % 4) k l) ∧ Below w.heap.size w w' := by
  obtain ⟨p, hp⟩ : ∃ p, p = 1 + x.toNat % 4 := ⟨_, rfl⟩
  have HC := hid (plain25_any x)
  have hx := byte_lt x
  rw [← hp] at HC ⊢
  have HPT := hid (show 1 ≤ p ∧ p ≤ 4 by omega)
  clear hp
  obtain ⟨pv, nv, cv, rfl⟩ : ∃ a n c, v = Value.slice a n c := by
    obtain ⟨p9, c9, hsf, -⟩ := id hv
    exact ⟨_, _, _, hsf⟩
  obtain ⟨pu, nu, cu, rfl⟩ : ∃ a n c, u = Value.slice a n c := by
    obtain ⟨p9, c9, hsf, -⟩ := id hu
    exact ⟨_, _, _, hsf⟩
  have HV := hid hv
  have HU := hid hu
  have HK := hid hk
  have HL := hid hl
  have HB := hid hB
  clear hv hu hk hl hB
  go_enter Tryd.func7, Tryd.ntmps7
  go_wp2_with fail
  refine (HC.out _).mono ?_
  rintro e w1 ⟨rfl, hb1⟩
  have G1 := hid hb1
  obtain ⟨W1, hW1⟩ : ∃ y, y = w1.alloc (.cells #[.int .i64 (p : Int), .int .i64 128, .int .i64 2, .int .i64 65536, .int .i64 65536, .int .i64 1000, .int .i64 3, .int .i64 1, .int .i64 60, .int .i64 5, .int .i64 100, .int .i64 10, .int .i64 2, .int .i64 (40)] 53 (0, 0)) := ⟨_, rfl⟩
  have HC1 := hid (show RowV W1 w1.heap.size 53 [.int .i64 (p : Int), .int .i64 128, .int .i64 2, .int .i64 65536, .int .i64 65536, .int .i64 1000, .int .i64 3, .int .i64 1, .int .i64 60, .int .i64 5, .int .i64 100, .int .i64 10, .int .i64 2, .int .i64 (40)] by rw [hW1]; exact RowV.new w1 _ _)
  have GW1 := hid (show Below w.heap.size w W1 by rw [hW1]; exact hb1.alloc hb1.size _)
  have HE1 := hid hW1
  have HLT := hid (show w1.heap.size < W1.heap.size by rw [hW1]; simp)
  clear hb1
  go_upto_region 3 with fail
  rw [← HE1.out]
  clear hW1
  obtain ⟨c0,c1,c2,c3,c4,c5,c6,c7,c8,c9,c10,c11,c12,c13⟩ : W1.cell? ⟨w1.heap.size, 0, none⟩ = some (.int .i64 (p : Int)) ∧ W1.cell? ⟨w1.heap.size, 1, none⟩ = some (.int .i64 128) ∧ W1.cell? ⟨w1.heap.size, 2, none⟩ = some (.int .i64 2) ∧ W1.cell? ⟨w1.heap.size, 3, none⟩ = some (.int .i64 65536) ∧ W1.cell? ⟨w1.heap.size, 4, none⟩ = some (.int .i64 65536) ∧ W1.cell? ⟨w1.heap.size, 5, none⟩ = some (.int .i64 1000) ∧ W1.cell? ⟨w1.heap.size, 6, none⟩ = some (.int .i64 3) ∧ W1.cell? ⟨w1.heap.size, 7, none⟩ = some (.int .i64 1) ∧ W1.cell? ⟨w1.heap.size, 8, none⟩ = some (.int .i64 60) ∧ W1.cell? ⟨w1.heap.size, 9, none⟩ = some (.int .i64 5) ∧ W1.cell? ⟨w1.heap.size, 10, none⟩ = some (.int .i64 100) ∧ W1.cell? ⟨w1.heap.size, 11, none⟩ = some (.int .i64 10) ∧ W1.cell? ⟨w1.heap.size, 12, none⟩ = some (.int .i64 2) ∧ W1.cell? ⟨w1.heap.size, 13, none⟩ = some (.int .i64 (40)) := ⟨HC1.out.at 0 (by simp), HC1.out.at 1 (by simp), HC1.out.at 2 (by simp), HC1.out.at 3 (by simp), HC1.out.at 4 (by simp), HC1.out.at 5 (by simp), HC1.out.at 6 (by simp), HC1.out.at 7 (by simp), HC1.out.at 8 (by simp), HC1.out.at 9 (by simp), HC1.out.at 10 (by simp), HC1.out.at 11 (by simp), HC1.out.at 12 (by simp), HC1.out.at 13 (by simp)⟩
  go_wp2_with fail
  refine (asnew_any p 40 HPT.out (by omega) k _ W1 (HV.out.mono GW1.out) HK.out B (Nat.le_trans HB.out GW1.out.size)).mono ?_
  rintro e w2 ⟨ga, rfl, ha, hga, hb2⟩
  have HA2 := hid ha
  have GA := hid hga
  have HC2 := hid (HC1.out.mono hb2)
  have G2 := hid (gr_trans GW1.out hb2)
  clear ha hga hb2 c0 c1 c2 c3 c4 c5 c6 c7 c8 c9 c10 c11 c12 c13
  obtain ⟨c0,c1,c2,c3,c4,c5,c6,c7,c8,c9,c10,c11,c12,c13⟩ : w2.cell? ⟨w1.heap.size, 0, none⟩ = some (.int .i64 (p : Int)) ∧ w2.cell? ⟨w1.heap.size, 1, none⟩ = some (.int .i64 128) ∧ w2.cell? ⟨w1.heap.size, 2, none⟩ = some (.int .i64 2) ∧ w2.cell? ⟨w1.heap.size, 3, none⟩ = some (.int .i64 65536) ∧ w2.cell? ⟨w1.heap.size, 4, none⟩ = some (.int .i64 65536) ∧ w2.cell? ⟨w1.heap.size, 5, none⟩ = some (.int .i64 1000) ∧ w2.cell? ⟨w1.heap.size, 6, none⟩ = some (.int .i64 3) ∧ w2.cell? ⟨w1.heap.size, 7, none⟩ = some (.int .i64 1) ∧ w2.cell? ⟨w1.heap.size, 8, none⟩ = some (.int .i64 60) ∧ w2.cell? ⟨w1.heap.size, 9, none⟩ = some (.int .i64 5) ∧ w2.cell? ⟨w1.heap.size, 10, none⟩ = some (.int .i64 100) ∧ w2.cell? ⟨w1.heap.size, 11, none⟩ = some (.int .i64 10) ∧ w2.cell? ⟨w1.heap.size, 12, none⟩ = some (.int .i64 2) ∧ w2.cell? ⟨w1.heap.size, 13, none⟩ = some (.int .i64 (40)) := ⟨HC2.out.at 0 (by simp), HC2.out.at 1 (by simp), HC2.out.at 2 (by simp), HC2.out.at 3 (by simp), HC2.out.at 4 (by simp), HC2.out.at 5 (by simp), HC2.out.at 6 (by simp), HC2.out.at 7 (by simp), HC2.out.at 8 (by simp), HC2.out.at 9 (by simp), HC2.out.at 10 (by simp), HC2.out.at 11 (by simp), HC2.out.at 12 (by simp), HC2.out.at 13 (by simp)⟩
  go_wp2_with fail
  refine (asnew_any p 40 HPT.out (by omega) l _ w2 (HU.out.mono G2.out) HL.out B (Nat.le_trans HB.out G2.out.size)).mono ?_
  rintro e w3 ⟨gb, rfl, hb, hgb, hb3⟩
  have HA3 := hid (HA2.out.mono hb3)
  have HB3 := hid hb
  have HNE := hid (show ga ≠ gb by
    obtain ⟨m, hm⟩ := AsAt.row HA2.out
    have := hm.lt
    omega)
  have G3 := hid (gr_trans G2.out hb3)
  clear hb hgb hb3 c0 c1 c2 c3 c4 c5 c6 c7 c8 c9 c10 c11 c12 c13
  obtain ⟨w4, hw4⟩ : ∃ y, y = w3.alloc (.cells #[.pointer (some ⟨ga, 0, none⟩), .pointer (some ⟨gb, 0, none⟩), .slice none 0 0, .slice none 0 0, .bool false, .bool false, .bool false, .int .u32 0, .int .u32 0, .int .u16 0, .int .u16 0, .int .u32 0, .slice none 0 0, .int .u32 0, .bool false, .bool false, .bool false, .int .u32 0, .int .u32 0, .int .u16 0, .int .u16 0, .int .u32 0, .slice none 0 0, .int .u32 0, .int .i64 0, .int .i64 0, .bool true] 35 (0, 0)) := ⟨_, rfl⟩
  have g4 : Below w3.heap.size w3 w4 := by rw [hw4]; exact (Below.refl _ _).alloc (Nat.le_refl _) _
  have HT4 := hid (show RowV w4 w3.heap.size 35 [.pointer (some ⟨ga, 0, none⟩), .pointer (some ⟨gb, 0, none⟩), .slice none 0 0, .slice none 0 0, .bool false, .bool false, .bool false, .int .u32 0, .int .u32 0, .int .u16 0, .int .u16 0, .int .u32 0, .slice none 0 0, .int .u32 0, .bool false, .bool false, .bool false, .int .u32 0, .int .u32 0, .int .u16 0, .int .u16 0, .int .u32 0, .slice none 0 0, .int .u32 0, .int .i64 0, .int .i64 0, .bool true] by rw [hw4]; exact RowV.new w3 _ _)
  have HA4 := hid (HA3.out.mono g4)
  have HB4 := hid (HB3.out.mono g4)
  have G4 := hid (gr_trans G3.out g4)
  have HE4 := hid hw4
  clear hw4 g4
  go_wp2_with fail
  rw [← HE4.out]
  go_ret
  exact ⟨_, ga, gb, rfl, ⟨HT4.out, Nat.le_trans HB.out G3.out.size, HA4.out, HB4.out, HNE.out, .nil_left _, OutsAt.nil _ _ _ _, OutsAt.nil _ _ _ _, .nil_left _, .nil_left _, .nil_left _, .nil_left _⟩, G4.out⟩
end Go.Proofs.YtiimlanbbfhkjaaDoor

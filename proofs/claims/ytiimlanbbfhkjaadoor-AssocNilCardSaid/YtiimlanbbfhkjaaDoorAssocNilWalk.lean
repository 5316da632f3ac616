/- AssocNil: no association begins. Conditions: the tables of sha hold what its text says. -/
import Derived.Test.YtiimlanbbfhkjaaDoorAsNil
import Derived.Test.YtiimlanbbfhkjaaDoorAsOpOpen
set_option linter.unusedSimpArgs false
set_option linter.unusedVariables false



namespace Go.Proofs.YtiimlanbbfhkjaaDoor

open Go.RowKit Go.FL Go.ChangeShapes

theorem field_ev0 (w : World) : (Instr.field 33 (.agg #[.bool false, .bool false, .bool false, .int .u32 0, .int .u32 0, .int .u16 0, .int .u16 0, .int .u32 0, .slice none 0 0, .int .u32 0]) 0).run Tryd.prog w = .ok (.bool false) w := by kernel_rfl
theorem field_ev1 (w : World) : (Instr.field 33 (.agg #[.bool false, .bool false, .bool false, .int .u32 0, .int .u32 0, .int .u16 0, .int .u16 0, .int .u32 0, .slice none 0 0, .int .u32 0]) 1).run Tryd.prog w = .ok (.bool false) w := by kernel_rfl
set_option maxRecDepth 100000 in
set_option maxHeartbeats 8000000 in
theorem assocNil_walk {w : World} (hlaid : ShaLaid w) (x : OpD) {v : Value} (hx : OpAt w v x) :
    Calls Tryd.prog 6 #[v] w fun e w' => e = .returned (.bool true) ∧ Below w.heap.size w w' := by
  obtain ⟨sb, sc, rfl, hb, hc, -, -⟩ := hx
  obtain ⟨pb, nb, cb, rfl⟩ := hb.form
  obtain ⟨pc, cc, rfl, -⟩ := hc
  obtain ⟨nc, hnc⟩ : ∃ n, n = x.cs.length := ⟨_, rfl⟩
  rw [← hnc]
  have HLAID := hid hlaid
  clear hb hnc hlaid
  obtain ⟨W1, hW1⟩ : ∃ W, W = w.alloc (.cells #[.int .i64 x.kind, .int .u16 x.wait, .bool x.act, .bool x.own, .int .u32 (x.tag : Int), .int .u32 (x.tsn : Int), .int .i64 x.path, .int .u8 (x.c.k.toNat : Int), .int .u8 (x.c.f.toNat : Int), .slice pb nb cb, .int .u32 (x.ptag : Int), .slice pc nc cc] 64 (0, 0)) := ⟨_, rfl⟩
  have hs1 : W1.heap.size = w.heap.size + 1 := by rw [hW1]; simp
  obtain ⟨W2, hW2⟩ : ∃ W, W = W1.alloc (.cells #[.int .i64 x.kind, .int .u16 x.wait, .bool x.act, .bool x.own, .int .u32 (x.tag : Int), .int .u32 (x.tsn : Int), .int .i64 x.path, .int .u8 (x.c.k.toNat : Int), .int .u8 (x.c.f.toNat : Int), .slice pb nb cb, .int .u32 (x.ptag : Int), .slice pc nc cc] 64 (0, 0)) := ⟨_, rfl⟩
  have HO1 := hid (show RowV W1 w.heap.size 64 [.int .i64 x.kind, .int .u16 x.wait, .bool x.act, .bool x.own, .int .u32 (x.tag : Int), .int .u32 (x.tsn : Int), .int .i64 x.path, .int .u8 (x.c.k.toNat : Int), .int .u8 (x.c.f.toNat : Int), .slice pb nb cb, .int .u32 (x.ptag : Int), .slice pc nc cc] by rw [hW1]; exact RowV.new w _ _)
  have HO2 := hid (show RowV W2 (w.heap.size + 1) 64 [.int .i64 x.kind, .int .u16 x.wait, .bool x.act, .bool x.own, .int .u32 (x.tag : Int), .int .u32 (x.tsn : Int), .int .i64 x.path, .int .u8 (x.c.k.toNat : Int), .int .u8 (x.c.f.toNat : Int), .slice pb nb cb, .int .u32 (x.ptag : Int), .slice pc nc cc] by rw [hW2, ← hs1]; exact RowV.new W1 _ _)
  have g1 : Below w.heap.size w W1 := by rw [hW1]; exact (Below.refl _ _).alloc (Nat.le_refl _) _
  have g2 : Below W1.heap.size W1 W2 := by rw [hW2]; exact (Below.refl _ _).alloc (Nat.le_refl _) _
  have HOP := hid (HO1.out.mono g2)
  have HG := hid (gr_trans g1 g2)
  have HE := hid (show W2 = (w.alloc (.cells #[.int .i64 x.kind, .int .u16 x.wait, .bool x.act, .bool x.own, .int .u32 (x.tag : Int), .int .u32 (x.tsn : Int), .int .i64 x.path, .int .u8 (x.c.k.toNat : Int), .int .u8 (x.c.f.toNat : Int), .slice pb nb cb, .int .u32 (x.ptag : Int), .slice pc nc cc] 64 (0, 0))).alloc (.cells #[.int .i64 x.kind, .int .u16 x.wait, .bool x.act, .bool x.own, .int .u32 (x.tag : Int), .int .u32 (x.tsn : Int), .int .i64 x.path, .int .u8 (x.c.k.toNat : Int), .int .u8 (x.c.f.toNat : Int), .slice pb nb cb, .int .u32 (x.ptag : Int), .slice pc nc cc] 64 (0, 0)) by rw [hW2, hW1])
  have d0 := HO1.out.at 0 (by simp)
  have d1 := HO1.out.at 1 (by simp)
  have d2 := HO1.out.at 2 (by simp)
  have d3 := HO1.out.at 3 (by simp)
  have d4 := HO1.out.at 4 (by simp)
  have d5 := HO1.out.at 5 (by simp)
  have d6 := HO1.out.at 6 (by simp)
  have d7 := HO1.out.at 7 (by simp)
  have d8 := HO1.out.at 8 (by simp)
  have d9 := HO1.out.at 9 (by simp)
  have d10 := HO1.out.at 10 (by simp)
  have d11 := HO1.out.at 11 (by simp)
  simp only [List.getElem_cons_succ, List.getElem_cons_zero] at d0 d1 d2 d3 d4 d5 d6 d7 d8 d9 d10 d11
  rw [hW1] at d0 d1 d2 d3 d4 d5 d6 d7 d8 d9 d10 d11
  clear hW1 hW2 hs1 g1 g2 HO1
  go_enter Tryd.func6, Tryd.ntmps6
  go_wp2_with fail
  rw [← HE.out]
  clear d0 d1 d2 d3 d4 d5 d6 d7 d8 d9 d10 d11
  refine (vast_one W2 (w.heap.size + 1) pb pc nb cb nc cc (HO2.out.at 9 (by simp)) (HO2.out.at 11 (by simp))).mono ?_
  rintro e w3 ⟨⟨r, rfl⟩, hb3⟩
  have HG := hid (gr_trans HG.out hb3)
  have HOP := hid (HOP.out.mono hb3)
  clear hb3 HO2 HE
  cases r with
  | true =>
    go_wp2_with fail
    refine (works_any _ (HLAID.out.mono HG.out)).mono ?_
    rintro e w4 ⟨rfl, hb4⟩
    have HG := hid (gr_trans HG.out hb4)
    clear hb4
    go_wp2_with fail
    go_ret
    exact ⟨rfl, HG.out⟩
  | false =>
    go_wp2_with fail
    refine (nil_abort _).mono ?_
    rintro e w4 ⟨rfl, hb4⟩
    rw [show EvD.val .none = .agg #[.bool false, .bool false, .bool false, .int .u32 0, .int .u32 0, .int .u16 0, .int .u16 0, .int .u32 0, .slice none 0 0, .int .u32 0] from rfl]
    obtain ⟨eb, heb⟩ : ∃ y, y = w4.heap.size := ⟨_, rfl⟩
    obtain ⟨W5, hW5⟩ : ∃ W, W = w4.alloc (.cells #[.bool false, .bool false, .bool false, .int .u32 0, .int .u32 0, .int .u16 0, .int .u16 0, .int .u32 0, .slice none 0 0, .int .u32 0] 33 (0, 0)) := ⟨_, rfl⟩
    have g5 : Below w4.heap.size w4 W5 := by rw [hW5]; exact (Below.refl _ _).alloc (Nat.le_refl _) _
    have HEV := hid (show RowV W5 eb 33 [.bool false, .bool false, .bool false, .int .u32 0, .int .u32 0, .int .u16 0, .int .u16 0, .int .u32 0, .slice none 0 0, .int .u32 0] by rw [hW5, heb]; exact RowV.new w4 _ _)
    have HG := hid (gr_trans (gr_trans HG.out hb4) g5)
    have HOP := hid ((HOP.out.mono hb4).mono g5)
    have HE5 := hid hW5
    have HEB := hid heb
    clear hb4 g5 hW5 heb
    go_wp2_with fail
    rw [← HE5.out, ← HEB.out]
    refine (nil_drained _).mono ?_
    rintro e w6 ⟨rfl, rfl⟩
    go_wp2_with fail
    refine (nil_heard _).mono ?_
    rintro e w6 ⟨rfl, rfl⟩
    go_wp2_with fail
    refine (nil_tags _).mono ?_
    rintro e w6 ⟨rfl, rfl⟩
    go_wp2_with fail
    refine (nil_when _).mono ?_
    rintro e w6 ⟨rfl, rfl⟩
    have O2 := HOP.out.at 2 (by simp)
    have O4 := HOP.out.at 4 (by simp)
    have O5 := HOP.out.at 5 (by simp)
    simp only [List.getElem_cons_succ, List.getElem_cons_zero] at O2 O4 O5
    go_wp2_with fail
    refine (nil_open _ x.act (x.tag : Int) (x.tsn : Int)).mono ?_
    rintro e w6 ⟨rfl, rfl⟩
    have EV1 := HEV.out.at 1 (by simp)
    simp only [List.getElem_cons_succ, List.getElem_cons_zero] at EV1
    clear O2 O4 O5
    go_wp2_with fail
    refine (nil_shutdown _).mono ?_
    rintro e w6 ⟨rfl, rfl⟩
    have O7 := HOP.out.at 7 (by simp)
    have O8 := HOP.out.at 8 (by simp)
    have O9 := HOP.out.at 9 (by simp)
    simp only [List.getElem_cons_succ, List.getElem_cons_zero] at O7 O8 O9
    go_wp2_with fail
    refine (nil_chunk _ (x.c.k.toNat : Int) (x.c.f.toNat : Int) pb nb cb).mono ?_
    rintro e w7 ⟨rfl, hb7⟩
    have HG := hid (gr_trans HG.out hb7)
    have HOP := hid (HOP.out.mono hb7)
    rw [show EvD.val .none = .agg #[.bool false, .bool false, .bool false, .int .u32 0, .int .u32 0, .int .u16 0, .int .u16 0, .int .u32 0, .slice none 0 0, .int .u32 0] from rfl]
    clear hb7 O7 O8 O9 EV1
    have fe0 := field_ev0 w7
    go_wp2_with fail
    refine (nil_tick _).mono ?_
    rintro e w8 ⟨rfl, hb8⟩
    have HG := hid (gr_trans HG.out hb8)
    have HOP := hid (HOP.out.mono hb8)
    rw [show EvD.val .none = .agg #[.bool false, .bool false, .bool false, .int .u32 0, .int .u32 0, .int .u16 0, .int .u16 0, .int .u32 0, .slice none 0 0, .int .u32 0] from rfl]
    clear hb8 fe0
    have fe1 := field_ev1 w8
    have O10 := HOP.out.at 10 (by simp)
    have O11 := HOP.out.at 11 (by simp)
    simp only [List.getElem_cons_succ, List.getElem_cons_zero] at O10 O11
    go_wp2_with fail
    refine (nil_takes _ (x.ptag : Int) pc nc cc).mono ?_
    rintro e w9 ⟨rfl, hb9⟩
    have HG := hid (gr_trans HG.out hb9)
    clear hb9 O10 O11 fe1
    go_wp2_with fail
    refine (nil_state _).mono ?_
    rintro e w6 ⟨rfl, rfl⟩
    go_wp2_with fail
    refine (nil_out _).mono ?_
    rintro e w6 ⟨rfl, rfl⟩
    go_wp2_with fail
    refine (works_any _ (HLAID.out.mono HG.out)).mono ?_
    rintro e w10 ⟨rfl, hb10⟩
    have HG := hid (gr_trans HG.out hb10)
    clear hb10
    go_wp2_with fail
    go_ret
    exact ⟨rfl, HG.out⟩
end Go.Proofs.YtiimlanbbfhkjaaDoor

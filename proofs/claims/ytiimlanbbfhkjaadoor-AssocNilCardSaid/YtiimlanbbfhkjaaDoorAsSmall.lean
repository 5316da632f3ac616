/- The association's small functions: the clock, a chunk without a value, who answers, its state and tags. Conditions: what comes in is an association. -/
import Derived.Test.YtiimlanbbfhkjaaDoorAsBase
set_option linter.unusedSimpArgs false
set_option linter.unusedVariables false


namespace Go.FL

open Go.RowKit

theorem rowAs {w : World} {g e : Nat} {v0 v1 v2 v3 v4 v5 v6 v7 v8 v9 v10 v11 v12 v13 v14 v15 v16 v17 v18 v19 v20 v21 v22 v23 v24 v25 v26 v27 v28 v29 v30 v31 v32 v33 v34 : Value} (h : RowV w g e [v0, v1, v2, v3, v4, v5, v6, v7, v8, v9, v10, v11, v12, v13, v14, v15, v16, v17, v18, v19, v20, v21, v22, v23, v24, v25, v26, v27, v28, v29, v30, v31, v32, v33, v34]) : w.cell? ⟨g, 0, none⟩ = some v0 ∧ w.cell? ⟨g, 1, none⟩ = some v1 ∧ w.cell? ⟨g, 2, none⟩ = some v2 ∧ w.cell? ⟨g, 3, none⟩ = some v3 ∧ w.cell? ⟨g, 4, none⟩ = some v4 ∧ w.cell? ⟨g, 5, none⟩ = some v5 ∧ w.cell? ⟨g, 6, none⟩ = some v6 ∧ w.cell? ⟨g, 7, none⟩ = some v7 ∧ w.cell? ⟨g, 8, none⟩ = some v8 ∧ w.cell? ⟨g, 9, none⟩ = some v9 ∧ w.cell? ⟨g, 10, none⟩ = some v10 ∧ w.cell? ⟨g, 11, none⟩ = some v11 ∧ w.cell? ⟨g, 12, none⟩ = some v12 ∧ w.cell? ⟨g, 13, none⟩ = some v13 ∧ w.cell? ⟨g, 14, none⟩ = some v14 ∧ w.cell? ⟨g, 15, none⟩ = some v15 ∧ w.cell? ⟨g, 16, none⟩ = some v16 ∧ w.cell? ⟨g, 17, none⟩ = some v17 ∧ w.cell? ⟨g, 18, none⟩ = some v18 ∧ w.cell? ⟨g, 19, none⟩ = some v19 ∧ w.cell? ⟨g, 20, none⟩ = some v20 ∧ w.cell? ⟨g, 21, none⟩ = some v21 ∧ w.cell? ⟨g, 22, none⟩ = some v22 ∧ w.cell? ⟨g, 23, none⟩ = some v23 ∧ w.cell? ⟨g, 24, none⟩ = some v24 ∧ w.cell? ⟨g, 25, none⟩ = some v25 ∧ w.cell? ⟨g, 26, none⟩ = some v26 ∧ w.cell? ⟨g, 27, none⟩ = some v27 ∧ w.cell? ⟨g, 28, none⟩ = some v28 ∧ w.cell? ⟨g, 29, none⟩ = some v29 ∧ w.cell? ⟨g, 30, none⟩ = some v30 ∧ w.cell? ⟨g, 31, none⟩ = some v31 ∧ w.cell? ⟨g, 32, none⟩ = some v32 ∧ w.cell? ⟨g, 33, none⟩ = some v33 ∧ w.cell? ⟨g, 34, none⟩ = some v34 ∧ True :=
  ⟨h.at 0 (by simp), h.at 1 (by simp), h.at 2 (by simp), h.at 3 (by simp), h.at 4 (by simp), h.at 5 (by simp), h.at 6 (by simp), h.at 7 (by simp), h.at 8 (by simp), h.at 9 (by simp), h.at 10 (by simp), h.at 11 (by simp), h.at 12 (by simp), h.at 13 (by simp), h.at 14 (by simp), h.at 15 (by simp), h.at 16 (by simp), h.at 17 (by simp), h.at 18 (by simp), h.at 19 (by simp), h.at 20 (by simp), h.at 21 (by simp), h.at 22 (by simp), h.at 23 (by simp), h.at 24 (by simp), h.at 25 (by simp), h.at 26 (by simp), h.at 27 (by simp), h.at 28 (by simp), h.at 29 (by simp), h.at 30 (by simp), h.at 31 (by simp), h.at 32 (by simp), h.at 33 (by simp), h.at 34 (by simp), trivial⟩
def whoF (k : UInt8) : Nat := if k = 1 then 50 else if k = 2 then 51 else if k = 10 then 52 else if k = 11 then 53 else if k = 9 then 54 else if k = 6 then 55 else if k = 7 then 56 else if k = 8 then 57 else if k = 14 then 58 else 59
/-- Which of two events is kept. -/
def noteE (a b : EvD) : EvD := if b.began || b.ended then b else a
end Go.FL

namespace Go.Proofs.YtiimlanbbfhkjaaDoor

open Go.RowKit Go.FL Go.ChangeShapes

/-- An association of this program. -/
abbrev As (B : Nat) (w : World) (g : Nat) (vr : Value) (a : AsD) : Prop := AsAt 77 59 5 B w g vr a
abbrev DidA (B : Nat) (w : World) (g : Nat) (vr : Value) (a' : AsD) (w' : World) : Prop := Did 77 59 5 B w g vr a' w'
theorem As.noB {B : Nat} {w : World} {g : Nat} {vr : Value} {a : AsD} (h : As B w g vr a) : NoBytes 5 (Mine g vr) w := h.noBytes (by decide) (by decide)

theorem clock_any (now : Int) (h : 0 ≤ now ∧ now ≤ 2305843009213693952) (w : World) : Calls Tryd.prog 35 #[.int .i64 now] w fun e w' => e = .returned (.int .i64 now) ∧ w = w' := by
  obtain ⟨h0, h1⟩ := h
  by_cases hz : now = 0
  · subst hz
    go_enter Tryd.func35, Tryd.ntmps35
    go_wp2_with fail
    go_ret
    exact ⟨rfl, rfl⟩
  · have h2 : ¬ (2305843009213693952 : Int) < now := by omega
    have h3 : (0 : Int) < now := by omega
    have h4 : ¬ now ≤ 0 := by omega
    go_enter Tryd.func35, Tryd.ntmps35
    go_wp2_with fail
    go_ret
    exact ⟨rfl, rfl⟩
theorem plain_ret {a : Act} {W : World} {g : Nat} {R : Ending → World → Prop} (v0 v1 v2 : Value) (h2 : a.tmps.getD 2 undef = .pointer (some ⟨g, 0, none⟩)) (hd : a.defers = [])
    (hc : RowV W g 47 [v0, v1, v2]) (hR : R (.returned (.agg #[v0, v1, v2])) W) : bodyPost Tryd.prog Tryd.f39 R .ret a W := by
  refine bodyPost_ret (v := .agg #[v0, v1, v2]) ?_ hd hR
  have c0 := hc.at 0 (by simp)
  have c1 := hc.at 1 (by simp)
  have c2 := hc.at 2 (by simp)
  simp only [List.getElem_cons_succ, List.getElem_cons_zero] at c0 c1 c2
  simp only [Array.getD_eq_getD_getElem?] at h2
  simp [results, Tryd.results39, go_sem, h2, asAddr, c0, c1, c2]
theorem note_ret {a : Act} {W : World} {g : Nat} {R : Ending → World → Prop} (v0 v1 v2 v3 v4 v5 v6 v7 v8 v9 : Value) (h2 : a.tmps.getD 4 undef = .pointer (some ⟨g, 0, none⟩)) (hd : a.defers = [])
    (hc : RowV W g 33 [v0, v1, v2, v3, v4, v5, v6, v7, v8, v9]) (hR : R (.returned (.agg #[v0, v1, v2, v3, v4, v5, v6, v7, v8, v9])) W) : bodyPost Tryd.prog Tryd.f29 R .ret a W := by
  refine bodyPost_ret (v := .agg #[v0, v1, v2, v3, v4, v5, v6, v7, v8, v9]) ?_ hd hR
  have c0 := hc.at 0 (by simp)
  have c1 := hc.at 1 (by simp)
  have c2 := hc.at 2 (by simp)
  have c3 := hc.at 3 (by simp)
  have c4 := hc.at 4 (by simp)
  have c5 := hc.at 5 (by simp)
  have c6 := hc.at 6 (by simp)
  have c7 := hc.at 7 (by simp)
  have c8 := hc.at 8 (by simp)
  have c9 := hc.at 9 (by simp)
  simp only [List.getElem_cons_succ, List.getElem_cons_zero] at c0 c1 c2 c3 c4 c5 c6 c7 c8 c9
  simp only [Array.getD_eq_getD_getElem?] at h2
  simp [results, Tryd.results29, go_sem, h2, asAddr, c0, c1, c2, c3, c4, c5, c6, c7, c8, c9]
theorem plain_any (k : UInt8) (w : World) : Calls Tryd.prog 39 #[.int .u8 (k.toNat : Int)] w fun e w' => e = .returned (.agg #[.int .u8 (k.toNat : Int), .int .u8 0, .slice none 0 0]) ∧ Below w.heap.size w w' := by
  have hkb := byte_lt k
  go_enter Tryd.func39, Tryd.ntmps39
  go_wp2_with fail
  exact plain_ret (.int .u8 (k.toNat : Int)) (.int .u8 0) (.slice none 0 0) rfl rfl (RowV.new w _ _) ⟨rfl, (Below.refl _ _).alloc (Nat.le_refl _) _⟩
theorem who_any (k : UInt8) (w : World) : Calls Tryd.prog 40 #[.int .u8 (k.toNat : Int)] w fun e w' => e = .returned (.func (.func (whoF k)) #[] #[]) ∧ w = w' := by
  have hkb := byte_lt k
  by_cases e0 : k = 1
  · have h0 : ((k.toNat : Int) == 1) = true := by rw [kind_eq k 1 1 rfl, decide_eq_true e0]
    have HK := hid (show whoF k = 50 by rw [e0]; rfl)
    clear e0
    go_enter Tryd.func40, Tryd.ntmps40
    go_wp2_with fail
    go_ret
    exact ⟨by rw [HK.out]; rfl, rfl⟩
  · have h0 : ((k.toNat : Int) == 1) = false := by rw [kind_eq k 1 1 rfl, decide_eq_false e0]
    by_cases e1 : k = 2
    · have h1 : ((k.toNat : Int) == 2) = true := by rw [kind_eq k 2 2 rfl, decide_eq_true e1]
      have HK := hid (show whoF k = 51 by rw [e1]; rfl)
      clear e0 e1
      go_enter Tryd.func40, Tryd.ntmps40
      go_wp2_with fail
      go_ret
      exact ⟨by rw [HK.out]; rfl, rfl⟩
    · have h1 : ((k.toNat : Int) == 2) = false := by rw [kind_eq k 2 2 rfl, decide_eq_false e1]
      by_cases e2 : k = 10
      · have h2 : ((k.toNat : Int) == 10) = true := by rw [kind_eq k 10 10 rfl, decide_eq_true e2]
        have HK := hid (show whoF k = 52 by rw [e2]; rfl)
        clear e0 e1 e2
        go_enter Tryd.func40, Tryd.ntmps40
        go_wp2_with fail
        go_ret
        exact ⟨by rw [HK.out]; rfl, rfl⟩
      · have h2 : ((k.toNat : Int) == 10) = false := by rw [kind_eq k 10 10 rfl, decide_eq_false e2]
        by_cases e3 : k = 11
        · have h3 : ((k.toNat : Int) == 11) = true := by rw [kind_eq k 11 11 rfl, decide_eq_true e3]
          have HK := hid (show whoF k = 53 by rw [e3]; rfl)
          clear e0 e1 e2 e3
          go_enter Tryd.func40, Tryd.ntmps40
          go_wp2_with fail
          go_ret
          exact ⟨by rw [HK.out]; rfl, rfl⟩
        · have h3 : ((k.toNat : Int) == 11) = false := by rw [kind_eq k 11 11 rfl, decide_eq_false e3]
          by_cases e4 : k = 9
          · have h4 : ((k.toNat : Int) == 9) = true := by rw [kind_eq k 9 9 rfl, decide_eq_true e4]
            have HK := hid (show whoF k = 54 by rw [e4]; rfl)
            clear e0 e1 e2 e3 e4
            go_enter Tryd.func40, Tryd.ntmps40
            go_wp2_with fail
            go_ret
            exact ⟨by rw [HK.out]; rfl, rfl⟩
          · have h4 : ((k.toNat : Int) == 9) = false := by rw [kind_eq k 9 9 rfl, decide_eq_false e4]
            by_cases e5 : k = 6
            · have h5 : ((k.toNat : Int) == 6) = true := by rw [kind_eq k 6 6 rfl, decide_eq_true e5]
              have HK := hid (show whoF k = 55 by rw [e5]; rfl)
              clear e0 e1 e2 e3 e4 e5
              go_enter Tryd.func40, Tryd.ntmps40
              go_wp2_with fail
              go_ret
              exact ⟨by rw [HK.out]; rfl, rfl⟩
            · have h5 : ((k.toNat : Int) == 6) = false := by rw [kind_eq k 6 6 rfl, decide_eq_false e5]
              by_cases e6 : k = 7
              · have h6 : ((k.toNat : Int) == 7) = true := by rw [kind_eq k 7 7 rfl, decide_eq_true e6]
                have HK := hid (show whoF k = 56 by rw [e6]; rfl)
                clear e0 e1 e2 e3 e4 e5 e6
                go_enter Tryd.func40, Tryd.ntmps40
                go_wp2_with fail
                go_ret
                exact ⟨by rw [HK.out]; rfl, rfl⟩
              · have h6 : ((k.toNat : Int) == 7) = false := by rw [kind_eq k 7 7 rfl, decide_eq_false e6]
                by_cases e7 : k = 8
                · have h7 : ((k.toNat : Int) == 8) = true := by rw [kind_eq k 8 8 rfl, decide_eq_true e7]
                  have HK := hid (show whoF k = 57 by rw [e7]; rfl)
                  clear e0 e1 e2 e3 e4 e5 e6 e7
                  go_enter Tryd.func40, Tryd.ntmps40
                  go_wp2_with fail
                  go_ret
                  exact ⟨by rw [HK.out]; rfl, rfl⟩
                · have h7 : ((k.toNat : Int) == 8) = false := by rw [kind_eq k 8 8 rfl, decide_eq_false e7]
                  by_cases e8 : k = 14
                  · have h8 : ((k.toNat : Int) == 14) = true := by rw [kind_eq k 14 14 rfl, decide_eq_true e8]
                    have HK := hid (show whoF k = 58 by rw [e8]; rfl)
                    clear e0 e1 e2 e3 e4 e5 e6 e7 e8
                    go_enter Tryd.func40, Tryd.ntmps40
                    go_wp2_with fail
                    go_ret
                    exact ⟨by rw [HK.out]; rfl, rfl⟩
                  · have h8 : ((k.toNat : Int) == 14) = false := by rw [kind_eq k 14 14 rfl, decide_eq_false e8]
                    have HK := hid (show whoF k = 59 by unfold whoF; simp only [e0, e1, e2, e3, e4, e5, e6, e7, e8, if_false])
                    clear e0 e1 e2 e3 e4 e5 e6 e7 e8
                    go_enter Tryd.func40, Tryd.ntmps40
                    go_wp2_with fail
                    go_ret
                    exact ⟨by rw [HK.out]; rfl, rfl⟩

set_option maxRecDepth 20000 in
theorem note_any (a b : EvD) (w : World) : Calls Tryd.prog 29 #[a.val, b.val] w fun e w' => e = .returned (noteE a b).val ∧ Below w.heap.size w w' := by
  obtain ⟨a1, a2, a3, ⟨a4, a5, a6, a7, a8, -⟩, a9⟩ := a
  obtain ⟨b1, b2, b3, ⟨b4, b5, b6, b7, b8, -⟩, b9⟩ := b
  have hn : (noteE ⟨a1, a2, a3, ⟨a4, a5, a6, a7, a8, []⟩, a9⟩ ⟨b1, b2, b3, ⟨b4, b5, b6, b7, b8, []⟩, b9⟩) = (noteE ⟨a1, a2, a3, ⟨a4, a5, a6, a7, a8, []⟩, a9⟩ ⟨b1, b2, b3, ⟨b4, b5, b6, b7, b8, []⟩, b9⟩) := rfl
  clear hn
  cases b1 <;> cases b2
  · unfold EvD.val
    simp only
    obtain ⟨W2, hW2⟩ : ∃ W, W = ((w.alloc (.cells #[.bool a1, .bool a2, .bool a3, .int .u32 (a4 : Int), .int .u32 (a5 : Int), .int .u16 (a6 : Int), .int .u16 (a7 : Int), .int .u32 (a8 : Int), .slice none 0 0, .int .u32 (a9 : Int)] 33 (0, 0))).alloc (.cells #[.bool false, .bool false, .bool b3, .int .u32 (b4 : Int), .int .u32 (b5 : Int), .int .u16 (b6 : Int), .int .u16 (b7 : Int), .int .u32 (b8 : Int), .slice none 0 0, .int .u32 (b9 : Int)] 33 (0, 0))) := ⟨_, rfl⟩
    have hs2 : W2.heap.size = w.heap.size + 2 := by rw [hW2]; simp
    have HQ := hid (show RowV (W2.alloc (.cells #[.bool a1, .bool a2, .bool a3, .int .u32 (a4 : Int), .int .u32 (a5 : Int), .int .u16 (a6 : Int), .int .u16 (a7 : Int), .int .u32 (a8 : Int), .slice none 0 0, .int .u32 (a9 : Int)] 33 (0, 0))) (w.heap.size + 2) 33 [.bool a1, .bool a2, .bool a3, .int .u32 (a4 : Int), .int .u32 (a5 : Int), .int .u16 (a6 : Int), .int .u16 (a7 : Int), .int .u32 (a8 : Int), .slice none 0 0, .int .u32 (a9 : Int)] by rw [← hs2]; exact RowV.new W2 _ _)
    have G := hid (show Below w.heap.size w (W2.alloc (.cells #[.bool a1, .bool a2, .bool a3, .int .u32 (a4 : Int), .int .u32 (a5 : Int), .int .u16 (a6 : Int), .int .u16 (a7 : Int), .int .u32 (a8 : Int), .slice none 0 0, .int .u32 (a9 : Int)] 33 (0, 0))) by rw [hW2]; exact (((Below.refl _ _).alloc (Nat.le_refl _) _).alloc (by simp) _).alloc (by simp; omega) _)
    rw [hW2] at HQ G
    clear hW2 hs2 W2
    go_enter Tryd.func29, Tryd.ntmps29
    go_wp2_with fail
    exact note_ret (.bool a1) (.bool a2) (.bool a3) (.int .u32 (a4 : Int)) (.int .u32 (a5 : Int)) (.int .u16 (a6 : Int)) (.int .u16 (a7 : Int)) (.int .u32 (a8 : Int)) (.slice none 0 0) (.int .u32 (a9 : Int)) rfl rfl HQ.out ⟨rfl, G.out⟩
  · unfold EvD.val
    simp only
    obtain ⟨W2, hW2⟩ : ∃ W, W = ((w.alloc (.cells #[.bool a1, .bool a2, .bool a3, .int .u32 (a4 : Int), .int .u32 (a5 : Int), .int .u16 (a6 : Int), .int .u16 (a7 : Int), .int .u32 (a8 : Int), .slice none 0 0, .int .u32 (a9 : Int)] 33 (0, 0))).alloc (.cells #[.bool false, .bool true, .bool b3, .int .u32 (b4 : Int), .int .u32 (b5 : Int), .int .u16 (b6 : Int), .int .u16 (b7 : Int), .int .u32 (b8 : Int), .slice none 0 0, .int .u32 (b9 : Int)] 33 (0, 0))) := ⟨_, rfl⟩
    have hs2 : W2.heap.size = w.heap.size + 2 := by rw [hW2]; simp
    have HQ := hid (show RowV (W2.alloc (.cells #[.bool false, .bool true, .bool b3, .int .u32 (b4 : Int), .int .u32 (b5 : Int), .int .u16 (b6 : Int), .int .u16 (b7 : Int), .int .u32 (b8 : Int), .slice none 0 0, .int .u32 (b9 : Int)] 33 (0, 0))) (w.heap.size + 2) 33 [.bool false, .bool true, .bool b3, .int .u32 (b4 : Int), .int .u32 (b5 : Int), .int .u16 (b6 : Int), .int .u16 (b7 : Int), .int .u32 (b8 : Int), .slice none 0 0, .int .u32 (b9 : Int)] by rw [← hs2]; exact RowV.new W2 _ _)
    have G := hid (show Below w.heap.size w (W2.alloc (.cells #[.bool false, .bool true, .bool b3, .int .u32 (b4 : Int), .int .u32 (b5 : Int), .int .u16 (b6 : Int), .int .u16 (b7 : Int), .int .u32 (b8 : Int), .slice none 0 0, .int .u32 (b9 : Int)] 33 (0, 0))) by rw [hW2]; exact (((Below.refl _ _).alloc (Nat.le_refl _) _).alloc (by simp) _).alloc (by simp; omega) _)
    rw [hW2] at HQ G
    clear hW2 hs2 W2
    go_enter Tryd.func29, Tryd.ntmps29
    go_wp2_with fail
    exact note_ret (.bool false) (.bool true) (.bool b3) (.int .u32 (b4 : Int)) (.int .u32 (b5 : Int)) (.int .u16 (b6 : Int)) (.int .u16 (b7 : Int)) (.int .u32 (b8 : Int)) (.slice none 0 0) (.int .u32 (b9 : Int)) rfl rfl HQ.out ⟨rfl, G.out⟩
  · unfold EvD.val
    simp only
    obtain ⟨W2, hW2⟩ : ∃ W, W = ((w.alloc (.cells #[.bool a1, .bool a2, .bool a3, .int .u32 (a4 : Int), .int .u32 (a5 : Int), .int .u16 (a6 : Int), .int .u16 (a7 : Int), .int .u32 (a8 : Int), .slice none 0 0, .int .u32 (a9 : Int)] 33 (0, 0))).alloc (.cells #[.bool true, .bool false, .bool b3, .int .u32 (b4 : Int), .int .u32 (b5 : Int), .int .u16 (b6 : Int), .int .u16 (b7 : Int), .int .u32 (b8 : Int), .slice none 0 0, .int .u32 (b9 : Int)] 33 (0, 0))) := ⟨_, rfl⟩
    have hs2 : W2.heap.size = w.heap.size + 2 := by rw [hW2]; simp
    have HQ := hid (show RowV (W2.alloc (.cells #[.bool true, .bool false, .bool b3, .int .u32 (b4 : Int), .int .u32 (b5 : Int), .int .u16 (b6 : Int), .int .u16 (b7 : Int), .int .u32 (b8 : Int), .slice none 0 0, .int .u32 (b9 : Int)] 33 (0, 0))) (w.heap.size + 2) 33 [.bool true, .bool false, .bool b3, .int .u32 (b4 : Int), .int .u32 (b5 : Int), .int .u16 (b6 : Int), .int .u16 (b7 : Int), .int .u32 (b8 : Int), .slice none 0 0, .int .u32 (b9 : Int)] by rw [← hs2]; exact RowV.new W2 _ _)
    have G := hid (show Below w.heap.size w (W2.alloc (.cells #[.bool true, .bool false, .bool b3, .int .u32 (b4 : Int), .int .u32 (b5 : Int), .int .u16 (b6 : Int), .int .u16 (b7 : Int), .int .u32 (b8 : Int), .slice none 0 0, .int .u32 (b9 : Int)] 33 (0, 0))) by rw [hW2]; exact (((Below.refl _ _).alloc (Nat.le_refl _) _).alloc (by simp) _).alloc (by simp; omega) _)
    rw [hW2] at HQ G
    clear hW2 hs2 W2
    go_enter Tryd.func29, Tryd.ntmps29
    go_wp2_with fail
    exact note_ret (.bool true) (.bool false) (.bool b3) (.int .u32 (b4 : Int)) (.int .u32 (b5 : Int)) (.int .u16 (b6 : Int)) (.int .u16 (b7 : Int)) (.int .u32 (b8 : Int)) (.slice none 0 0) (.int .u32 (b9 : Int)) rfl rfl HQ.out ⟨rfl, G.out⟩
  · unfold EvD.val
    simp only
    obtain ⟨W2, hW2⟩ : ∃ W, W = ((w.alloc (.cells #[.bool a1, .bool a2, .bool a3, .int .u32 (a4 : Int), .int .u32 (a5 : Int), .int .u16 (a6 : Int), .int .u16 (a7 : Int), .int .u32 (a8 : Int), .slice none 0 0, .int .u32 (a9 : Int)] 33 (0, 0))).alloc (.cells #[.bool true, .bool true, .bool b3, .int .u32 (b4 : Int), .int .u32 (b5 : Int), .int .u16 (b6 : Int), .int .u16 (b7 : Int), .int .u32 (b8 : Int), .slice none 0 0, .int .u32 (b9 : Int)] 33 (0, 0))) := ⟨_, rfl⟩
    have hs2 : W2.heap.size = w.heap.size + 2 := by rw [hW2]; simp
    have HQ := hid (show RowV (W2.alloc (.cells #[.bool true, .bool true, .bool b3, .int .u32 (b4 : Int), .int .u32 (b5 : Int), .int .u16 (b6 : Int), .int .u16 (b7 : Int), .int .u32 (b8 : Int), .slice none 0 0, .int .u32 (b9 : Int)] 33 (0, 0))) (w.heap.size + 2) 33 [.bool true, .bool true, .bool b3, .int .u32 (b4 : Int), .int .u32 (b5 : Int), .int .u16 (b6 : Int), .int .u16 (b7 : Int), .int .u32 (b8 : Int), .slice none 0 0, .int .u32 (b9 : Int)] by rw [← hs2]; exact RowV.new W2 _ _)
    have G := hid (show Below w.heap.size w (W2.alloc (.cells #[.bool true, .bool true, .bool b3, .int .u32 (b4 : Int), .int .u32 (b5 : Int), .int .u16 (b6 : Int), .int .u16 (b7 : Int), .int .u32 (b8 : Int), .slice none 0 0, .int .u32 (b9 : Int)] 33 (0, 0))) by rw [hW2]; exact (((Below.refl _ _).alloc (Nat.le_refl _) _).alloc (by simp) _).alloc (by simp; omega) _)
    rw [hW2] at HQ G
    clear hW2 hs2 W2
    go_enter Tryd.func29, Tryd.ntmps29
    go_wp2_with fail
    exact note_ret (.bool true) (.bool true) (.bool b3) (.int .u32 (b4 : Int)) (.int .u32 (b5 : Int)) (.int .u16 (b6 : Int)) (.int .u16 (b7 : Int)) (.int .u32 (b8 : Int)) (.slice none 0 0) (.int .u32 (b9 : Int)) rfl rfl HQ.out ⟨rfl, G.out⟩
set_option maxRecDepth 20000 in
theorem state_any (B : Nat) (w : World) (g : Nat) (vr : Value) (a : AsD) (h : As B w g vr a) : Calls Tryd.prog 21 #[.pointer (some ⟨g, 0, none⟩)] w fun e w' => e = .returned (.int .u8 (a.st : Int)) ∧ w = w' := by
  obtain ⟨vk, vp, vs, hr, -⟩ := h
  obtain ⟨-, -, -, -, -, -, -, -, -, -, -, -, -, -, -, c15, -, -, -, -, -, -, -, -, -, -, -, -, -, -, -, -, -, -, -, -⟩ := rowAs hr
  clear hr
  go_enter Tryd.func21, Tryd.ntmps21
  go_wp2_with fail
  go_ret
  exact ⟨rfl, rfl⟩
set_option maxRecDepth 20000 in
theorem tags_any (B : Nat) (w : World) (g : Nat) (vr : Value) (a : AsD) (h : As B w g vr a) : Calls Tryd.prog 16 #[.pointer (some ⟨g, 0, none⟩)] w fun e w' => e = .returned (.tuple #[.int .u32 (a.tag : Int), .int .u32 (a.peer.tag : Int)]) ∧ ∃ n, w' = w.drewN n := by
  obtain ⟨vk, vp, vs, hr, -⟩ := h
  obtain ⟨-, -, -, -, -, -, -, -, -, -, -, -, -, -, -, -, c16, -, c18, -, -, -, -, -, -, -, -, -, -, -, -, -, -, -, -, -⟩ := rowAs hr
  clear hr
  go_enter Tryd.func16, Tryd.ntmps16
  go_wp2_with fail
  go_quiet (fail)
  go_wp2_with fail
  go_ret2
  exact ⟨rfl, _, rfl⟩
end Go.Proofs.YtiimlanbbfhkjaaDoor

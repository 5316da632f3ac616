/- right, New, Plain, pair: two ends are made. Conditions: the key is of 1 to 64 bytes. -/
import Derived.Test.YtiimlanbbfhkjaaDoorAsEcho
set_option linter.unusedSimpArgs false
set_option linter.unusedVariables false


namespace Go.FL

/-- One that is closed. -/
def newD (p t : Nat) (key : List UInt8) : AsD := ⟨p, t, key, 0, 0, 0, .zero, 0, 0, [], -1, ⟨0, 0, ⟨0, 0, []⟩⟩, 0, 0⟩
end Go.FL

namespace Go.Proofs.YtiimlanbbfhkjaaDoor

open Go.RowKit Go.FL Go.ChangeShapes

theorem within_yes (x l m : Int) (h1 : l ≤ x) (h2 : x ≤ m) (w : World) : Calls Tryd.prog 46 #[.int .i64 x, .int .i64 l, .int .i64 m] w fun e w' => e = .returned (.bool true) ∧ w = w' := by
  go_enter Tryd.func46, Tryd.ntmps46
  go_wp2_with fail
  go_ret
  exact ⟨rfl, rfl⟩
set_option maxRecDepth 100000 in
set_option maxHeartbeats 2000000 in
theorem asright_any (p t : Nat) (hp : 1 ≤ p ∧ p ≤ 4) (ht : 1 ≤ t ∧ t ≤ 40) (w : World) : Calls Tryd.prog 33 #[.agg #[.int .i64 (p : Int), .int .i64 128, .int .i64 2, .int .i64 65536, .int .i64 65536, .int .i64 1000, .int .i64 3, .int .i64 1, .int .i64 60, .int .i64 5, .int .i64 100, .int .i64 10, .int .i64 2, .int .i64 (t : Int)]] w fun e w' => e = .returned (.bool true) ∧ Below w.heap.size w w' := by
  have G0 := hid (show Below w.heap.size w (w.alloc (.cells #[.int .i64 (p : Int), .int .i64 128, .int .i64 2, .int .i64 65536, .int .i64 65536, .int .i64 1000, .int .i64 3, .int .i64 1, .int .i64 60, .int .i64 5, .int .i64 100, .int .i64 10, .int .i64 2, .int .i64 (t : Int)] 53 (0, 0))) from (Below.refl _ _).alloc (Nat.le_refl _) _)
  go_enter Tryd.func33, Tryd.ntmps33
  go_wp2_with fail
  refine (within_yes _ _ _ (by omega) (by omega) _).mono ?_
  rintro e w1 ⟨rfl, rfl⟩
  go_wp2_with fail
  refine (within_yes _ _ _ (by omega) (by omega) _).mono ?_
  rintro e w1 ⟨rfl, rfl⟩
  go_wp2_with fail
  refine (within_yes _ _ _ (by omega) (by omega) _).mono ?_
  rintro e w1 ⟨rfl, rfl⟩
  go_wp2_with fail
  refine (within_yes _ _ _ (by omega) (by omega) _).mono ?_
  rintro e w1 ⟨rfl, rfl⟩
  go_wp2_with fail
  refine (within_yes _ _ _ (by omega) (by omega) _).mono ?_
  rintro e w1 ⟨rfl, rfl⟩
  go_wp2_with fail
  refine (within_yes _ _ _ (by omega) (by omega) _).mono ?_
  rintro e w1 ⟨rfl, rfl⟩
  go_wp2_with fail
  go_ret
  exact ⟨rfl, G0.out⟩
set_option maxRecDepth 100000 in
set_option maxHeartbeats 2000000 in
theorem asnew_any (p t : Nat) (hp : 1 ≤ p ∧ p ≤ 4) (ht : 1 ≤ t ∧ t ≤ 40) (key : List UInt8) (v : Value) (w : World) (hv : Rd w v key) (hk : 1 ≤ key.length ∧ key.length ≤ 64) (B : Nat) (hB : B ≤ w.heap.size) :
    Calls Tryd.prog 18 #[.agg #[.int .i64 (p : Int), .int .i64 128, .int .i64 2, .int .i64 65536, .int .i64 65536, .int .i64 1000, .int .i64 3, .int .i64 1, .int .i64 60, .int .i64 5, .int .i64 100, .int .i64 10, .int .i64 2, .int .i64 (t : Int)], v] w fun e w' => ∃ g, e = .returned (.tuple #[.pointer (some ⟨g, 0, none⟩), .int .i64 0]) ∧ As B w' g (.slice none 0 0) (newD p t key) ∧ w.heap.size ≤ g ∧ Below w.heap.size w w' := by
  obtain ⟨pv, nv, cv, rfl, hnv⟩ : ∃ a n c, v = Value.slice a n c ∧ n = key.length := by
    obtain ⟨p9, c9, hsf, -⟩ := id hv
    exact ⟨_, _, _, hsf, rfl⟩
  have HP := hid hp
  have HT := hid ht
  have HV := hid hv
  have HKL := hid hk
  have HB := hid hB
  obtain ⟨W, hW⟩ : ∃ W, W = w.alloc (.cells #[.int .i64 (p : Int), .int .i64 128, .int .i64 2, .int .i64 65536, .int .i64 65536, .int .i64 1000, .int .i64 3, .int .i64 1, .int .i64 60, .int .i64 5, .int .i64 100, .int .i64 10, .int .i64 2, .int .i64 (t : Int)] 53 (0, 0)) := ⟨_, rfl⟩
  have HC := hid (show RowV W w.heap.size 53 [.int .i64 (p : Int), .int .i64 128, .int .i64 2, .int .i64 65536, .int .i64 65536, .int .i64 1000, .int .i64 3, .int .i64 1, .int .i64 60, .int .i64 5, .int .i64 100, .int .i64 10, .int .i64 2, .int .i64 (t : Int)] by rw [hW]; exact RowV.new w _ _)
  have G0 := hid (show Below w.heap.size w W by rw [hW]; exact (Below.refl _ _).alloc (Nat.le_refl _) _)
  have HE := hid hW
  have n1 : ¬ nv < 1 := by omega
  have n2 : ¬ 64 < nv := by omega
  have n3 : ¬ (nv : Int) < 1 := by omega
  have n4 : ¬ (64 : Int) < (nv : Int) := by omega
  clear hp ht hv hk hB hnv hW
  go_enter Tryd.func18, Tryd.ntmps18
  go_wp2_with fail
  refine (asright_any p t HP.out HT.out _).mono ?_
  rw [← HE.out]
  rintro e w1 ⟨rfl, hb1⟩
  have HC1 := hid (HC.out.mono hb1)
  have HV1 := hid (HV.out.mono (gr_trans G0.out hb1))
  have G1 := hid (gr_trans G0.out hb1)
  clear hb1
  go_wp2_with fail
  refine wp_region_tail 3 [Is (.agg ([.int .i64 (p : Int), .int .i64 128, .int .i64 2, .int .i64 65536, .int .i64 65536, .int .i64 1000, .int .i64 3, .int .i64 1, .int .i64 60, .int .i64 5, .int .i64 100, .int .i64 10, .int .i64 2, .int .i64 (t : Int)]).toArray), Is (.slice pv nv cv), OwnF B 5 key] (by kernel_rfl) (by kernel_rfl) (by kernel_rfl) (by kernel_rfl) (by kernel_rfl) (by kernel_rfl) ?_ ?_ ?_
  · simp only [StabAll, Is.gr, RdF.gr, OwnF.gr, AnyF.gr, and_self]
  · try (rename_i Kk hKk; clear hKk Kk)
    simp only [List.take_succ_cons, List.take_zero, AllOps, List.map_cons, List.map_nil, depsOf, List.filterMap_cons, List.filterMap_nil, Region.binds, depFacts, guardF, reduceIte, List.getD_eq_getElem?_getD, List.getElem?_cons_succ, List.getElem?_cons_zero, Option.getD_some, factAt, and_true]
    refine ⟨?_, ?_, ?_⟩
    all_goals intro ρ wv hρ hR hd
    all_goals try simp only [Is] at hd
    · exact opOk_loadRow rfl (w.heap.size) (by first | exact hρ.2 _ rfl | simp [hd]) _ ([.int .i64 (p : Int), .int .i64 128, .int .i64 2, .int .i64 65536, .int .i64 65536, .int .i64 1000, .int .i64 3, .int .i64 1, .int .i64 60, .int .i64 5, .int .i64 100, .int .i64 10, .int .i64 2, .int .i64 (t : Int)]) _ (HC1.out.mono hR) Tryd.underlying53 rfl (by kernel_rfl) ⟨rfl, GrR.refl _⟩
    · exact opOk_move (.inl rfl) ⟨by simp only [Is]; (first | exact hρ.2 1 rfl | exact hd | exact hd.1 | exact hd.2 | simp [hd]), GrR.refl _⟩
    · exact opOk_call hρ.1 rfl rfl Tryd.func34 (by kernel_rfl) rfl (by simp [hd, hρ.1.const, hρ.1.func]) ((clone_any _ key wv (HV1.out.mono hR) (by have := HKL.out; omega)).mono fun e w' ⟨v', h1, h2, h3⟩ => ⟨v', h1, h2.base (Nat.le_trans HB.out (gr_trans G1.out hR).size), h3⟩)
  · intro vals wv hR hall
    have i0 := hall 0 (by omega)
    have i2 := hall 2 (by omega)
    simp only [factAt, Is, OwnF, List.getD_eq_getElem?_getD, List.getElem?_cons_succ, List.getElem?_cons_zero, Option.getD_some] at i0 i2
    clear hall
    obtain ⟨vk9, hvc⟩ : ∃ v, vals 2 = v := ⟨_, rfl⟩
    rw [hvc] at i2
    obtain ⟨pk, nk, ck, rfl⟩ : ∃ p n c, vk9 = Value.slice p n c := by
      obtain ⟨p9, c9, hsf, -⟩ := (Own.rd i2)
      exact ⟨_, _, _, hsf⟩
    simp only [List.take_succ_cons, List.take_zero, List.drop_succ_cons, List.drop_zero, fillFrom, Act.put, i0, hvc, List.setIfInBounds_toArray, List.set_cons_zero, List.set_cons_succ, Nat.zero_add, Nat.reduceAdd]
    obtain ⟨w2, hw2⟩ : ∃ x, x = wv := ⟨_, rfl⟩
    subst hw2
    have HO2 := hid i2
    have G2 := hid (gr_trans G1.out hR)
    obtain ⟨w3, hw3⟩ : ∃ x, x = w2.alloc (.cells #[.int .i64 (p : Int), .int .i64 128, .int .i64 2, .int .i64 65536, .int .i64 65536, .int .i64 1000, .int .i64 3, .int .i64 1, .int .i64 60, .int .i64 5, .int .i64 100, .int .i64 10, .int .i64 2, .int .i64 (t : Int), .slice pk nk ck, .int .u8 0, .int .u32 0, .int .u32 0, .int .u32 0, .int .u32 0, .int .u16 0, .int .u16 0, .int .u32 0, .slice none 0 0, .int .u32 0, .int .u32 0, .slice none 0 0, .int .i64 (-1), .int .i64 0, .int .u32 0, .int .u8 0, .int .u8 0, .slice none 0 0, .int .i64 0, .int .i64 0] 77 (0, 0)) := ⟨_, rfl⟩
    have g3 : Below w2.heap.size w2 w3 := by rw [hw3]; exact (Below.refl _ _).alloc (Nat.le_refl _) _
    have HR3 := hid (show RowV w3 w2.heap.size 77 [.int .i64 (p : Int), .int .i64 128, .int .i64 2, .int .i64 65536, .int .i64 65536, .int .i64 1000, .int .i64 3, .int .i64 1, .int .i64 60, .int .i64 5, .int .i64 100, .int .i64 10, .int .i64 2, .int .i64 (t : Int), .slice pk nk ck, .int .u8 0, .int .u32 0, .int .u32 0, .int .u32 0, .int .u32 0, .int .u16 0, .int .u16 0, .int .u32 0, .slice none 0 0, .int .u32 0, .int .u32 0, .slice none 0 0, .int .i64 (-1), .int .i64 0, .int .u32 0, .int .u8 0, .int .u8 0, .slice none 0 0, .int .i64 0, .int .i64 0] by rw [hw3]; exact RowV.new w2 _ _)
    have HO3 := hid (HO2.out.mono g3)
    have G3 := hid (gr_trans G2.out g3)
    have HE3 := hid hw3
    clear hw3 g3 hR i0 i2 hvc
    go_wp2_with fail
    rw [← HE3.out]
    go_ret2
    exact ⟨_, rfl, ⟨.slice pk nk ck, .slice none 0 0, .slice none 0 0, HR3.out, Nat.le_trans HB.out G2.out.size, HO3.out, Own.nil _ _ _, OutsAt.nil _ _ _ _, Own.nil _ _ _⟩, G2.out.size, G3.out⟩
end Go.Proofs.YtiimlanbbfhkjaaDoor

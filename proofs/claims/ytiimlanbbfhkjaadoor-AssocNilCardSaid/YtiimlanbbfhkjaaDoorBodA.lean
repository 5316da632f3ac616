/- Joined: BodSmall, BodPutData, SliEq, BodGetInit, BodGetData, BodPuts, BodGetCum, BodGetTime, BodGetters, BodGetD, BodPutInit, BodGetI. -/
import Derived.Test.YtiimlanbbfhkjaaDoorBaseD
import Derived.Test.YtiimlanbbfhkjaaDoorBaseB
import Derived.Test.YtiimlanbbfhkjaaDoorBaseC
import Derived.Test.YtiimlanbbfhkjaaDoorBaseE
import Derived.BigQuiet
import Derived.OpenShut
import Derived.Test.YtiimlanbbfhkjaaDoorBaseF
import Derived.Test.YtiimlanbbfhkjaaDoorRows
import Derived.Test.YtiimlanbbfhkjaaDoorBaseA
import Derived.Deep.Cut
set_option linter.unusedSimpArgs false
set_option linter.unusedVariables false










namespace Go.Proofs.YtiimlanbbfhkjaaDoor

open Go.RowKit Go.FL

set_option maxRecDepth 20000 in
set_option maxHeartbeats 1000000 in
theorem bput_any (v u : Value) (l : List UInt8) (n : Nat) (N : Int) (hN : N = (n : Int)) (hn8 : n = 1 ∨ n = 2 ∨ n = 4 ∨ n = 8) (xs : List Nat) (w : World) (h : Rd w v l) (k : RdV w u (xs.map fun x : Nat => Value.int .u64 (x : Int))) (hx : ∀ x ∈ xs, x < 18446744073709551616) (h0 : 0 < xs.length) (hn : xs.length ≤ 100) (hs : l.length ≤ 1000000000) :
    Calls Tryd.prog 49 #[v, .int .i64 N, u] w (RetOwn w 5 (l ++ catBE n xs)) := by
  subst hN
  have HV := hid h
  have H8 := hid hn8
  have hn8' : n ≤ 8 := by omega
  obtain ⟨p, c, rfl, hlc, hcm, hpn, hcell⟩ := h
  obtain ⟨q, cq, rfl, hlq, hcq, hqn, hcelq⟩ := k
  unfold maxLen at hcm hcq
  clear hcell hn8
  have hml : (xs.map fun x : Nat => Value.int .u64 (x : Int)).length = xs.length := by simp
  rw [hml] at hlq ⊢
  have HC := hid (show ∀ i (hi : i < xs.length), ∃ b off, q = some ⟨b, off, none⟩ ∧ w.cell? ⟨b, off + i, none⟩ = some (.int .u64 (xs[i] : Int)) from fun i hi => by
    obtain ⟨b, off, e, h⟩ := hcelq i (by omega)
    exact ⟨b, off, e, by simpa using h⟩)
  have HX := hid hx
  clear hcelq hx hml
  have hnj : ∀ j, j ≤ xs.length → n * j ≤ 800 := fun j hj => Nat.le_trans (Nat.mul_le_mul hn8' (Nat.le_trans hj hn)) (by omega)
  go_enter Tryd.func49, Tryd.ntmps49
  go_wp2_with fail
  go_loopw [0, 8, 11] (fun o _ y wr => ∃ (j : Nat) (z : Option Addr) (cc : Nat), j ≤ xs.length ∧ y = .int .i64 (j : Int) ∧ o = .slice z (l.length + n * j) cc ∧ Hid (Rd wr o (l ++ catBE n (xs.take j))) ∧ Hid (0 < j → Own wr w.heap.size 5 o (l ++ catBE n (xs.take j))) ∧ Hid (Below w.heap.size w wr)) (fun _ _ y _ => xs.length - (intOf y).toNat)
  case atStart => exact ⟨0, p, c, Nat.zero_le _, rfl, rfl, hid (by simpa [catBE] using HV.out), hid (fun h => by omega), hid (Below.refl _ _)⟩
  case round =>
    obtain ⟨j, z, cc, hj, rfl, rfl, HR, HO, HB⟩ := hrel
    by_cases hlt : j < xs.length
    · obtain ⟨b, off, rfl, hc⟩ := HC.out j hlt
      have hcw := cell?_of_below HB.out hc
      have hxb := HX.out _ (List.getElem_mem hlt)
      have HT := hid (show xs.take (j + 1) = xs.take j ++ [xs[j]] from List.take_succ_eq_append_getElem hlt)
      have HS := hid hs
      have HN := hid (hnj j hj)
      have HL2 := hid (show (l ++ catBE n (xs.take j)).length = l.length + n * j by rw [List.length_append, catBE_length, List.length_take, Nat.min_eq_left hj])
      generalize xs[j] = x at *
      clear hc
      go_wp2_with fail
      refine (put_at _ (l ++ catBE n (xs.take j)) x n _ _ rfl rfl H8.out _ HR.out (by have := HL2.out; have := HS.out; have := HN.out; omega) (by omega)).mono ?_
      rintro e w1 ⟨v1, rfl, ho1, hb1⟩
      rw [List.append_assoc, show catBE n (xs.take j) ++ beBytes n x = catBE n (xs.take (j + 1)) by rw [HT.out, catBE_append]; simp [catBE]] at ho1
      have hle := HB.out.size
      have HO1 := hid (ho1.base hle)
      have HB1 := hid (gr_trans HB.out hb1)
      obtain ⟨z1, c1, rfl, _⟩ := ho1.rd
      rw [show (l ++ catBE n (xs.take (j + 1))).length = l.length + n * (j + 1) by rw [List.length_append, catBE_length, List.length_take, Nat.min_eq_left (by omega)]] at *
      clear ho1 hb1 hle hcw
      go_wp2_with fail
      go_roundw
      case rel => exact ⟨j + 1, z1, c1, by omega, by go_num, rfl, hid HO1.out.rd, hid (fun _ => HO1.out), HB1⟩
      case measure => simp [intOf]; omega
    · obtain rfl : j = xs.length := by omega
      go_wp2_with fail
      go_ret
      have := HO.out h0
      rw [List.take_length] at this
      exact ⟨_, rfl, this, HB.out⟩

/-- The reader at block g: the body it reads, and its place. -/
def RdrAt (g : Nat) (s : Value) (a : Nat) (w : World) : Prop := RowV w g 119 [s, .int .i64 (a : Int)]

theorem get_tot (v : Value) (l : List UInt8) (a n : Nat) (A' N : Int) (hA : A' = (a : Int)) (hN : N = (n : Int)) (hn : n = 1 ∨ n = 2 ∨ n = 4 ∨ n = 8) (w : World) (h : Rd w v l) :
    Calls Tryd.prog 78 #[v, .int .i64 A', .int .i64 N] w fun e w' => e = .returned (.tuple #[.int .u64 (numAt l a n : Int), .int .i64 (if a + n ≤ l.length then 0 else 1)]) ∧ w = w' := by
  refine (get_at v l a n A' N hA hN hn w h).mono ?_
  rintro e w' ⟨er, h1, h2, h3⟩
  subst h3
  exact ⟨h1, h2⟩

set_option maxRecDepth 20000 in
theorem btake_any (g : Nat) (s : Value) (l : List UInt8) (a n : Nat) (N : Int) (hN : N = (n : Int)) (hn : n = 1 ∨ n = 2 ∨ n = 4 ∨ n = 8) (w : World) (hr : RdrAt g s a w) (hs : Rd w s l) (ha : a ≤ 1000000000) :
    Calls Tryd.prog 73 #[.pointer (some ⟨g, 0, none⟩), .int .i64 N] w fun e w' => e = .returned (.int .u64 (numAt l a n : Int)) ∧ RdrAt g s (a + n) w' ∧ w.grownBy w' (some g) := by
  subst hN
  have HR := hid hr
  have HS := hid hs
  have HN := hid hn
  obtain ⟨p, c, rfl, hlc, hcm, hpn, hcell⟩ := hs
  unfold maxLen at hcm
  clear hcell
  have c0 : w.cell? ⟨g, 0, none⟩ = some (.slice p l.length c) := hr.at 0 (by simp)
  have c1 : w.cell? ⟨g, 1, none⟩ = some (.int .i64 (a : Int)) := hr.at 1 (by simp)
  have f1 := hr.frozen 1
  have hn8 : n ≤ 8 := by omega
  clear hr hn
  go_enter Tryd.func73, Tryd.ntmps73
  go_wp2_with fail
  refine wp_region_gr [Is (.pointer (some ⟨g, 0, none⟩)), Is (.pointer (some ⟨g, 0, none⟩)), Is (.pointer (some ⟨g, 0, none⟩)), Is (.slice p l.length c), Is (.pointer (some ⟨g, 0, none⟩)), Is (.pointer (some ⟨g, 0, none⟩)), Is (.pointer (some ⟨g, 1, none⟩)), Is (.int .i64 (a : Int)), Is (.int .i64 (n : Int)), Is (.tuple #[.int .u64 (numAt l a n : Int), .int .i64 (if a + n ≤ l.length then 0 else 1)]), Is (.tuple #[.int .u64 (numAt l a n : Int), .int .i64 (if a + n ≤ l.length then 0 else 1)]), Is (.int .u64 (numAt l a n : Int)), Is (.int .i64 (if a + n ≤ l.length then 0 else 1)), Is (.int .u64 (numAt l a n : Int)), Is (.int .i64 (if a + n ≤ l.length then 0 else 1))] (by kernel_rfl) (by kernel_rfl) (by kernel_rfl) ?_ ?_ ?_
  · simp only [StabAll, Is.gr, RdF.gr, OwnF.gr, AnyF.gr, and_self]
  · rename_i Kk hKk; clear hKk Kk
    simp only [AllOps, List.map_cons, List.map_nil, depsOf, List.filterMap_cons, List.filterMap_nil, Region.binds, depFacts, guardF, reduceIte, List.getD_eq_getElem?_getD, List.getElem?_cons_succ, List.getElem?_cons_zero, Option.getD_some, factAt, and_true]
    refine ⟨?_, ?_, ?_, ?_, ?_, ?_, ?_, ?_, ?_, ?_, ?_, ?_, ?_, ?_, ?_⟩
    all_goals intro ρ wv hρ hR hd
    all_goals try simp only [Is] at hd
    · exact opOk_move (.inl rfl) ⟨by simp only [Is]; (first | exact hρ.2 0 rfl | exact hd | exact hd.1 | exact hd.2 | simp [hd]), GrR.refl _⟩
    · exact opOk_val (v := .pointer (some ⟨g, 0, none⟩)) (w' := wv) (by simp [execOp, go_sem, hρ.1.const, hρ.1.func, hd]) ⟨rfl, GrR.refl _⟩
    · exact opOk_val (v := .pointer (some ⟨g, 0, none⟩)) (w' := wv) (by simp [execOp, go_sem, hρ.1.const, hρ.1.func, hd]) ⟨rfl, GrR.refl _⟩
    · (have h0 := cell?_of_below hR c0; exact opOk_val (v := .slice p l.length c) (w' := wv) (by simp [execOp, go_sem, hd, h0]) ⟨rfl, GrR.refl _⟩)
    · exact opOk_move (.inl rfl) ⟨by simp only [Is]; (first | exact hρ.2 0 rfl | exact hd | exact hd.1 | exact hd.2 | simp [hd]), GrR.refl _⟩
    · exact opOk_val (v := .pointer (some ⟨g, 0, none⟩)) (w' := wv) (by simp [execOp, go_sem, hρ.1.const, hρ.1.func, hd]) ⟨rfl, GrR.refl _⟩
    · exact opOk_val (v := .pointer (some ⟨g, 1, none⟩)) (w' := wv) (by simp [execOp, go_sem, hρ.1.const, hρ.1.func, hd]) ⟨rfl, GrR.refl _⟩
    · (have h0 := cell?_of_below hR c1; exact opOk_val (v := .int .i64 (a : Int)) (w' := wv) (by simp [execOp, go_sem, hd, h0]) ⟨rfl, GrR.refl _⟩)
    · exact opOk_move (.inl rfl) ⟨by simp only [Is]; (first | exact hρ.2 1 rfl | exact hd | exact hd.1 | exact hd.2 | simp [hd]), GrR.refl _⟩
    · exact opOk_call hρ.1 rfl rfl Tryd.func78 (by kernel_rfl) rfl (by simp [hd, hρ.1.const]) ((get_tot _ l a n _ _ rfl rfl HN.out _ (HS.out.mono hR)).mono fun e w' ⟨h1, h2⟩ => ⟨_, h1, rfl, h2 ▸ GrR.refl _⟩)
    · exact opOk_move (.inl rfl) ⟨by simp only [Is]; (first | exact hρ.2 17 rfl | exact hd | exact hd.1 | exact hd.2 | simp [hd]), GrR.refl _⟩
    · exact opOk_val (v := .int .u64 (numAt l a n : Int)) (w' := wv) (by simp [execOp, go_sem, hρ.1.const, hρ.1.func, hd]) ⟨rfl, GrR.refl _⟩
    · exact opOk_val (v := .int .i64 (if a + n ≤ l.length then 0 else 1)) (w' := wv) (by simp [execOp, go_sem, hρ.1.const, hρ.1.func, hd]) ⟨rfl, GrR.refl _⟩
    · exact opOk_move (.inr rfl) ⟨by simp only [Is]; (first | exact hρ.2 18 rfl | exact hd | exact hd.1 | exact hd.2 | simp [hd]), GrR.refl _⟩
    · exact opOk_move (.inr rfl) ⟨by simp only [Is]; (first | exact hρ.2 19 rfl | exact hd | exact hd.1 | exact hd.2 | simp [hd]), GrR.refl _⟩
  · intro vals wv hR hall
    have h13 := hall 13 (by simp)
    simp only [factAt, Is, List.getD_eq_getElem?_getD, List.getElem?_cons_succ, List.getElem?_cons_zero, Option.getD_some] at h13
    clear hall
    simp only [fillFrom, Act.put, h13, List.setIfInBounds_toArray, List.set_cons_zero, List.set_cons_succ]
    rename_i Kk hKk
    refine hKk _ _ ?_
    clear hKk Kk
    have HR1 := hid (HR.out.mono hR)
    have d1 := HR1.out.at 1 (by simp)
    have g1 := HR1.out.frozen 1
    simp only [List.getElem_cons_succ, List.getElem_cons_zero] at d1
    have GR := hid hR
    clear hR c0 c1 f1
    go_wp2_with fail
    go_ret
    refine ⟨rfl, ?_, gb_set (gb_of_gr GR.out _) 1 _⟩
    rw [show ((a : Int) + (n : Int)) = ((a + n : Nat) : Int) by omega]
    exact HR1.out.store 1 _

theorem cutAt_len (l : List UInt8) (a : Nat) (n : Int) : (cutAt l a n).length ≤ l.length := by
  unfold cutAt
  split
  · simp; omega
  · simp

set_option maxRecDepth 20000 in
set_option maxHeartbeats 1000000 in
theorem brest_any (g : Nat) (s : Value) (l : List UInt8) (a : Nat) (n : Int) (hn : (Lit.int .i64 n).wf = true) (w : World) (hr : RdrAt g s a w) (hs : Rd w s l) (hl : l.length ≤ 1000000000) (ha : a ≤ 1000000000) :
    Calls Tryd.prog 74 #[.pointer (some ⟨g, 0, none⟩), .int .i64 n] w fun e w' => ∃ v', e = .returned v' ∧ Own w' w.heap.size 5 v' (cutAt l a n) ∧ RdrAt g s (a + (cutAt l a n).length) w' ∧ w.grownBy w' (some g) := by
  have hg : g < w.heap.size := hr.lt
  have HR := hid hr
  have HS := hid hs
  obtain ⟨p, c, rfl, hlc, hcm, hpn, hcell⟩ := hs
  unfold maxLen at hcm
  clear hcell
  have c0 : w.cell? ⟨g, 0, none⟩ = some (.slice p l.length c) := hr.at 0 (by simp)
  have c1 : w.cell? ⟨g, 1, none⟩ = some (.int .i64 (a : Int)) := hr.at 1 (by simp)
  clear hr
  have HLN := hid (cutAt_len l a n)
  by_cases hin : 0 ≤ n ∧ (a : Int) + n ≤ l.length
  · have HP := hid (show (l.drop a).take n.toNat = cutAt l a n by rw [cutAt, if_pos hin])
    obtain ⟨k, rfl⟩ : ∃ k : Nat, n = (k : Int) := ⟨n.toNat, by omega⟩
    rw [Int.toNat_natCast] at HP
    have hk : a + k ≤ l.length := by omega
    obtain ⟨m, hm⟩ : ∃ m, m = cutAt l a (k : Int) := ⟨_, rfl⟩
    rw [← hm] at HP HLN ⊢
    clear hm hin hn
    go_enter Tryd.func74, Tryd.ntmps74
    go_wp2_with fail
    refine wp_region_gr [Is (.pointer (some ⟨g, 0, none⟩)), Is (.pointer (some ⟨g, 0, none⟩)), Is (.pointer (some ⟨g, 0, none⟩)), Is (.slice p l.length c), Is (.pointer (some ⟨g, 0, none⟩)), Is (.pointer (some ⟨g, 0, none⟩)), Is (.pointer (some ⟨g, 1, none⟩)), Is (.int .i64 (a : Int)), Is (.int .i64 (k : Int)), TupF w.heap.size 5 m (.bool true), TupF w.heap.size 5 m (.bool true), OwnF w.heap.size 5 m, Is (.bool true), OwnF w.heap.size 5 m, Is (.bool true)] (by kernel_rfl) (by kernel_rfl) (by kernel_rfl) ?_ ?_ ?_
    · simp only [StabAll, Is.gr, RdF.gr, OwnF.gr, AnyF.gr, TupF.gr, and_self]
    · rename_i Kk hKk; clear hKk Kk
      simp only [AllOps, List.map_cons, List.map_nil, depsOf, List.filterMap_cons, List.filterMap_nil, Region.binds, depFacts, guardF, reduceIte, List.getD_eq_getElem?_getD, List.getElem?_cons_succ, List.getElem?_cons_zero, Option.getD_some, factAt, and_true]
      refine ⟨?_, ?_, ?_, ?_, ?_, ?_, ?_, ?_, ?_, ?_, ?_, ?_, ?_, ?_, ?_⟩
      all_goals intro ρ wv hρ hR hd
      all_goals try simp only [Is] at hd
      · exact opOk_move (.inl rfl) ⟨by simp only [Is]; (first | exact hρ.2 0 rfl | exact hd | exact hd.1 | exact hd.2 | simp [hd]), GrR.refl _⟩
      · exact opOk_val (v := .pointer (some ⟨g, 0, none⟩)) (w' := wv) (by simp [execOp, go_sem, hρ.1.const, hρ.1.func, hd]) ⟨rfl, GrR.refl _⟩
      · exact opOk_val (v := .pointer (some ⟨g, 0, none⟩)) (w' := wv) (by simp [execOp, go_sem, hρ.1.const, hρ.1.func, hd]) ⟨rfl, GrR.refl _⟩
      · (have h0 := cell?_of_below hR c0; exact opOk_val (v := .slice p l.length c) (w' := wv) (by simp [execOp, go_sem, hd, h0]) ⟨rfl, GrR.refl _⟩)
      · exact opOk_move (.inl rfl) ⟨by simp only [Is]; (first | exact hρ.2 0 rfl | exact hd | exact hd.1 | exact hd.2 | simp [hd]), GrR.refl _⟩
      · exact opOk_val (v := .pointer (some ⟨g, 0, none⟩)) (w' := wv) (by simp [execOp, go_sem, hρ.1.const, hρ.1.func, hd]) ⟨rfl, GrR.refl _⟩
      · exact opOk_val (v := .pointer (some ⟨g, 1, none⟩)) (w' := wv) (by simp [execOp, go_sem, hρ.1.const, hρ.1.func, hd]) ⟨rfl, GrR.refl _⟩
      · (have h0 := cell?_of_below hR c1; exact opOk_val (v := .int .i64 (a : Int)) (w' := wv) (by simp [execOp, go_sem, hd, h0]) ⟨rfl, GrR.refl _⟩)
      · exact opOk_move (.inl rfl) ⟨by simp only [Is]; (first | exact hρ.2 1 rfl | exact hd | exact hd.1 | exact hd.2 | simp [hd]), GrR.refl _⟩
      · exact opOk_call hρ.1 rfl rfl Tryd.func84 (by kernel_rfl) rfl (by simp [hd, hρ.1.const]) ((cut_at _ l a k _ _ rfl rfl _ (HS.out.mono hR) hk (by omega)).mono fun e w' ⟨v', h1, h2, h3⟩ => ⟨_, h1, ⟨v', rfl, by rw [HP.out] at h2; exact h2.base hR.size⟩, h3⟩)
      · exact opOk_move (.inl rfl) ⟨(by first | exact hd | exact hd.1), GrR.refl _⟩
      · (obtain ⟨z, hz, ho⟩ : TupF w.heap.size 5 m (.bool true) _ _ := (by first | exact hd | exact hd.1); exact opOk_val (v := z) (w' := wv) (by simp [execOp, go_sem, hz]) ⟨ho, GrR.refl _⟩)
      · (obtain ⟨z, hz, ho⟩ : TupF w.heap.size 5 m (.bool true) _ _ := (by first | exact hd | exact hd.1); exact opOk_val (v := .bool true) (w' := wv) (by simp [execOp, go_sem, hz]) ⟨rfl, GrR.refl _⟩)
      · exact opOk_move (.inr rfl) ⟨(by first | exact hd | exact hd.1), GrR.refl _⟩
      · exact opOk_move (.inr rfl) ⟨by simp only [Is]; (first | exact hρ.2 19 rfl | exact hd | exact hd.1 | exact hd.2 | simp [hd]), GrR.refl _⟩
    · intro vals wv hR hall
      have h13 := hall 13 (by simp)
      simp only [factAt, OwnF, List.getD_eq_getElem?_getD, List.getElem?_cons_succ, List.getElem?_cons_zero, Option.getD_some] at h13
      clear hall
      obtain ⟨z1, k1, hv1, -, -, -, -⟩ := h13.rd
      simp only [fillFrom, Act.put, hv1, List.setIfInBounds_toArray, List.set_cons_zero, List.set_cons_succ]
      rw [hv1] at h13
      have HO := hid h13
      rename_i Kk hKk
      refine hKk _ _ ?_
      clear hKk Kk hv1 h13
      have HR1 := hid (HR.out.mono hR)
      have d1 := HR1.out.at 1 (by simp)
      have g1 := HR1.out.frozen 1
      simp only [List.getElem_cons_succ, List.getElem_cons_zero] at d1
      have GR := hid hR
      clear hR c0 c1
      have := HLN.out
      go_wp2_with fail
      go_ret
      refine ⟨_, rfl, ?_, ?_, gb_set (gb_of_gr GR.out _) 1 _⟩
      · exact HO.out.keep (gb_set (gb_refl _ (some g)) 1 _) (fun k hk e => by have := HO.out.ge k hk; simp at e; omega)
      · rw [show ((a : Int) + (m.length : Int)) = ((a + m.length : Nat) : Int) by omega]
        exact HR1.out.store 1 _
  · have HP := hid (show cutAt l a n = [] by rw [cutAt, if_neg hin])
    have HW := hid (show withinB l.length (a : Int) n = false by simp [withinB]; omega)
    rw [HP.out]
    have hb := bounds_i64 hn
    clear hn hin
    go_enter Tryd.func74, Tryd.ntmps74
    go_wp2_with fail
    refine wp_region_gr [Is (.pointer (some ⟨g, 0, none⟩)), Is (.pointer (some ⟨g, 0, none⟩)), Is (.pointer (some ⟨g, 0, none⟩)), Is (.slice p l.length c), Is (.pointer (some ⟨g, 0, none⟩)), Is (.pointer (some ⟨g, 0, none⟩)), Is (.pointer (some ⟨g, 1, none⟩)), Is (.int .i64 (a : Int)), Is (.int .i64 n), Is (.tuple #[.slice none 0 0, .bool false]), Is (.tuple #[.slice none 0 0, .bool false]), Is (.slice none 0 0), Is (.bool false), Is (.slice none 0 0), Is (.bool false)] (by kernel_rfl) (by kernel_rfl) (by kernel_rfl) ?_ ?_ ?_
    · simp only [StabAll, Is.gr, RdF.gr, OwnF.gr, AnyF.gr, and_self]
    · rename_i Kk hKk; clear hKk Kk
      simp only [AllOps, List.map_cons, List.map_nil, depsOf, List.filterMap_cons, List.filterMap_nil, Region.binds, depFacts, guardF, reduceIte, List.getD_eq_getElem?_getD, List.getElem?_cons_succ, List.getElem?_cons_zero, Option.getD_some, factAt, and_true]
      refine ⟨?_, ?_, ?_, ?_, ?_, ?_, ?_, ?_, ?_, ?_, ?_, ?_, ?_, ?_, ?_⟩
      all_goals intro ρ wv hρ hR hd
      all_goals try simp only [Is] at hd
      · exact opOk_move (.inl rfl) ⟨by simp only [Is]; (first | exact hρ.2 0 rfl | exact hd | exact hd.1 | exact hd.2 | simp [hd]), GrR.refl _⟩
      · exact opOk_val (v := .pointer (some ⟨g, 0, none⟩)) (w' := wv) (by simp [execOp, go_sem, hρ.1.const, hρ.1.func, hd]) ⟨rfl, GrR.refl _⟩
      · exact opOk_val (v := .pointer (some ⟨g, 0, none⟩)) (w' := wv) (by simp [execOp, go_sem, hρ.1.const, hρ.1.func, hd]) ⟨rfl, GrR.refl _⟩
      · (have h0 := cell?_of_below hR c0; exact opOk_val (v := .slice p l.length c) (w' := wv) (by simp [execOp, go_sem, hd, h0]) ⟨rfl, GrR.refl _⟩)
      · exact opOk_move (.inl rfl) ⟨by simp only [Is]; (first | exact hρ.2 0 rfl | exact hd | exact hd.1 | exact hd.2 | simp [hd]), GrR.refl _⟩
      · exact opOk_val (v := .pointer (some ⟨g, 0, none⟩)) (w' := wv) (by simp [execOp, go_sem, hρ.1.const, hρ.1.func, hd]) ⟨rfl, GrR.refl _⟩
      · exact opOk_val (v := .pointer (some ⟨g, 1, none⟩)) (w' := wv) (by simp [execOp, go_sem, hρ.1.const, hρ.1.func, hd]) ⟨rfl, GrR.refl _⟩
      · (have h0 := cell?_of_below hR c1; exact opOk_val (v := .int .i64 (a : Int)) (w' := wv) (by simp [execOp, go_sem, hd, h0]) ⟨rfl, GrR.refl _⟩)
      · exact opOk_move (.inl rfl) ⟨by simp only [Is]; (first | exact hρ.2 1 rfl | exact hd | exact hd.1 | exact hd.2 | simp [hd]), GrR.refl _⟩
      · exact opOk_call hρ.1 rfl rfl Tryd.func84 (by kernel_rfl) rfl (by simp [hd, hρ.1.const]) ((cut_no _ l (a : Int) n _ (HS.out.mono hR) HW.out).mono fun e w' ⟨h1, h2⟩ => ⟨_, h1, rfl, h2 ▸ GrR.refl _⟩)
      · exact opOk_move (.inl rfl) ⟨by simp only [Is]; (first | exact hρ.2 17 rfl | exact hd | exact hd.1 | exact hd.2 | simp [hd]), GrR.refl _⟩
      · exact opOk_val (v := .slice none 0 0) (w' := wv) (by simp [execOp, go_sem, hρ.1.const, hρ.1.func, hd]) ⟨rfl, GrR.refl _⟩
      · exact opOk_val (v := .bool false) (w' := wv) (by simp [execOp, go_sem, hρ.1.const, hρ.1.func, hd]) ⟨rfl, GrR.refl _⟩
      · exact opOk_move (.inr rfl) ⟨by simp only [Is]; (first | exact hρ.2 18 rfl | exact hd | exact hd.1 | exact hd.2 | simp [hd]), GrR.refl _⟩
      · exact opOk_move (.inr rfl) ⟨by simp only [Is]; (first | exact hρ.2 19 rfl | exact hd | exact hd.1 | exact hd.2 | simp [hd]), GrR.refl _⟩
    · intro vals wv hR hall
      have h13 := hall 13 (by simp)
      simp only [factAt, Is, List.getD_eq_getElem?_getD, List.getElem?_cons_succ, List.getElem?_cons_zero, Option.getD_some] at h13
      clear hall
      simp only [fillFrom, Act.put, h13, List.setIfInBounds_toArray, List.set_cons_zero, List.set_cons_succ]
      rename_i Kk hKk
      refine hKk _ _ ?_
      clear hKk Kk
      have HR1 := hid (HR.out.mono hR)
      have d1 := HR1.out.at 1 (by simp)
      have g1 := HR1.out.frozen 1
      simp only [List.getElem_cons_succ, List.getElem_cons_zero] at d1
      have GR := hid hR
      clear hR c0 c1
      go_wp2_with fail
      go_ret
      refine ⟨_, rfl, Own.nil _ _ _, ?_, gb_set (gb_of_gr GR.out _) 1 _⟩
      exact HR1.out.store 1 (.int .i64 (a : Int))
end Go.Proofs.YtiimlanbbfhkjaaDoor





namespace Go.FL

open Go.RowKit

theorem RowV.three {w : World} {g e : Nat} {a b c : Value} (h : RowV w g e [a, b, c]) : w.cell? ⟨g, 0, none⟩ = some a ∧ w.cell? ⟨g, 1, none⟩ = some b ∧ w.cell? ⟨g, 2, none⟩ = some c :=
  ⟨h.at 0 (by simp), h.at 1 (by simp), h.at 2 (by simp)⟩
instance (a b : Chk) : Decidable (a = b) := decidable_of_iff (a.k = b.k ∧ a.f = b.f ∧ a.b = b.b) ⟨fun h => Chk.ext' h.1 h.2.1 h.2.2, fun h => by subst h; exact ⟨rfl, rfl, rfl⟩⟩
/-- A chunk that is returned, its body new memory. -/
def RetChk (w : World) (e : Nat) (c : Chk) (en : Ending) (w' : World) : Prop :=
  ∃ s, en = .returned (.agg #[.int .u8 (c.k.toNat : Int), .int .u8 (c.f.toNat : Int), s]) ∧ Own w' w.heap.size e s c.b ∧ Below w.heap.size w w'
/-- Data by value. -/
def DataAt (w : World) (v : Value) (d : DataD) : Prop := ∃ s, v = .agg #[.int .u32 (d.tsn : Int), .int .u16 (d.st : Int), .int .u16 (d.ssn : Int), .bool d.un, .bool d.fi, .bool d.la, s] ∧ Rd w s d.b
theorem DataAt.mono {w w' : World} {v : Value} {d : DataD} (h : DataAt w v d) (hb : Below w.heap.size w w') : DataAt w' v d := by
  obtain ⟨s, h1, h2⟩ := h
  exact ⟨s, h1, h2.mono hb⟩
theorem wrap64_nat (n : Nat) (h : n < 18446744073709551616) : IntKind.u64.wrap (n : Int) = (n : Int) := by
  rw [IntKind.wrap_u64]; omega
end Go.FL

namespace Go.Proofs.YtiimlanbbfhkjaaDoor

open Go.RowKit Go.FL Go.ChangeShapes

end Go.Proofs.YtiimlanbbfhkjaaDoor





namespace Go.FL

theorem take_eq_step (l m : List UInt8) (k : Nat) (hl : k < l.length) (hm : k < m.length) (h : l.take k = m.take k) (he : l[k] = m[k]) : l.take (k + 1) = m.take (k + 1) := by
  rw [List.take_succ_eq_append_getElem hl, List.take_succ_eq_append_getElem hm, h, he]
theorem byte_eq (a b : UInt8) : (a.toNat : Int) = (b.toNat : Int) ↔ a = b := by
  rw [← UInt8.toNat_inj]
  omega
end Go.FL

namespace Go.Proofs.YtiimlanbbfhkjaaDoor

open Go.RowKit Go.FL

set_option maxRecDepth 20000 in
set_option maxHeartbeats 1000000 in
theorem sliEq_any (v u : Value) (l m : List UInt8) (w : World) (h : Rd w v l) (k : Rd w u m) :
    Calls Tryd.prog 85 #[v, u] w fun e w' => e = .returned (.bool (decide (l = m))) ∧ Below w.heap.size w w' := by
  have HV := hid h
  have HU := hid k
  obtain ⟨p, c, rfl, hlc, hcm, hpn, hcell⟩ := h
  obtain ⟨q, cq, rfl, hlq, hcq, hqn, hcelq⟩ := k
  unfold maxLen at hcm hcq
  have HC := hid hcell
  have HQ := hid hcelq
  clear hcell hcelq
  by_cases hlen : l.length = m.length
  · have hnl : ((l.length : Int) != (m.length : Int)) = false := by simp; omega
    have HLEN := hid hlen
    clear hlen
    go_enter Tryd.func85, Tryd.ntmps85
    go_wp2_with fail
    go_loopw [5, 13] (fun o y wr => ∃ (j : Nat), j ≤ l.length ∧ y = .int .i64 (j : Int) ∧ l.take j = m.take j ∧ Hid (Below w.heap.size w wr)) (fun _ y _ => l.length - (intOf y).toNat)
    case atStart => exact ⟨0, Nat.zero_le _, rfl, by simp, hid (Below.refl _ _)⟩
    case round =>
      obtain ⟨j, hj, rfl, htk, HB⟩ := hrel
      by_cases hlt : j < l.length
      · have hlm : j < m.length := by have := HLEN.out; omega
        obtain ⟨b1, o1, rfl, e1⟩ := HC.out j hlt
        obtain ⟨b2, o2, rfl, e2⟩ := HQ.out j hlm
        have f1 := cell?_of_below HB.out e1
        have f2 := cell?_of_below HB.out e2
        have i0 : (0 : Int) ≤ (j : Int) := by omega
        have i1 : (j : Int) < (l.length : Int) := by omega
        have i2 : (j : Int) < (m.length : Int) := by omega
        have i3 : ((j : Int)).toNat = j := by omega
        have HST := hid (take_eq_step l m j hlt hlm htk)
        have HNE := hid (show l[j] ≠ m[j] → l ≠ m from fun hne h => hne (by subst h; rfl))
        generalize l[j] = x at *
        generalize m[j] = y at *
        clear e1 e2 htk
        by_cases hxy : x = y
        · subst hxy
          have hb : ((x.toNat : Int) != (x.toNat : Int)) = false := by simp
          have HS := hid (HST.out rfl)
          go_wp2_with fail
          go_quiet (fail)
          go_wp2_with fail
          go_roundw
          case rel => exact ⟨j + 1, by omega, by go_num, HS.out, hid (gr_trans HB.out (gr_drewN _ _))⟩
          case measure => simp [intOf]; omega
        · have hb : ((x.toNat : Int) != (y.toNat : Int)) = true := by
            simp only [bne_iff_ne, ne_eq]
            rw [byte_eq]
            exact hxy
          have HD := hid (decide_eq_false (HNE.out hxy))
          go_wp2_with fail
          go_quiet (fail)
          go_wp2_with fail
          go_ret
          exact ⟨by rw [HD.out]; rfl, gr_trans HB.out (gr_drewN _ _)⟩
      · obtain rfl : j = l.length := by omega
        have HD := hid (decide_eq_true (show l = m by rw [List.take_length, HLEN.out, List.take_length] at htk; exact htk))
        go_wp2_with fail
        go_ret
        exact ⟨by rw [HD.out]; rfl, HB.out⟩
  · have hnl : ((l.length : Int) != (m.length : Int)) = true := by simp; omega
    have HD := hid (decide_eq_false (show l ≠ m from fun h => hlen (by rw [h])))
    go_enter Tryd.func85, Tryd.ntmps85
    go_wp2_with fail
    go_ret
    exact ⟨by rw [HD.out]; rfl, Below.refl _ _⟩
end Go.Proofs.YtiimlanbbfhkjaaDoor




namespace Go.FL

open Go.RowKit

theorem rowInit {w : World} {g e : Nat} {v0 v1 v2 v3 v4 v5 : Value} (h : RowV w g e [v0, v1, v2, v3, v4, v5]) : w.cell? ⟨g, 0, none⟩ = some v0 ∧ w.cell? ⟨g, 1, none⟩ = some v1 ∧ w.cell? ⟨g, 2, none⟩ = some v2 ∧ w.cell? ⟨g, 3, none⟩ = some v3 ∧ w.cell? ⟨g, 4, none⟩ = some v4 ∧ w.cell? ⟨g, 5, none⟩ = some v5 ∧ True :=
  ⟨h.at 0 (by simp), h.at 1 (by simp), h.at 2 (by simp), h.at 3 (by simp), h.at 4 (by simp), h.at 5 (by simp), trivial⟩
end Go.FL

namespace Go.Proofs.YtiimlanbbfhkjaaDoor

open Go.RowKit Go.FL Go.ChangeShapes

theorem bgetInit_ret {a : Act} {W : World} {g : Nat} {R : Ending → World → Prop} (v0 v1 v2 v3 v4 v5 : Value) (er : Int) (h8 : a.tmps.getD 8 undef = .pointer (some ⟨g, 0, none⟩)) (h9 : a.tmps.getD 9 undef = .int .i64 er) (hd : a.defers = [])
    (hc : RowV W g 31 [v0, v1, v2, v3, v4, v5]) (hR : R (.returned (.tuple #[.agg #[v0, v1, v2, v3, v4, v5], .int .i64 er])) W) : bodyPost Tryd.prog Tryd.f75 R .ret a W := by
  refine bodyPost_ret (v := .tuple #[.agg #[v0, v1, v2, v3, v4, v5], .int .i64 er]) ?_ hd hR
  obtain ⟨c0, c1, c2, c3, c4, c5, -⟩ := rowInit hc
  simp only [Array.getD_eq_getD_getElem?] at h8 h9
  simp [results, Tryd.results75, go_sem, h8, h9, asAddr, c0, c1, c2, c3, c4, c5]

set_option maxRecDepth 100000 in
set_option maxHeartbeats 4000000 in
theorem bgetInit_any (tag rwnd out in_ tsn : Nat) (px : Option Addr) (n cx gc : Nat) (kc fc : UInt8) (s : Value) (bc : List UInt8) (may : Bool) (w : World) (hs : Rd w s bc) (dc : Chk)
    (hput : ∀ wx, Below w.heap.size w wx → Calls Tryd.prog 76 #[.agg #[.int .u32 (tag : Int), .int .u32 (rwnd : Int), .int .u16 (out : Int), .int .u16 (in_ : Int), .int .u32 (tsn : Int), .slice px n cx], .pointer (some ⟨gc, 0, none⟩)] wx (RetChk wx 5 dc)) :
    Calls Tryd.prog 75 #[.agg #[.int .u8 (kc.toNat : Int), .int .u8 (fc.toNat : Int), s], .agg #[.int .u32 (tag : Int), .int .u32 (rwnd : Int), .int .u16 (out : Int), .int .u16 (in_ : Int), .int .u32 (tsn : Int), .slice px n cx], .bool may, .func (.func 76) #[] #[.pointer (some ⟨gc, 0, none⟩)]] w
      fun e w' => e = .returned (if may = true ∧ dc = ⟨kc, fc, bc⟩ then .tuple #[.agg #[.int .u32 (tag : Int), .int .u32 (rwnd : Int), .int .u16 (out : Int), .int .u16 (in_ : Int), .int .u32 (tsn : Int), .slice px n cx], .int .i64 0] else .tuple #[.agg #[.int .u32 0, .int .u32 0, .int .u16 0, .int .u16 0, .int .u32 0, .slice none 0 0], .int .i64 7]) ∧ Below w.heap.size w w' := by
  have HV := hid hs
  have HP := hid hput
  obtain ⟨p, c, rfl, hlc, hcm, hpn, hcell⟩ := hs
  unfold maxLen at hcm
  clear hcell hput
  obtain ⟨kd, fd, bd⟩ := dc
  obtain ⟨res, hres⟩ : ∃ r, r = (if may = true ∧ (⟨kd, fd, bd⟩ : Chk) = ⟨kc, fc, bc⟩ then Value.tuple #[.agg #[.int .u32 (tag : Int), .int .u32 (rwnd : Int), .int .u16 (out : Int), .int .u16 (in_ : Int), .int .u32 (tsn : Int), .slice px n cx], .int .i64 0] else .tuple #[.agg #[.int .u32 0, .int .u32 0, .int .u16 0, .int .u16 0, .int .u32 0, .slice none 0 0], .int .i64 7]) := ⟨_, rfl⟩
  rw [← hres]
  have HRES := hid hres
  clear hres
  obtain ⟨Wa, hWa⟩ : ∃ W, W = w.alloc (.cells #[.int .u8 (kc.toNat : Int), .int .u8 (fc.toNat : Int), .slice p bc.length c] 47 (0, 0)) := ⟨_, rfl⟩
  have hsa : Wa.heap.size = w.heap.size + 1 := by rw [hWa]; simp
  obtain ⟨Wb, hWb⟩ : ∃ W, W = Wa.alloc (.cells #[.int .u32 (tag : Int), .int .u32 (rwnd : Int), .int .u16 (out : Int), .int .u16 (in_ : Int), .int .u32 (tsn : Int), .slice px n cx] 31 (0, 0)) := ⟨_, rfl⟩
  have hsb : Wb.heap.size = w.heap.size + 2 := by rw [hWb]; simp [hsa]
  obtain ⟨W, hW⟩ : ∃ W, W = Wb.alloc (.cells #[.int .u32 0, .int .u32 0, .int .u16 0, .int .u16 0, .int .u32 0, .slice none 0 0] 31 (0, 0)) := ⟨_, rfl⟩
  have HC := hid (show RowV W w.heap.size 47 [.int .u8 (kc.toNat : Int), .int .u8 (fc.toNat : Int), .slice p bc.length c] by rw [hW, hWb, hWa]; exact ((RowV.new w 47 _).alloc _).alloc _)
  have HX := hid (show RowV W (w.heap.size + 1) 31 [.int .u32 (tag : Int), .int .u32 (rwnd : Int), .int .u16 (out : Int), .int .u16 (in_ : Int), .int .u32 (tsn : Int), .slice px n cx] by rw [hW, hWb, ← hsa]; exact (RowV.new Wa 31 _).alloc _)
  have HA := hid (show RowV W (w.heap.size + 2) 31 [.int .u32 0, .int .u32 0, .int .u16 0, .int .u16 0, .int .u32 0, .slice none 0 0] by rw [hW, ← hsb]; exact RowV.new Wb 31 _)
  have G0 := hid (show Below w.heap.size w W by rw [hW, hWb, hWa]; exact (((Below.refl _ _).alloc (Nat.le_refl _) _).alloc (by simp) _).alloc (by simp; omega) _)
  rw [hWb, hWa] at hW
  have HE := hid hW
  obtain ⟨i0, i1, i2, i3, i4, i5, -⟩ := rowInit HX.out
  rw [hW] at i0 i1 i2 i3 i4 i5
  clear hW hWa hWb hsa hsb
  go_enter Tryd.func75, Tryd.ntmps75
  go_wp2_with fail
  rw [← HE.out]
  refine (HP.out _ G0.out).mono ?_
  rintro e w1 ⟨s1, rfl, ho1, hb1⟩
  simp only at ho1
  obtain ⟨p1, c1, rfl, hl1, hm1, -, -⟩ := ho1.rd
  unfold maxLen at hm1
  have HO1 := hid ho1
  obtain ⟨W2, hW2⟩ : ∃ W, W = w1.alloc (.cells #[.int .u8 (kd.toNat : Int), .int .u8 (fd.toNat : Int), .slice p1 bd.length c1] 47 (0, 0)) := ⟨_, rfl⟩
  have g2 : Below w1.heap.size w1 W2 := by rw [hW2]; exact (Below.refl _ _).alloc (Nat.le_refl _) _
  have HD2 := hid (show RowV W2 w1.heap.size 47 [.int .u8 (kd.toNat : Int), .int .u8 (fd.toNat : Int), .slice p1 bd.length c1] by rw [hW2]; exact RowV.new w1 47 _)
  have g12 := gr_trans hb1 g2
  have HC2 := hid (HC.out.mono g12)
  have HX2 := hid (HX.out.mono g12)
  have HA2 := hid (HA.out.mono g12)
  have G2 := hid (gr_trans G0.out g12)
  have HO2 := hid (HO1.out.mono g2)
  have HE2 := hid hW2
  obtain ⟨k0, k1, k2⟩ := HC2.out.three
  obtain ⟨l0, l1, l2⟩ := HD2.out.three
  rw [hW2] at k0 k1 k2 l0 l1 l2
  have bk := byte_lt kc
  have bk2 := byte_lt kd
  have bf := byte_lt fc
  have bf2 := byte_lt fd
  have HKE := hid (byte_eq kd kc)
  have HFE := hid (byte_eq fd fc)
  clear hb1 hW2 g2 g12 ho1 i0 i1 i2 i3 i4 i5
  cases may
  · have HCD := hid (show res = Value.tuple #[.agg #[.int .u32 0, .int .u32 0, .int .u16 0, .int .u16 0, .int .u32 0, .slice none 0 0], .int .i64 7] from by rw [HRES.out]; exact if_neg (by simp))
    obtain ⟨WZ, hWZ⟩ : ∃ W, W = W2.alloc (.cells #[.int .u32 0, .int .u32 0, .int .u16 0, .int .u16 0, .int .u32 0, .slice none 0 0] 31 (0, 0)) := ⟨_, rfl⟩
    have HZ := hid (show RowV WZ W2.heap.size 31 [.int .u32 0, .int .u32 0, .int .u16 0, .int .u16 0, .int .u32 0, .slice none 0 0] by rw [hWZ]; exact RowV.new W2 31 _)
    have gz : Below W2.heap.size W2 WZ := by rw [hWZ]; exact (Below.refl _ _).alloc (Nat.le_refl _) _
    have HAZ := hid (HA2.out.mono gz)
    have GZ := hid (gr_trans G2.out gz)
    have HEZ := hid hWZ
    obtain ⟨i0, i1, i2, i3, i4, i5, -⟩ := rowInit HZ.out
    obtain ⟨j0, j1, j2, j3, j4, j5, -⟩ := rowInit HAZ.out
    have y0 := HAZ.out.frozen 0; have y1 := HAZ.out.frozen 1; have y2 := HAZ.out.frozen 2; have y3 := HAZ.out.frozen 3; have y4 := HAZ.out.frozen 4; have y5 := HAZ.out.frozen 5
    rw [hWZ, HE2.out] at i0 i1 i2 i3 i4 i5 j0 j1 j2 j3 j4 j5 y0 y1 y2 y3 y4 y5

    clear hWZ gz
    go_wp2_with fail
    rw [← HE2.out, ← HEZ.out]
    refine bgetInit_ret (.int .u32 0) (.int .u32 0) (.int .u16 0) (.int .u16 0) (.int .u32 0) (.slice none 0 0) 7 rfl rfl rfl ((((((HAZ.out.store 0 (.int .u32 0)).store 1 (.int .u32 0)).store 2 (.int .u16 0)).store 3 (.int .u16 0)).store 4 (.int .u32 0)).store 5 (.slice none 0 0)) ⟨by rw [HCD.out], ((((((GZ.out.setCell (by simp; try omega) _).setCell (by simp; try omega) _).setCell (by simp; try omega) _).setCell (by simp; try omega) _).setCell (by simp; try omega) _).setCell (by simp; try omega) _)⟩
  · by_cases hk : kd = kc
    · by_cases hf : fd = fc
      · subst hk hf
        have hkb : ((kd.toNat : Int) == (kd.toNat : Int)) = true := by simp
        have hfb : ((fd.toNat : Int) == (fd.toNat : Int)) = true := by simp
        go_wp2_with fail
        rw [← HE2.out]
        refine (sliEq_any _ _ bd bc _ HO2.out.rd (HV.out.mono G2.out)).mono ?_
        rintro e w3 ⟨rfl, hb3⟩
        have HX3 := hid (HX2.out.mono hb3)
        have HA3 := hid (HA2.out.mono hb3)
        have G3 := hid (gr_trans G2.out hb3)
        clear hb3 k0 k1 k2 l0 l1 l2
        by_cases hq : bd = bc
        · rw [decide_eq_true hq]
          have HCD := hid (show res = Value.tuple #[.agg #[.int .u32 (tag : Int), .int .u32 (rwnd : Int), .int .u16 (out : Int), .int .u16 (in_ : Int), .int .u32 (tsn : Int), .slice px n cx], .int .i64 0] from by rw [HRES.out]; exact if_pos (by simp [hq]))
          obtain ⟨i0, i1, i2, i3, i4, i5, -⟩ := rowInit HX3.out
          obtain ⟨j0, j1, j2, j3, j4, j5, -⟩ := rowInit HA3.out
          have y0 := HA3.out.frozen 0; have y1 := HA3.out.frozen 1; have y2 := HA3.out.frozen 2; have y3 := HA3.out.frozen 3; have y4 := HA3.out.frozen 4; have y5 := HA3.out.frozen 5
          clear hq
          go_wp2_with fail
          refine bgetInit_ret (.int .u32 (tag : Int)) (.int .u32 (rwnd : Int)) (.int .u16 (out : Int)) (.int .u16 (in_ : Int)) (.int .u32 (tsn : Int)) (.slice px n cx) 0 rfl rfl rfl ((((((HA3.out.store 0 (.int .u32 (tag : Int))).store 1 (.int .u32 (rwnd : Int))).store 2 (.int .u16 (out : Int))).store 3 (.int .u16 (in_ : Int))).store 4 (.int .u32 (tsn : Int))).store 5 (.slice px n cx)) ⟨by rw [HCD.out], ((((((G3.out.setCell (by simp; try omega) _).setCell (by simp; try omega) _).setCell (by simp; try omega) _).setCell (by simp; try omega) _).setCell (by simp; try omega) _).setCell (by simp; try omega) _)⟩
        · rw [decide_eq_false hq]
          have HCD := hid (show res = Value.tuple #[.agg #[.int .u32 0, .int .u32 0, .int .u16 0, .int .u16 0, .int .u32 0, .slice none 0 0], .int .i64 7] from by rw [HRES.out]; exact if_neg (fun h => hq (congrArg Chk.b h.2)))
          clear hq
          obtain ⟨WZ, hWZ⟩ : ∃ W, W = w3.alloc (.cells #[.int .u32 0, .int .u32 0, .int .u16 0, .int .u16 0, .int .u32 0, .slice none 0 0] 31 (0, 0)) := ⟨_, rfl⟩
          have HZ := hid (show RowV WZ w3.heap.size 31 [.int .u32 0, .int .u32 0, .int .u16 0, .int .u16 0, .int .u32 0, .slice none 0 0] by rw [hWZ]; exact RowV.new w3 31 _)
          have gz : Below w3.heap.size w3 WZ := by rw [hWZ]; exact (Below.refl _ _).alloc (Nat.le_refl _) _
          have HAZ := hid (HA3.out.mono gz)
          have GZ := hid (gr_trans G3.out gz)
          have HEZ := hid hWZ
          obtain ⟨i0, i1, i2, i3, i4, i5, -⟩ := rowInit HZ.out
          obtain ⟨j0, j1, j2, j3, j4, j5, -⟩ := rowInit HAZ.out
          have y0 := HAZ.out.frozen 0; have y1 := HAZ.out.frozen 1; have y2 := HAZ.out.frozen 2; have y3 := HAZ.out.frozen 3; have y4 := HAZ.out.frozen 4; have y5 := HAZ.out.frozen 5
          rw [hWZ] at i0 i1 i2 i3 i4 i5 j0 j1 j2 j3 j4 j5 y0 y1 y2 y3 y4 y5

          clear hWZ gz
          go_wp2_with fail
          rw [← HEZ.out]
          refine bgetInit_ret (.int .u32 0) (.int .u32 0) (.int .u16 0) (.int .u16 0) (.int .u32 0) (.slice none 0 0) 7 rfl rfl rfl ((((((HAZ.out.store 0 (.int .u32 0)).store 1 (.int .u32 0)).store 2 (.int .u16 0)).store 3 (.int .u16 0)).store 4 (.int .u32 0)).store 5 (.slice none 0 0)) ⟨by rw [HCD.out], ((((((GZ.out.setCell (by simp; try omega) _).setCell (by simp; try omega) _).setCell (by simp; try omega) _).setCell (by simp; try omega) _).setCell (by simp; try omega) _).setCell (by simp; try omega) _)⟩
      · have hkb : ((kd.toNat : Int) == (kc.toNat : Int)) = true := by rw [beq_iff_eq, HKE.out]; exact hk
        have hfb : ((fd.toNat : Int) == (fc.toNat : Int)) = false := by rw [beq_eq_false_iff_ne, ne_eq, HFE.out]; exact hf
        have HCD := hid (show res = Value.tuple #[.agg #[.int .u32 0, .int .u32 0, .int .u16 0, .int .u16 0, .int .u32 0, .slice none 0 0], .int .i64 7] from by rw [HRES.out]; exact if_neg (fun h => hf (congrArg Chk.f h.2)))
        clear hk hf
        obtain ⟨WZ, hWZ⟩ : ∃ W, W = W2.alloc (.cells #[.int .u32 0, .int .u32 0, .int .u16 0, .int .u16 0, .int .u32 0, .slice none 0 0] 31 (0, 0)) := ⟨_, rfl⟩
        have HZ := hid (show RowV WZ W2.heap.size 31 [.int .u32 0, .int .u32 0, .int .u16 0, .int .u16 0, .int .u32 0, .slice none 0 0] by rw [hWZ]; exact RowV.new W2 31 _)
        have gz : Below W2.heap.size W2 WZ := by rw [hWZ]; exact (Below.refl _ _).alloc (Nat.le_refl _) _
        have HAZ := hid (HA2.out.mono gz)
        have GZ := hid (gr_trans G2.out gz)
        have HEZ := hid hWZ
        obtain ⟨i0, i1, i2, i3, i4, i5, -⟩ := rowInit HZ.out
        obtain ⟨j0, j1, j2, j3, j4, j5, -⟩ := rowInit HAZ.out
        have y0 := HAZ.out.frozen 0; have y1 := HAZ.out.frozen 1; have y2 := HAZ.out.frozen 2; have y3 := HAZ.out.frozen 3; have y4 := HAZ.out.frozen 4; have y5 := HAZ.out.frozen 5
        rw [hWZ, HE2.out] at i0 i1 i2 i3 i4 i5 j0 j1 j2 j3 j4 j5 y0 y1 y2 y3 y4 y5

        clear hWZ gz
        go_wp2_with fail
        rw [← HE2.out, ← HEZ.out]
        refine bgetInit_ret (.int .u32 0) (.int .u32 0) (.int .u16 0) (.int .u16 0) (.int .u32 0) (.slice none 0 0) 7 rfl rfl rfl ((((((HAZ.out.store 0 (.int .u32 0)).store 1 (.int .u32 0)).store 2 (.int .u16 0)).store 3 (.int .u16 0)).store 4 (.int .u32 0)).store 5 (.slice none 0 0)) ⟨by rw [HCD.out], ((((((GZ.out.setCell (by simp; try omega) _).setCell (by simp; try omega) _).setCell (by simp; try omega) _).setCell (by simp; try omega) _).setCell (by simp; try omega) _).setCell (by simp; try omega) _)⟩
    · have hkb : ((kd.toNat : Int) == (kc.toNat : Int)) = false := by rw [beq_eq_false_iff_ne, ne_eq, HKE.out]; exact hk
      have HCD := hid (show res = Value.tuple #[.agg #[.int .u32 0, .int .u32 0, .int .u16 0, .int .u16 0, .int .u32 0, .slice none 0 0], .int .i64 7] from by rw [HRES.out]; exact if_neg (fun h => hk (congrArg Chk.k h.2)))
      clear hk
      obtain ⟨WZ, hWZ⟩ : ∃ W, W = W2.alloc (.cells #[.int .u32 0, .int .u32 0, .int .u16 0, .int .u16 0, .int .u32 0, .slice none 0 0] 31 (0, 0)) := ⟨_, rfl⟩
      have HZ := hid (show RowV WZ W2.heap.size 31 [.int .u32 0, .int .u32 0, .int .u16 0, .int .u16 0, .int .u32 0, .slice none 0 0] by rw [hWZ]; exact RowV.new W2 31 _)
      have gz : Below W2.heap.size W2 WZ := by rw [hWZ]; exact (Below.refl _ _).alloc (Nat.le_refl _) _
      have HAZ := hid (HA2.out.mono gz)
      have GZ := hid (gr_trans G2.out gz)
      have HEZ := hid hWZ
      obtain ⟨i0, i1, i2, i3, i4, i5, -⟩ := rowInit HZ.out
      obtain ⟨j0, j1, j2, j3, j4, j5, -⟩ := rowInit HAZ.out
      have y0 := HAZ.out.frozen 0; have y1 := HAZ.out.frozen 1; have y2 := HAZ.out.frozen 2; have y3 := HAZ.out.frozen 3; have y4 := HAZ.out.frozen 4; have y5 := HAZ.out.frozen 5
      rw [hWZ, HE2.out] at i0 i1 i2 i3 i4 i5 j0 j1 j2 j3 j4 j5 y0 y1 y2 y3 y4 y5

      clear hWZ gz
      go_wp2_with fail
      rw [← HE2.out, ← HEZ.out]
      refine bgetInit_ret (.int .u32 0) (.int .u32 0) (.int .u16 0) (.int .u16 0) (.int .u32 0) (.slice none 0 0) 7 rfl rfl rfl ((((((HAZ.out.store 0 (.int .u32 0)).store 1 (.int .u32 0)).store 2 (.int .u16 0)).store 3 (.int .u16 0)).store 4 (.int .u32 0)).store 5 (.slice none 0 0)) ⟨by rw [HCD.out], ((((((GZ.out.setCell (by simp; try omega) _).setCell (by simp; try omega) _).setCell (by simp; try omega) _).setCell (by simp; try omega) _).setCell (by simp; try omega) _).setCell (by simp; try omega) _)⟩
end Go.Proofs.YtiimlanbbfhkjaaDoor




namespace Go.FL

open Go.RowKit

theorem rowData {w : World} {g e : Nat} {v0 v1 v2 v3 v4 v5 v6 : Value} (h : RowV w g e [v0, v1, v2, v3, v4, v5, v6]) : w.cell? ⟨g, 0, none⟩ = some v0 ∧ w.cell? ⟨g, 1, none⟩ = some v1 ∧ w.cell? ⟨g, 2, none⟩ = some v2 ∧ w.cell? ⟨g, 3, none⟩ = some v3 ∧ w.cell? ⟨g, 4, none⟩ = some v4 ∧ w.cell? ⟨g, 5, none⟩ = some v5 ∧ w.cell? ⟨g, 6, none⟩ = some v6 ∧ True :=
  ⟨h.at 0 (by simp), h.at 1 (by simp), h.at 2 (by simp), h.at 3 (by simp), h.at 4 (by simp), h.at 5 (by simp), h.at 6 (by simp), trivial⟩
end Go.FL

namespace Go.Proofs.YtiimlanbbfhkjaaDoor

open Go.RowKit Go.FL Go.ChangeShapes

end Go.Proofs.YtiimlanbbfhkjaaDoor





namespace Go.Proofs.YtiimlanbbfhkjaaDoor

open Go.RowKit Go.FL Go.ChangeShapes

theorem putCum_ret {a : Act} {W : World} {g : Nat} {R : Ending → World → Prop} (v0 v1 v2 : Value) (h2 : a.tmps.getD 2 undef = .pointer (some ⟨g, 0, none⟩)) (hd : a.defers = [])
    (hc : RowV W g 47 [v0, v1, v2]) (hR : R (.returned (.agg #[v0, v1, v2])) W) : bodyPost Tryd.prog Tryd.f38 R .ret a W := by
  refine bodyPost_ret (v := .agg #[v0, v1, v2]) ?_ hd hR
  obtain ⟨c0, c1, c2⟩ := RowV.three hc
  simp only [Array.getD_eq_getD_getElem?] at h2
  simp [results, Tryd.results38, go_sem, h2, asAddr, c0, c1, c2]
/-- put of numbers that were laid just now. -/
theorem bput_new (v : Value) (l : List UInt8) (n : Nat) (N : Int) (hN : N = (n : Int)) (hn8 : n = 1 ∨ n = 2 ∨ n = 4 ∨ n = 8) (xs : List Nat) (w : World) (cs : Array Value) (k : Nat) (hcs : cs = (xs.map fun x : Nat => Value.int .u64 (x : Int)).toArray) (hk : k = xs.length) (h : Rd w v l) (hx : ∀ x ∈ xs, x < 18446744073709551616) (h0 : 0 < xs.length) (hn : xs.length ≤ 100) (hs : l.length ≤ 1000000000) :
    Calls Tryd.prog 49 #[v, .int .i64 N, .slice (some ⟨w.heap.size, 0, none⟩) k k] (w.alloc (.cells cs 38 (0, 0))) fun e w' => ∃ v', e = .returned v' ∧ Own w' w.heap.size 5 v' (l ++ catBE n xs) ∧ Below w.heap.size w w' := by
  have g : Below w.heap.size w (w.alloc (.cells cs 38 (0, 0))) := (Below.refl _ _).alloc (Nat.le_refl _) _
  refine (bput_any v _ l n N hN hn8 xs _ (h.mono g) (rdV_new w 38 (xs.map fun x : Nat => Value.int .u64 (x : Int)) k cs (by simpa using hk) hcs (by unfold maxLen; omega)) hx h0 hn hs).mono ?_
  rintro e w' ⟨v', h1, h2, h3⟩
  exact ⟨v', h1, h2.base g.size, gr_trans g h3⟩

set_option maxRecDepth 20000 in
set_option maxHeartbeats 1000000 in
theorem putCum_any (cum : Nat) (hc : cum < 4294967296) (w : World) :
    Calls Tryd.prog 38 #[.int .u32 (cum : Int)] w (RetChk w 5 (cumChk cum)) := by
  have W1 := hid (wrap64_nat cum (by omega))
  obtain ⟨W, hW⟩ : ∃ W, W = w.alloc (.cells #[.int .u8 0, .int .u8 0, .slice none 0 0] 47 (0, 0)) := ⟨_, rfl⟩
  have HQ := hid (show RowV W w.heap.size 47 [.int .u8 0, .int .u8 0, .slice none 0 0] by rw [hW]; exact RowV.new w 47 _)
  have G0 := hid (show Below w.heap.size w W by rw [hW]; exact (Below.refl _ _).alloc (Nat.le_refl _) _)
  have hsz : W.heap.size = w.heap.size + 1 := by rw [hW]; simp
  have HE := hid hW
  have hw := W1.out
  clear hW
  go_enter Tryd.func38, Tryd.ntmps38
  go_wp2_with fail
  rw [← HE.out, ← hsz]
  refine (bput_new _ [] 4 _ rfl (by omega) [cum] W _ 1 rfl rfl (Rd.nil _) (by simp; omega) (by simp) (by simp) (by simp)).mono ?_
  rintro e w1 ⟨v1, rfl, ho1, hb1⟩
  rw [show [] ++ catBE 4 [cum] = beBytes 4 cum by simp [catBE]] at ho1
  have HO1 := hid ho1
  obtain ⟨p1, c1, rfl, -, -, -, -⟩ := ho1.rd
  have HQ1 := hid (HQ.out.mono hb1)
  have G1 := hid (gr_trans G0.out hb1)
  clear ho1 hb1
  obtain ⟨q0, q1, q2⟩ := HQ1.out.three
  have f0 := HQ1.out.frozen 0
  have f1 := HQ1.out.frozen 1
  have f2 := HQ1.out.frozen 2
  go_wp2_with fail
  refine putCum_ret (.int .u8 7) (.int .u8 0) (.slice p1 (beBytes 4 cum).length c1) rfl rfl (((HQ1.out.store 0 _).store 1 _).store 2 _) ⟨_, rfl, ?_, ((G1.out.setCell (by simp) _).setCell (by simp) _).setCell (by simp) _⟩
  exact (HO1.out.keep (r := some w.heap.size) (gb_set (gb_set (gb_set (gb_refl _ _) 0 _) 1 _) 2 _) (fun k hk e => by have := HO1.out.ge k hk; simp at e; omega)).base G0.out.size

end Go.Proofs.YtiimlanbbfhkjaaDoor




namespace Go.Proofs.YtiimlanbbfhkjaaDoor

open Go.RowKit Go.FL Go.ChangeShapes

set_option maxRecDepth 100000 in
set_option maxHeartbeats 4000000 in
theorem bgetCum_any (cum : Nat) (kc fc : UInt8) (s : Value) (bc : List UInt8) (may : Bool) (w : World) (hs : Rd w s bc) (dc : Chk)
    (hput : ∀ wx, Below w.heap.size w wx → Calls Tryd.prog 38 #[.int .u32 (cum : Int)] wx (RetChk wx 5 dc)) :
    Calls Tryd.prog 83 #[.agg #[.int .u8 (kc.toNat : Int), .int .u8 (fc.toNat : Int), s], .int .u32 (cum : Int), .bool may, .func (.func 38) #[] #[]] w
      fun e w' => e = .returned (if may = true ∧ dc = ⟨kc, fc, bc⟩ then .tuple #[.int .u32 (cum : Int), .int .i64 0] else .tuple #[.int .u32 0, .int .i64 7]) ∧ Below w.heap.size w w' := by
  have HV := hid hs
  have HP := hid hput
  obtain ⟨p, c, rfl, hlc, hcm, hpn, hcell⟩ := hs
  unfold maxLen at hcm
  clear hcell hput
  obtain ⟨kd, fd, bd⟩ := dc
  obtain ⟨res, hres⟩ : ∃ r, r = (if may = true ∧ (⟨kd, fd, bd⟩ : Chk) = ⟨kc, fc, bc⟩ then Value.tuple #[.int .u32 (cum : Int), .int .i64 0] else .tuple #[.int .u32 0, .int .i64 7]) := ⟨_, rfl⟩
  rw [← hres]
  have HRES := hid hres
  clear hres
  obtain ⟨W, hW⟩ : ∃ W, W = w.alloc (.cells #[.int .u8 (kc.toNat : Int), .int .u8 (fc.toNat : Int), .slice p bc.length c] 47 (0, 0)) := ⟨_, rfl⟩
  have HC := hid (show RowV W w.heap.size 47 [.int .u8 (kc.toNat : Int), .int .u8 (fc.toNat : Int), .slice p bc.length c] by rw [hW]; exact RowV.new w 47 _)
  have G0 := hid (show Below w.heap.size w W by rw [hW]; exact (Below.refl _ _).alloc (Nat.le_refl _) _)
  have HE := hid hW
  clear hW
  go_enter Tryd.func83, Tryd.ntmps83
  go_wp2_with fail
  rw [← HE.out]
  refine (HP.out _ G0.out).mono ?_
  rintro e w1 ⟨s1, rfl, ho1, hb1⟩
  simp only at ho1
  obtain ⟨p1, c1, rfl, hl1, hm1, -, -⟩ := ho1.rd
  unfold maxLen at hm1
  have HO1 := hid ho1
  obtain ⟨W2, hW2⟩ : ∃ W, W = w1.alloc (.cells #[.int .u8 (kd.toNat : Int), .int .u8 (fd.toNat : Int), .slice p1 bd.length c1] 47 (0, 0)) := ⟨_, rfl⟩
  have g2 : Below w1.heap.size w1 W2 := by rw [hW2]; exact (Below.refl _ _).alloc (Nat.le_refl _) _
  have HD2 := hid (show RowV W2 w1.heap.size 47 [.int .u8 (kd.toNat : Int), .int .u8 (fd.toNat : Int), .slice p1 bd.length c1] by rw [hW2]; exact RowV.new w1 47 _)
  have g12 := gr_trans hb1 g2
  have HC2 := hid (HC.out.mono g12)
  have G2 := hid (gr_trans G0.out g12)
  have HO2 := hid (HO1.out.mono g2)
  have HE2 := hid hW2
  obtain ⟨k0, k1, k2⟩ := HC2.out.three
  obtain ⟨l0, l1, l2⟩ := HD2.out.three
  rw [hW2] at k0 k1 k2 l0 l1 l2
  have bk := byte_lt kc
  have bk2 := byte_lt kd
  have bf := byte_lt fc
  have bf2 := byte_lt fd
  have HKE := hid (byte_eq kd kc)
  have HFE := hid (byte_eq fd fc)
  clear hb1 hW2 g2 g12 ho1
  cases may
  · have HCD := hid (show res = Value.tuple #[.int .u32 0, .int .i64 7] from by rw [HRES.out]; exact if_neg (by simp))
    go_wp2_with fail
    rw [← HE2.out]
    go_ret2
    exact ⟨by rw [HCD.out]; rfl, G2.out⟩
  · by_cases hk : kd = kc
    · by_cases hf : fd = fc
      · subst hk hf
        have hkb : ((kd.toNat : Int) == (kd.toNat : Int)) = true := by simp
        have hfb : ((fd.toNat : Int) == (fd.toNat : Int)) = true := by simp
        go_wp2_with fail
        rw [← HE2.out]
        refine (sliEq_any _ _ bd bc _ HO2.out.rd (HV.out.mono G2.out)).mono ?_
        rintro e w3 ⟨rfl, hb3⟩
        have G3 := hid (gr_trans G2.out hb3)
        clear hb3 k0 k1 k2 l0 l1 l2
        by_cases hq : bd = bc
        · rw [decide_eq_true hq]
          have HCD := hid (show res = Value.tuple #[.int .u32 (cum : Int), .int .i64 0] from by rw [HRES.out]; exact if_pos (by simp [hq]))
          clear hq
          go_wp2_with fail
          go_ret2
          exact ⟨by rw [HCD.out]; rfl, G3.out⟩
        · rw [decide_eq_false hq]
          have HCD := hid (show res = Value.tuple #[.int .u32 0, .int .i64 7] from by rw [HRES.out]; exact if_neg (fun h => hq (congrArg Chk.b h.2)))
          clear hq
          go_wp2_with fail
          go_ret2
          exact ⟨by rw [HCD.out]; rfl, G3.out⟩
      · have hkb : ((kd.toNat : Int) == (kc.toNat : Int)) = true := by rw [beq_iff_eq, HKE.out]; exact hk
        have hfb : ((fd.toNat : Int) == (fc.toNat : Int)) = false := by rw [beq_eq_false_iff_ne, ne_eq, HFE.out]; exact hf
        have HCD := hid (show res = Value.tuple #[.int .u32 0, .int .i64 7] from by rw [HRES.out]; exact if_neg (fun h => hf (congrArg Chk.f h.2)))
        clear hk hf
        go_wp2_with fail
        rw [← HE2.out]
        go_ret2
        exact ⟨by rw [HCD.out]; rfl, G2.out⟩
    · have hkb : ((kd.toNat : Int) == (kc.toNat : Int)) = false := by rw [beq_eq_false_iff_ne, ne_eq, HKE.out]; exact hk
      have HCD := hid (show res = Value.tuple #[.int .u32 0, .int .i64 7] from by rw [HRES.out]; exact if_neg (fun h => hk (congrArg Chk.k h.2)))
      clear hk
      go_wp2_with fail
      rw [← HE2.out]
      go_ret2
      exact ⟨by rw [HCD.out]; rfl, G2.out⟩
end Go.Proofs.YtiimlanbbfhkjaaDoor




namespace Go.Proofs.YtiimlanbbfhkjaaDoor

open Go.RowKit Go.FL Go.ChangeShapes

end Go.Proofs.YtiimlanbbfhkjaaDoor






namespace Go.FL

open Go.RowKit

/-- A chunk by value. -/
def ChkV (w : World) (v : Value) (c : Chk) : Prop := ∃ s, v = .agg #[.int .u8 (c.k.toNat : Int), .int .u8 (c.f.toNat : Int), s] ∧ Rd w s c.b
theorem ChkV.mono {w w' : World} {v : Value} {c : Chk} (h : ChkV w v c) (hb : Below w.heap.size w w') : ChkV w' v c := by
  obtain ⟨s, h1, h2⟩ := h
  exact ⟨s, h1, h2.mono hb⟩
def cumGet (c : Chk) : Nat × Int := if cumChk (numAt c.b 0 4) = c then (numAt c.b 0 4, 0) else (0, 7)
def timeGet (c : Chk) : Int × Int := if (decide (c.k = 4) || decide (c.k = 5)) = true ∧ timeChk c.k (timeI (numAt c.b 4 8)) = c then (timeI (numAt c.b 4 8), 0) else (0, 7)
end Go.FL

namespace Go.Proofs.YtiimlanbbfhkjaaDoor

open Go.RowKit Go.FL Go.ChangeShapes

set_option maxRecDepth 100000 in
set_option maxHeartbeats 2000000 in
theorem getCum_any (v : Value) (ch : Chk) (w : World) (h : ChkV w v ch) (hl : ch.b.length ≤ 1000000) :
    Calls Tryd.prog 70 #[v] w fun e w' => e = .returned (.tuple #[.int .u32 ((cumGet ch).1 : Int), .int .i64 (cumGet ch).2]) ∧ Below w.heap.size w w' := by
  obtain ⟨s, rfl, hrd⟩ := h
  have HV := hid hrd
  obtain ⟨p, c, rfl, hlc, hcm, hpn, hcell⟩ := hrd
  unfold maxLen at hcm
  clear hcell
  obtain ⟨kc, fc, bc⟩ := ch
  simp only at *
  have hxl := numAt_lt bc 0 4
  have HRES := hid (show Value.tuple #[.int .u32 ((cumGet ⟨kc, fc, bc⟩).1 : Int), .int .i64 (cumGet ⟨kc, fc, bc⟩).2] = (if true = true ∧ cumChk (numAt bc 0 4) = ⟨kc, fc, bc⟩ then Value.tuple #[.int .u32 (numAt bc 0 4 : Int), .int .i64 0] else .tuple #[.int .u32 0, .int .i64 7]) by
    unfold cumGet
    by_cases hq : cumChk (numAt bc 0 4) = ⟨kc, fc, bc⟩
    · simp [hq]
    · simp [hq])
  rw [HRES.out]
  obtain ⟨x, hx⟩ : ∃ x, x = numAt bc 0 4 := ⟨_, rfl⟩
  have HX := hid hx
  rw [← hx] at hxl ⊢
  have HPUT := hid (fun (wx : World) => putCum_any x (by omega) wx)
  obtain ⟨res, er, hres⟩ : ∃ res er, (if true = true ∧ cumChk x = ⟨kc, fc, bc⟩ then Value.tuple #[.int .u32 (x : Int), .int .i64 0] else .tuple #[.int .u32 0, .int .i64 7]) = .tuple #[res, .int .i64 er] := by
    split
    · exact ⟨_, _, rfl⟩
    · exact ⟨_, _, rfl⟩
  have HRS := hid hres
  rw [hres]
  have HWU := hid (show IntKind.u32.wrap (x : Int) = (x : Int) by rw [wrap_u32_lt]; omega)
  clear hx hres HRES
  obtain ⟨W0, hW0⟩ : ∃ W0, W0 = w.alloc (.cells #[.int .u8 (kc.toNat : Int), .int .u8 (fc.toNat : Int), .slice p bc.length c] 47 (0, 0)) := ⟨_, rfl⟩
  have hs0 : W0.heap.size = w.heap.size + 1 := by rw [hW0]; simp
  obtain ⟨W, hW⟩ : ∃ W, W = W0.alloc (.cells #[.slice p bc.length c, .int .i64 0] 119 (0, 0)) := ⟨_, rfl⟩
  have HC := hid (show RowV W w.heap.size 47 [.int .u8 (kc.toNat : Int), .int .u8 (fc.toNat : Int), .slice p bc.length c] by rw [hW, hW0]; exact (RowV.new w 47 _).alloc _)
  have HR := hid (show RdrAt (w.heap.size + 1) (.slice p bc.length c) 0 W by rw [hW, ← hs0]; exact RowV.new W0 119 _)
  have G0 := hid (show Below w.heap.size w W by rw [hW, hW0]; exact ((Below.refl _ _).alloc (Nat.le_refl _) _).alloc (by simp) _)
  have hs1 : W.heap.size = w.heap.size + 2 := by rw [hW]; simp [hs0]
  rw [hW0] at hW
  have HE := hid hW
  have HG := hid (fun (wx : World) (h : GbR (w.heap.size + 1) W wx) => (show Below w.heap.size w wx from G0.out.trans (gb_below h (by omega) (by omega))))
  clear hW hW0 hs0
  have hkb := byte_lt kc
  have hfb := byte_lt fc
  go_enter Tryd.func70, Tryd.ntmps70
  go_wp2_with fail
  rw [← HE.out]
  refine wp_region_take 8 (w.heap.size + 1) [2] (fun k wx => RdrAt (w.heap.size + 1) (.slice p bc.length c) (4 * k) wx) [Is (.agg ([.int .u8 (kc.toNat : Int), .int .u8 (fc.toNat : Int), .slice p bc.length c]).toArray), Is (.pointer (some ⟨w.heap.size + 1, 0, none⟩)), Is (.int .u64 (x : Int)), Is (.int .u32 (x : Int)), Is (.tuple #[res, .int .i64 er]), Is (res), Is (.int .i64 er), Is (res)] (by kernel_rfl) (by kernel_rfl) (by kernel_rfl) (by kernel_rfl) (by kernel_rfl) (by kernel_rfl) (by kernel_rfl) (HR.out) (fun _ _ _ h k => RowV.mono h k) ?_ ?_ ?_
  · exact ⟨Is.stab _ _, Is.stab _ _, Is.stab _ _, Is.stab _ _, Is.stab _ _, Is.stab _ _, Is.stab _ _, Is.stab _ _, trivial⟩
  · rename_i Kk hKk; clear hKk Kk
    simp only [List.take_succ_cons, List.take_zero, AllOpsC, wrAt, Nat.reduceAdd, Nat.reduceEqDiff, Option.map_some, Option.map_none, List.map_cons, List.map_nil, depsOf, List.filterMap_cons, List.filterMap_nil, Region.binds, depFacts, guardF, reduceIte, List.getD_eq_getElem?_getD, List.getElem?_cons_succ, List.getElem?_cons_zero, Option.getD_some, factAt, and_true]
    refine ⟨?_, ?_, ?_, ?_, ?_, ?_, ?_, ?_⟩
    all_goals intro ρ wv hρ hR hd
    all_goals try simp only [Is] at hd
    · exact opOk_loadRow rfl (w.heap.size) (by first | exact hρ.2 _ rfl | simp [hd]) _ ([.int .u8 (kc.toNat : Int), .int .u8 (fc.toNat : Int), .slice p bc.length c]) _ (HC.out.grown hR (fun e => by simp at e)) Tryd.underlying47 rfl (by kernel_rfl) ⟨rfl, GrR.refl _⟩
    · exact opOk_move (.inl rfl) ⟨by simp only [Is]; (first | exact hρ.2 4 rfl | exact hd | exact hd.1 | exact hd.2 | simp [hd]), GrR.refl _⟩
    · (first | refine ⟨rfl, fun hJ => ?_⟩ | refine ⟨trivial, fun hJ => ?_⟩ | intro hJ); exact opOk_call hρ.1 rfl rfl Tryd.func73 (by kernel_rfl) rfl (by simp [hd, hρ.1.const, hρ.1.func]) ((btake_any _ _ bc 0 4 _ rfl (by omega) _ hJ (HV.out.mono (HG.out _ hR)) (by omega)).mono fun e w' ⟨h1, h2, h3⟩ => ⟨_, h1, by rw [HX.out]; rfl, h3, h2⟩)
    · exact opOk_val (v := .int .u32 (x : Int)) (w' := wv) (by simp [execOp, go_sem, hρ.1.const, hρ.1.func, hd, HWU.out]) ⟨rfl, GrR.refl _⟩
    · exact opOk_call hρ.1 rfl rfl Tryd.func83 (by kernel_rfl) rfl (by simp [hd, hρ.1.const, hρ.1.func]) ((bgetCum_any x kc fc _ bc true _ (HV.out.mono (HG.out _ hR)) (cumChk x) (fun wx _ => HPUT.out wx)).mono fun e w' ⟨h1, h2⟩ => ⟨_, h1, (by simpa [Is] using HRS.out), h2⟩)
    · exact opOk_val (v := res) (w' := wv) (by simp [execOp, go_sem, hρ.1.const, hρ.1.func, hd]) ⟨rfl, GrR.refl _⟩
    · exact opOk_val (v := .int .i64 er) (w' := wv) (by simp [execOp, go_sem, hρ.1.const, hρ.1.func, hd]) ⟨rfl, GrR.refl _⟩
    · exact opOk_move (.inr rfl) ⟨by simp only [Is]; (first | exact hρ.2 14 rfl | exact hd | exact hd.1 | exact hd.2 | simp [hd]), GrR.refl _⟩
  · intro vals wv hR hJ hall
    have i6 := hall 6 (by omega)
    have i7 := hall 7 (by omega)
    simp only [factAt, Is, List.getD_eq_getElem?_getD, List.getElem?_cons_succ, List.getElem?_cons_zero, Option.getD_some] at i6 i7
    clear hall
    simp only [List.take_succ_cons, List.take_zero, List.drop_succ_cons, List.drop_zero, fillFrom, Act.put, i6, i7, List.setIfInBounds_toArray, List.set_cons_zero, List.set_cons_succ, Nat.zero_add, Nat.reduceAdd]
    have GF := hid (HG.out _ hR)
    clear hR hJ i6 i7
    go_wp2_with fail
    go_ret2
    exact ⟨rfl, GF.out⟩

theorem kind_eq (k c : UInt8) (C : Int) (hC : C = (c.toNat : Int)) : ((k.toNat : Int) == C) = decide (k = c) := by
  subst hC
  rw [Bool.eq_iff_iff]
  simp only [beq_iff_eq, decide_eq_true_eq]
  exact byte_eq k c

end Go.Proofs.YtiimlanbbfhkjaaDoor




namespace Go.FL

open Go.RowKit

def DataD.vals (d : DataD) (s : Value) : Value := .agg #[.int .u32 (d.tsn : Int), .int .u16 (d.st : Int), .int .u16 (d.ssn : Int), .bool d.un, .bool d.fi, .bool d.la, s]
def dataGet (c : Chk) : DataD × Int := if 12 < c.b.length ∧ (dataOf c).chk = c then (dataOf c, 0) else (.zero, 7)
theorem wf_i64 {n : Int} (h1 : -9223372036854775808 ≤ n) (h2 : n ≤ 9223372036854775807) : (Lit.int .i64 n).wf = true := by
  simp [Lit.wf, IntKind.min, IntKind.max, IntKind.signed, IntKind.bits]
  omega
theorem cutAt_rest (l : List UInt8) (a : Nat) : cutAt l a ((l.length : Int) - (a : Int)) = l.drop a := by
  unfold cutAt
  split
  · rw [List.take_of_length_le]
    simp
  · rw [List.drop_eq_nil_of_le]
    omega
theorem flag_ne (x : UInt8) : ((x.toNat : Int) != 0) = (x != 0) := by
  rw [Bool.eq_iff_iff]
  simp only [bne_iff_ne, ne_eq]
  exact not_congr (byte_eq x 0)
end Go.FL

namespace Go.Proofs.YtiimlanbbfhkjaaDoor

open Go.RowKit Go.FL Go.ChangeShapes

end Go.Proofs.YtiimlanbbfhkjaaDoor




namespace Go.FL

open Go.RowKit

def InitAt (w : World) (v : Value) (i : InitD) : Prop := ∃ s, v = .agg #[.int .u32 (i.tag : Int), .int .u32 (i.rwnd : Int), .int .u16 (i.out : Int), .int .u16 (i.in_ : Int), .int .u32 (i.tsn : Int), s] ∧ Rd w s i.ck
theorem InitAt.mono {w w' : World} {v : Value} {i : InitD} (h : InitAt w v i) (hb : Below w.heap.size w w') : InitAt w' v i := by
  obtain ⟨s, h1, h2⟩ := h
  exact ⟨s, h1, h2.mono hb⟩
end Go.FL

namespace Go.Proofs.YtiimlanbbfhkjaaDoor

open Go.RowKit Go.FL Go.ChangeShapes

theorem putInit_ret {a : Act} {W : World} {g : Nat} {R : Ending → World → Prop} (v0 v1 v2 : Value) (h2 : a.tmps.getD 4 undef = .pointer (some ⟨g, 0, none⟩)) (hd : a.defers = [])
    (hc : RowV W g 47 [v0, v1, v2]) (hR : R (.returned (.agg #[v0, v1, v2])) W) : bodyPost Tryd.prog Tryd.f41 R .ret a W := by
  refine bodyPost_ret (v := .agg #[v0, v1, v2]) ?_ hd hR
  obtain ⟨c0, c1, c2⟩ := RowV.three hc
  simp only [Array.getD_eq_getD_getElem?] at h2
  simp [results, Tryd.results41, go_sem, h2, asAddr, c0, c1, c2]

theorem getInit1_ret {a : Act} {W : World} {g : Nat} {R : Ending → World → Prop} (v0 v1 v2 : Value) (h2 : a.tmps.getD 3 undef = .pointer (some ⟨g, 0, none⟩)) (hd : a.defers = [])
    (hc : RowV W g 47 [v0, v1, v2]) (hR : R (.returned (.agg #[v0, v1, v2])) W) : bodyPost Tryd.prog Tryd.f76 R .ret a W := by
  refine bodyPost_ret (v := .agg #[v0, v1, v2]) ?_ hd hR
  obtain ⟨c0, c1, c2⟩ := RowV.three hc
  simp only [Array.getD_eq_getD_getElem?] at h2
  simp [results, Tryd.results76, go_sem, h2, asAddr, c0, c1, c2]

set_option maxRecDepth 100000 in
set_option maxHeartbeats 4000000 in
theorem putInit_any (kind : UInt8) (v : Value) (d : InitD) (hw : d.wf) (w : World) (h : InitAt w v d) (hl : d.ck.length ≤ 1000000) :
    Calls Tryd.prog 41 #[.int .u8 (kind.toNat : Int), v] w (RetChk w 5 (d.chk kind)) := by
  obtain ⟨s, rfl, hrd⟩ := h
  have HV := hid hrd
  obtain ⟨p, c, rfl, hlc, hcm, hpn, hcell⟩ := hrd
  unfold maxLen at hcm
  clear hcell
  show Calls _ _ _ _ (RetChk w 5 ⟨kind, 0, d.body kind⟩)
  have HBD := hid (show d.body kind = if kind = 2 then padded ((beBytes 4 d.tag ++ beBytes 4 d.rwnd ++ (beBytes 2 d.out ++ beBytes 2 d.in_) ++ beBytes 4 d.tsn) ++ (beBytes 2 7 ++ beBytes 2 (4 + d.ck.length)) ++ d.ck) else (beBytes 4 d.tag ++ beBytes 4 d.rwnd ++ (beBytes 2 d.out ++ beBytes 2 d.in_) ++ beBytes 4 d.tsn) by simp [InitD.body, InitD.more, InitD.head])
  obtain ⟨g1, g2, g3, g4, g5⟩ := hw
  rw [HBD.out]
  obtain ⟨tag, rwnd, out, in_, tsn, b⟩ := d
  simp only at *
  clear HBD
  have W1 := hid (wrap64_nat tag (by omega))
  have W2 := hid (wrap64_nat rwnd (by omega))
  have W3 := hid (wrap64_nat out (by omega))
  have W4 := hid (wrap64_nat in_ (by omega))
  have w5 := wrap64_nat tsn (by omega)
  obtain ⟨n, hn⟩ : ∃ n, n = b.length := ⟨_, rfl⟩
  have HN := hid hn
  rw [← hn] at HV hl hlc ⊢
  have w6 := wrap64_nat (4 + n) (by omega)
  obtain ⟨b8, hb8⟩ : ∃ x, x = beBytes 4 tag ++ beBytes 4 rwnd := ⟨_, rfl⟩
  have HL8 := hid (show b8.length = 8 by rw [hb8]; simp [beBytes_length])
  rw [← hb8]
  obtain ⟨b12, hb12⟩ : ∃ x, x = b8 ++ (beBytes 2 out ++ beBytes 2 in_) := ⟨_, rfl⟩
  have HL12 := hid (show b12.length = 12 by rw [hb12]; simp [HL8.out, beBytes_length])
  rw [← hb12]
  obtain ⟨b16, hb16⟩ : ∃ x, x = b12 ++ beBytes 4 tsn := ⟨_, rfl⟩
  have HL16 := hid (show b16.length = 16 by rw [hb16]; simp [HL12.out, beBytes_length])
  rw [← hb16]
  obtain ⟨b20, hb20⟩ : ∃ x, x = b16 ++ (beBytes 2 7 ++ beBytes 2 (4 + n)) := ⟨_, rfl⟩
  have HL20 := hid (show b20.length = 20 by rw [hb20]; simp [HL16.out, beBytes_length])
  rw [← hb20]
  have HB8 := hid (show [] ++ catBE 4 [tag, rwnd] = b8 by rw [hb8]; simp [catBE])
  have HB12 := hid (show b8 ++ catBE 2 [out, in_] = b12 by rw [hb12]; simp [catBE])
  have HB16 := hid (show b12 ++ catBE 4 [tsn] = b16 by rw [hb16]; simp [catBE])
  have HB20 := hid (show b16 ++ catBE 2 [7, 4 + n] = b20 by rw [hb20]; simp [catBE])
  obtain ⟨bl, hbl⟩ : ∃ x, x = (if kind = 2 then padded (b20 ++ b) else b16) := ⟨_, rfl⟩
  rw [← hbl]
  have HBL := hid hbl
  clear hb8 hb12 hb16 hb20 hn hbl
  obtain ⟨W0, hW0⟩ : ∃ W0, W0 = w.alloc (.cells #[.int .u32 (tag : Int), .int .u32 (rwnd : Int), .int .u16 (out : Int), .int .u16 (in_ : Int), .int .u32 (tsn : Int), .slice p n c] 31 (0, 0)) := ⟨_, rfl⟩
  have hs0 : W0.heap.size = w.heap.size + 1 := by rw [hW0]; simp
  obtain ⟨W, hW⟩ : ∃ W, W = W0.alloc (.cells #[.int .u8 0, .int .u8 0, .slice none 0 0] 47 (0, 0)) := ⟨_, rfl⟩
  have hs1 : W.heap.size = w.heap.size + 2 := by rw [hW]; simp [hs0]
  have HR := hid (show RowV W w.heap.size 31 [.int .u32 (tag : Int), .int .u32 (rwnd : Int), .int .u16 (out : Int), .int .u16 (in_ : Int), .int .u32 (tsn : Int), .slice p n c] by rw [hW, hW0]; exact (RowV.new w 31 _).alloc _)
  have HQ := hid (show RowV W (w.heap.size + 1) 47 [.int .u8 0, .int .u8 0, .slice none 0 0] by rw [hW, ← hs0]; exact RowV.new W0 47 _)
  have G0 := hid (show Below w.heap.size w W by rw [hW, hW0]; exact ((Below.refl _ _).alloc (Nat.le_refl _) _).alloc (by simp) _)
  rw [hW0] at hW
  have HE := hid hW
  clear hW hW0 hs0
  have K0 := hid (HR.out.at 0 (by simp))
  have K1 := hid (HR.out.at 1 (by simp))
  have K2 := hid (HR.out.at 2 (by simp))
  have K3 := hid (HR.out.at 3 (by simp))
  simp only [List.getElem_cons_succ, List.getElem_cons_zero] at K0 K1 K2 K3
  have hkb := byte_lt kind
  go_enter Tryd.func41, Tryd.ntmps41
  go_wp2_with fail
  rw [← HE.out]
  refine wp_region_gr [Is (.pointer (some ⟨w.heap.size, 0, none⟩)), Is (.int .u32 (tag : Int)), Is (.int .u64 (tag : Int)), Is (.pointer (some ⟨w.heap.size, 1, none⟩)), Is (.int .u32 (rwnd : Int)), Is (.int .u64 (rwnd : Int)), RdVF [.int .u64 (tag : Int), .int .u64 (rwnd : Int)], OwnF W.heap.size 5 b8, Is (.pointer (some ⟨w.heap.size, 2, none⟩)), Is (.int .u16 (out : Int)), Is (.int .u64 (out : Int)), Is (.pointer (some ⟨w.heap.size, 3, none⟩)), Is (.int .u16 (in_ : Int)), Is (.int .u64 (in_ : Int)), RdVF [.int .u64 (out : Int), .int .u64 (in_ : Int)], OwnF W.heap.size 5 b12, OwnF W.heap.size 5 b12] (by kernel_rfl) (by kernel_rfl) (by kernel_rfl) ?_ ?_ ?_
  · simp only [StabAll, Is.gr, RdF.gr, OwnF.gr, AnyF.gr, RdVF.gr, and_self]
  · rename_i Kk hKk; clear hKk Kk
    simp only [AllOps, List.map_cons, List.map_nil, depsOf, List.filterMap_cons, List.filterMap_nil, Region.binds, depFacts, guardF, reduceIte, List.getD_eq_getElem?_getD, List.getElem?_cons_succ, List.getElem?_cons_zero, Option.getD_some, factAt, and_true]
    refine ⟨?_, ?_, ?_, ?_, ?_, ?_, ?_, ?_, ?_, ?_, ?_, ?_, ?_, ?_, ?_, ?_, ?_⟩
    all_goals intro ρ wv hρ hR hd
    all_goals try simp only [Is] at hd
    · exact opOk_val (v := .pointer (some ⟨w.heap.size, 0, none⟩)) (w' := wv) (by simp [execOp, go_sem, hρ.1.const, hρ.1.func, hd, (hρ.2 3 rfl)]) ⟨rfl, GrR.refl _⟩
    · (have h0 := cell?_of_below hR K0.out; exact opOk_val (v := .int .u32 (tag : Int)) (w' := wv) (by simp [execOp, go_sem, hd, h0]) ⟨rfl, GrR.refl _⟩)
    · exact opOk_val (v := .int .u64 (tag : Int)) (w' := wv) (by simp [execOp, go_sem, hρ.1.const, hρ.1.func, hd, W1.out]) ⟨rfl, GrR.refl _⟩
    · exact opOk_val (v := .pointer (some ⟨w.heap.size, 1, none⟩)) (w' := wv) (by simp [execOp, go_sem, hρ.1.const, hρ.1.func, hd, (hρ.2 3 rfl)]) ⟨rfl, GrR.refl _⟩
    · (have h0 := cell?_of_below hR K1.out; exact opOk_val (v := .int .u32 (rwnd : Int)) (w' := wv) (by simp [execOp, go_sem, hd, h0]) ⟨rfl, GrR.refl _⟩)
    · exact opOk_val (v := .int .u64 (rwnd : Int)) (w' := wv) (by simp [execOp, go_sem, hρ.1.const, hρ.1.func, hd, W2.out]) ⟨rfl, GrR.refl _⟩
    · exact opOk_val (v := .slice (some ⟨wv.heap.size, 0, none⟩) 2 2) (w' := wv.alloc (.cells #[.int .u64 (tag : Int), .int .u64 (rwnd : Int)] 38 (0, 0))) (by simp [execOp, go_sem, hρ.1.const, hd]) ⟨rdV_new wv 38 [.int .u64 (tag : Int), .int .u64 (rwnd : Int)] 2 _ rfl rfl (by unfold maxLen; omega), (Below.refl _ _).alloc (Nat.le_refl _) _⟩
    · exact opOk_call hρ.1 rfl rfl Tryd.func49 (by kernel_rfl) rfl (by simp [hd, hρ.1.const]) ((bput_any _ _ [] 4 _ rfl (by omega) [tag, rwnd] _ (Rd.nil _) hd (by simp; omega) (by simp) (by simp) (by simp)).mono fun e w' ⟨v', h1, h2, h3⟩ => ⟨v', h1, by rw [HB8.out] at h2; exact h2.base hR.size, h3⟩)
    · exact opOk_val (v := .pointer (some ⟨w.heap.size, 2, none⟩)) (w' := wv) (by simp [execOp, go_sem, hρ.1.const, hρ.1.func, hd, (hρ.2 3 rfl)]) ⟨rfl, GrR.refl _⟩
    · (have h0 := cell?_of_below hR K2.out; exact opOk_val (v := .int .u16 (out : Int)) (w' := wv) (by simp [execOp, go_sem, hd, h0]) ⟨rfl, GrR.refl _⟩)
    · exact opOk_val (v := .int .u64 (out : Int)) (w' := wv) (by simp [execOp, go_sem, hρ.1.const, hρ.1.func, hd, W3.out]) ⟨rfl, GrR.refl _⟩
    · exact opOk_val (v := .pointer (some ⟨w.heap.size, 3, none⟩)) (w' := wv) (by simp [execOp, go_sem, hρ.1.const, hρ.1.func, hd, (hρ.2 3 rfl)]) ⟨rfl, GrR.refl _⟩
    · (have h0 := cell?_of_below hR K3.out; exact opOk_val (v := .int .u16 (in_ : Int)) (w' := wv) (by simp [execOp, go_sem, hd, h0]) ⟨rfl, GrR.refl _⟩)
    · exact opOk_val (v := .int .u64 (in_ : Int)) (w' := wv) (by simp [execOp, go_sem, hρ.1.const, hρ.1.func, hd, W4.out]) ⟨rfl, GrR.refl _⟩
    · exact opOk_val (v := .slice (some ⟨wv.heap.size, 0, none⟩) 2 2) (w' := wv.alloc (.cells #[.int .u64 (out : Int), .int .u64 (in_ : Int)] 38 (0, 0))) (by simp [execOp, go_sem, hρ.1.const, hd]) ⟨rdV_new wv 38 [.int .u64 (out : Int), .int .u64 (in_ : Int)] 2 _ rfl rfl (by unfold maxLen; omega), (Below.refl _ _).alloc (Nat.le_refl _) _⟩
    · exact opOk_call hρ.1 rfl rfl Tryd.func49 (by kernel_rfl) rfl (by simp [hd, hρ.1.const]) ((bput_any _ _ b8 2 _ rfl (by omega) [out, in_] _ hd.1.rd hd.2.1 (by simp; omega) (by simp) (by simp) (by rw [HL8.out]; omega)).mono fun e w' ⟨v', h1, h2, h3⟩ => ⟨v', h1, by rw [HB12.out] at h2; exact h2.base hR.size, h3⟩)
    · exact opOk_move (.inr rfl) ⟨(by first | exact hd | exact hd.1), GrR.refl _⟩
  · intro vals wv hR hall
    have h16 := hall 16 (by simp)
    simp only [factAt, OwnF, List.getD_eq_getElem?_getD, List.getElem?_cons_succ, List.getElem?_cons_zero, Option.getD_some] at h16
    clear hall
    obtain ⟨p1, c1, hv1, -, -, -, -⟩ := h16.rd
    simp only [fillFrom, Act.put, hv1, List.setIfInBounds_toArray, List.set_cons_zero, List.set_cons_succ, Nat.zero_add, Nat.reduceAdd]
    rw [hv1] at h16
    have HO1 := hid h16
    rename_i Kk hKk
    refine hKk _ _ ?_
    obtain ⟨w1, hw1⟩ : ∃ x, x = wv := ⟨_, rfl⟩
    subst hw1
    clear hKk Kk hv1 h16
    have HR1 := hid (HR.out.mono hR)
    have HQ1 := hid (HQ.out.mono hR)
    have G1 := hid (gr_trans G0.out hR)
    have hsW := hR.size
    have k4 := HR1.out.at 4 (by simp)
    simp only [List.getElem_cons_succ, List.getElem_cons_zero] at k4
    rw [HL12.out] at HO1 ⊢
    clear hR K0 K1 K2 K3
    go_wp2_with fail
    refine (bput_new _ b12 4 _ rfl (by omega) [tsn] w1 _ 1 rfl rfl HO1.out.rd (by simp; omega) (by simp) (by simp) (by rw [HL12.out]; omega)).mono ?_
    rintro e w2 ⟨v2, rfl, ho2, hb2⟩
    rw [HB16.out] at ho2
    have HO2 := hid ho2
    have HR2 := hid (HR1.out.mono hb2)
    have HQ2 := hid (HQ1.out.mono hb2)
    have G2 := hid (gr_trans G1.out hb2)
    obtain ⟨p2, c2, rfl, -, -, -, -⟩ := ho2.rd
    have hs2 := hb2.size
    rw [HL16.out] at HO2 ⊢
    have k5 := HR2.out.at 5 (by simp)
    simp only [List.getElem_cons_succ, List.getElem_cons_zero] at k5
    clear ho2 hb2 k4
    by_cases hk2 : kind = 2
    · subst hk2
      rw [if_pos rfl] at HBL
      go_wp2_with fail
      refine (bput_new _ b16 2 _ rfl (by omega) [7, 4 + n] w2 _ 2 (by simp) rfl HO2.out.rd (by simp; omega) (by simp) (by simp) (by rw [HL16.out]; omega)).mono ?_
      rintro e w3 ⟨v3, rfl, ho3, hb3⟩
      rw [HB20.out] at ho3
      have HO3 := hid ho3
      have HR3 := hid (HR2.out.mono hb3)
      have HQ3 := hid (HQ2.out.mono hb3)
      have G3 := hid (gr_trans G2.out hb3)
      obtain ⟨p3, c3, rfl, -, -, -, -⟩ := ho3.rd
      have hs3 := hb3.size
      rw [HL20.out] at HO3 ⊢
      have k6 := HR3.out.at 5 (by simp)
      simp only [List.getElem_cons_succ, List.getElem_cons_zero] at k6
      clear ho3 hb3 k5
      go_wp2_with (at_builtin; refine wpList_append_Own rfl (.tmp 38) (.tmp 40) 25 rfl w2.heap.size 5 Tryd.underlying25 infoU8 _ _ b20 b rfl HO3.out rfl (HV.out.mono G3.out) (by rw [HL20.out, ← HN.out]; omega) hs3 ?_)
      intro v4 w4 ho4 hg4
      have hq3 := HQ3.out.lt
      have hlw := HR3.out.lt
      have hq2 := HQ2.out.lt
      have HQ4 := hid (HQ3.out.grown hg4 (fun e => by have := HO3.out.ge _ e; omega))
      have G4 := hid (show Below w.heap.size w w4 from G3.out.grown hg4 G3.out.size (fun k hk => Nat.le_trans G2.out.size (HO3.out.ge k hk)))
      obtain ⟨p4, c4, rfl, -, -, -, -⟩ := ho4.rd
      have HO4 := hid ho4
      have HLT := hid (show (b20 ++ b).length = 20 + n by rw [List.length_append, HL20.out, HN.out])
      obtain ⟨bb, hbb⟩ : ∃ x, x = b20 ++ b := ⟨_, rfl⟩
      have HBB := hid hbb
      rw [← hbb] at HLT HO4 ⊢
      have h4s := hg4.size
      rw [HLT.out] at HO4 ⊢
      clear ho4 hg4 k6 hbb
      go_wp2_with fail
      refine (pad_any _ bb _ HO4.out.rd (by rw [HLT.out]; omega)).mono ?_
      rintro e w5 ⟨v5, rfl, ho5, hb5⟩
      have HO5 := hid ho5
      have HQ5 := hid (HQ4.out.mono hb5)
      have G5 := hid (gr_trans G4.out hb5)
      obtain ⟨p5, c5, rfl, -, -, -, -⟩ := ho5.rd
      obtain ⟨pd, hpd⟩ : ∃ x, x = padded bb := ⟨_, rfl⟩
      have HPD := hid hpd
      rw [← hpd] at HO5 ⊢
      have hq4 := HQ4.out.lt
      clear ho5 hb5 hpd
      obtain ⟨q0, q1, q2⟩ := HQ5.out.three
      have f0 := HQ5.out.frozen 0
      have f1 := HQ5.out.frozen 1
      have f2 := HQ5.out.frozen 2
      go_wp2_with fail
      refine putInit_ret (.int .u8 2) (.int .u8 0) _ rfl rfl (((HQ5.out.store 0 _).store 1 _).store 2 _) ⟨_, rfl, ?_, ((G5.out.setCell (by simp) _).setCell (by simp) _).setCell (by simp) _⟩
      show Own _ _ _ _ bl
      rw [HBL.out, ← HBB.out, ← HPD.out]
      exact (HO5.out.keep (r := some (w.heap.size + 1)) (gb_set (gb_set (gb_set (gb_refl _ _) 0 _) 1 _) 2 _) (fun k hk e => by have := HO5.out.ge k hk; simp at e; omega)).base (show w.heap.size ≤ w4.heap.size by omega)
    · rw [if_neg hk2] at HBL
      have hkn : ((kind.toNat : Int) == 2) = false := by
        rw [beq_eq_false_iff_ne, ne_eq]
        intro h
        exact hk2 (by rw [← UInt8.toNat_inj]; have h3 : kind.toNat = 2 := by omega
                      exact h3)
      have HQ2' := hid HQ2.out
      obtain ⟨q0, q1, q2⟩ := HQ2.out.three
      have f0 := HQ2.out.frozen 0
      have f1 := HQ2.out.frozen 1
      have f2 := HQ2.out.frozen 2
      go_wp2_with fail
      refine putInit_ret (.int .u8 (kind.toNat : Int)) (.int .u8 0) _ rfl rfl (((HQ2.out.store 0 _).store 1 _).store 2 _) ⟨_, rfl, ?_, ((G2.out.setCell (by simp) _).setCell (by simp) _).setCell (by simp) _⟩
      show Own _ _ _ _ bl
      rw [HBL.out]
      exact (HO2.out.keep (r := some (w.heap.size + 1)) (gb_set (gb_set (gb_set (gb_refl _ _) 0 _) 1 _) 2 _) (fun k hk e => by have := HO2.out.ge k hk; simp at e; omega)).base (show w.heap.size ≤ w1.heap.size by omega)

set_option maxRecDepth 20000 in
set_option maxHeartbeats 1000000 in
theorem getInit1_any (k f : UInt8) (s : Value) (v : Value) (d : InitD) (hw : d.wf) (gc : Nat) (w : World) (h : InitAt w v d) (hl : d.ck.length ≤ 1000000) (hc : RowV w gc 47 [.int .u8 (k.toNat : Int), .int .u8 (f.toNat : Int), s]) :
    Calls Tryd.prog 76 #[v, .pointer (some ⟨gc, 0, none⟩)] w (RetChk w 5 (d.chk k)) := by
  have HI := hid h
  have HWF := hid hw
  obtain ⟨sx, rfl, hrd⟩ := h
  obtain ⟨p, n, c, rfl⟩ := hrd.form
  have HIN := hid (fun (wx : World) (h : InitAt wx (.agg #[.int .u32 (d.tag : Int), .int .u32 (d.rwnd : Int), .int .u16 (d.out : Int), .int .u16 (d.in_ : Int), .int .u32 (d.tsn : Int), .slice p n c]) d) => putInit_any k _ d HWF.out wx h hl)
  obtain ⟨bl, hbl⟩ : ∃ x, x = d.body k := ⟨_, rfl⟩
  show Calls _ _ _ _ (RetChk w 5 ⟨k, 0, d.body k⟩)
  have HIN2 := hid (show ∀ (wx : World) (h : InitAt wx (.agg #[.int .u32 (d.tag : Int), .int .u32 (d.rwnd : Int), .int .u16 (d.out : Int), .int .u16 (d.in_ : Int), .int .u32 (d.tsn : Int), .slice p n c]) d), Calls Tryd.prog 41 #[.int .u8 (k.toNat : Int), .agg #[.int .u32 (d.tag : Int), .int .u32 (d.rwnd : Int), .int .u16 (d.out : Int), .int .u16 (d.in_ : Int), .int .u32 (d.tsn : Int), .slice p n c]] wx (RetChk wx 5 ⟨k, 0, bl⟩) by rw [hbl]; exact HIN.out)
  rw [← hbl]
  clear hrd HIN hbl hw HWF
  obtain ⟨W0, hW0⟩ : ∃ W0, W0 = w.alloc (.cells #[.int .u32 (d.tag : Int), .int .u32 (d.rwnd : Int), .int .u16 (d.out : Int), .int .u16 (d.in_ : Int), .int .u32 (d.tsn : Int), .slice p n c] 31 (0, 0)) := ⟨_, rfl⟩
  have hs0 : W0.heap.size = w.heap.size + 1 := by rw [hW0]; simp
  obtain ⟨W, hW⟩ : ∃ W, W = W0.alloc (.cells #[.int .u8 0, .int .u8 0, .slice none 0 0] 47 (0, 0)) := ⟨_, rfl⟩
  have HR := hid (show RowV W w.heap.size 31 [.int .u32 (d.tag : Int), .int .u32 (d.rwnd : Int), .int .u16 (d.out : Int), .int .u16 (d.in_ : Int), .int .u32 (d.tsn : Int), .slice p n c] by rw [hW, hW0]; exact (RowV.new w 31 _).alloc _)
  have HQ := hid (show RowV W (w.heap.size + 1) 47 [.int .u8 0, .int .u8 0, .slice none 0 0] by rw [hW, ← hs0]; exact RowV.new W0 47 _)
  have G0 := hid (show Below w.heap.size w W by rw [hW, hW0]; exact ((Below.refl _ _).alloc (Nat.le_refl _) _).alloc (by simp) _)
  have c0 : W.cell? ⟨gc, 0, none⟩ = some (.int .u8 (k.toNat : Int)) := (hc.mono G0.out).at 0 (by simp)
  have i0 := HR.out.at 0 (by simp)
  have i1 := HR.out.at 1 (by simp)
  have i2 := HR.out.at 2 (by simp)
  have i3 := HR.out.at 3 (by simp)
  have i4 := HR.out.at 4 (by simp)
  have i5 := HR.out.at 5 (by simp)
  simp only [List.getElem_cons_succ, List.getElem_cons_zero] at i0 i1 i2 i3 i4 i5
  rw [hW0] at hW
  have HE := hid hW
  rw [hW] at c0 i0 i1 i2 i3 i4 i5
  clear hW hW0 hs0
  go_enter Tryd.func76, Tryd.ntmps76
  go_wp2_with fail
  rw [← HE.out]
  refine (HIN2.out _ (HI.out.mono G0.out)).mono ?_
  rintro e w1 ⟨v1, rfl, ho1, hb1⟩
  have HO1 := hid ho1
  simp only at ho1
  obtain ⟨p1, c1, rfl, -, -, -, -⟩ := ho1.rd
  have HQ1 := hid (HQ.out.mono hb1)
  have G1 := hid (gr_trans G0.out hb1)
  have hsz := G0.out.size
  have hq := HQ.out.lt
  obtain ⟨q0, q1, q2⟩ := HQ1.out.three
  have f0 := HQ1.out.frozen 0
  have f1 := HQ1.out.frozen 1
  have f2 := HQ1.out.frozen 2
  clear ho1 hb1 c0 i0 i1 i2 i3 i4 i5
  go_wp2_with fail
  refine getInit1_ret (.int .u8 (k.toNat : Int)) (.int .u8 0) _ rfl rfl (((HQ1.out.store 0 _).store 1 _).store 2 _) ⟨_, rfl, ?_, ((G1.out.setCell (by simp) _).setCell (by simp) _).setCell (by simp) _⟩
  exact (HO1.out.keep (r := some (w.heap.size + 1)) (gb_set (gb_set (gb_set (gb_refl _ _) 0 _) 1 _) 2 _) (fun k hk e => by have := HO1.out.ge k hk; simp at e; omega)).base hsz
end Go.Proofs.YtiimlanbbfhkjaaDoor






namespace Go.FL

open Go.RowKit

def InitD.vals (d : InitD) (s : Value) : Value := .agg #[.int .u32 (d.tag : Int), .int .u32 (d.rwnd : Int), .int .u16 (d.out : Int), .int .u16 (d.in_ : Int), .int .u32 (d.tsn : Int), s]
def initB (i : InitD) : Bool := decide (i.tag ≠ 0) && decide (i.out ≠ 0) && decide (i.in_ ≠ 0)
def initMay (c : Chk) : Bool := initB (initOf c) && (decide (c.k = 1) || (decide (c.k = 2) && decide (0 < (initOf c).ck.length)))
def initGet (c : Chk) : InitD × Int := if initMay c = true ∧ (initOf c).chk c.k = c then (initOf c, 0) else (.zero, 7)
theorem int_ne (n : Nat) : ((n : Int) != 0) = decide (n ≠ 0) := by
  rw [Bool.eq_iff_iff]
  simp
end Go.FL

namespace Go.Proofs.YtiimlanbbfhkjaaDoor

open Go.RowKit Go.FL Go.ChangeShapes

theorem getInit_ret {a : Act} {W : World} {g : Nat} {R : Ending → World → Prop} (v0 v1 v2 v3 v4 v5 : Value) (er : Int) (h2 : a.tmps.getD 2 undef = .pointer (some ⟨g, 0, none⟩)) (h3 : a.tmps.getD 3 undef = .int .i64 er) (hd : a.defers = [])
    (hc : RowV W g 31 [v0, v1, v2, v3, v4, v5]) (hR : R (.returned (.tuple #[.agg #[v0, v1, v2, v3, v4, v5], .int .i64 er])) W) : bodyPost Tryd.prog Tryd.f64 R .ret a W := by
  refine bodyPost_ret (v := .tuple #[.agg #[v0, v1, v2, v3, v4, v5], .int .i64 er]) ?_ hd hR
  obtain ⟨c0, c1, c2, c3, c4, c5, -⟩ := rowInit hc
  simp only [Array.getD_eq_getD_getElem?] at h2 h3
  simp [results, Tryd.results64, go_sem, h2, h3, asAddr, c0, c1, c2, c3, c4, c5]

set_option maxRecDepth 100000 in
set_option maxHeartbeats 8000000 in
theorem getInit_any (v : Value) (ch : Chk) (w : World) (h : ChkV w v ch) (hl : ch.b.length ≤ 1000000) :
    Calls Tryd.prog 64 #[v] w fun e w' => ∃ s, e = .returned (.tuple #[(initGet ch).1.vals s, .int .i64 (initGet ch).2]) ∧ Own w' w.heap.size 5 s (initGet ch).1.ck ∧ Below w.heap.size w w' := by
  obtain ⟨s, rfl, hrd⟩ := h
  have HV := hid hrd
  obtain ⟨p, c, rfl, hlc, hcm, hpn, hcell⟩ := hrd
  unfold maxLen at hcm
  clear hcell
  obtain ⟨kc, fc, bc⟩ := ch
  simp only at *
  have hn0 := numAt_lt bc 0 4
  have hn1 := numAt_lt bc 4 4
  have hn2 := numAt_lt bc 8 2
  have hn3 := numAt_lt bc 10 2
  have hn4 := numAt_lt bc 12 4
  have hn6 := numAt_lt bc 18 2
  have HDO0 := hid (show initOf ⟨kc, fc, bc⟩ = ⟨numAt bc 0 4, numAt bc 4 4, numAt bc 8 2, numAt bc 10 2, numAt bc 12 4, if kc = 2 then cutAt bc 20 ((numAt bc 18 2 : Int) - 4) else []⟩ from rfl)
  obtain ⟨x0, hx0⟩ : ∃ x, x = numAt bc 0 4 := ⟨_, rfl⟩
  obtain ⟨x1, hx1⟩ : ∃ x, x = numAt bc 4 4 := ⟨_, rfl⟩
  obtain ⟨x2, hx2⟩ : ∃ x, x = numAt bc 8 2 := ⟨_, rfl⟩
  obtain ⟨x3, hx3⟩ : ∃ x, x = numAt bc 10 2 := ⟨_, rfl⟩
  obtain ⟨x4, hx4⟩ : ∃ x, x = numAt bc 12 4 := ⟨_, rfl⟩
  obtain ⟨x6, hx6⟩ : ∃ x, x = numAt bc 18 2 := ⟨_, rfl⟩
  rw [← hx0, ← hx1, ← hx2, ← hx3, ← hx4, ← hx6] at HDO0
  rw [← hx0] at hn0
  rw [← hx1] at hn1
  rw [← hx2] at hn2
  rw [← hx3] at hn3
  rw [← hx4] at hn4
  rw [← hx6] at hn6
  have HX0 := hid hx0
  have HX1 := hid hx1
  have HX2 := hid hx2
  have HX3 := hid hx3
  have HX4 := hid hx4
  have HX6 := hid hx6
  obtain ⟨res, hres⟩ : ∃ r, r = initGet ⟨kc, fc, bc⟩ := ⟨_, rfl⟩
  rw [← hres]
  have HRES := hid hres
  clear hx0 hx1 hx2 hx3 hx4 hx6 hres
  have hw0 : IntKind.u32.wrap (x0 : Int) = (x0 : Int) := by rw [wrap_u32_lt]; omega
  have hw1 : IntKind.u32.wrap (x1 : Int) = (x1 : Int) := by rw [wrap_u32_lt]; omega
  have hw2 : IntKind.u16.wrap (x2 : Int) = (x2 : Int) := by rw [IntKind.wrap_u16]; omega
  have hw3 : IntKind.u16.wrap (x3 : Int) = (x3 : Int) := by rw [IntKind.wrap_u16]; omega
  have hw4 : IntKind.u32.wrap (x4 : Int) = (x4 : Int) := by rw [wrap_u32_lt]; omega
  have hw6 : IntKind.i64.wrap (x6 : Int) = (x6 : Int) := by rw [IntKind.wrap_i64]; omega
  obtain ⟨Wa, hWa⟩ : ∃ W0, W0 = w.alloc (.cells #[.int .u8 (kc.toNat : Int), .int .u8 (fc.toNat : Int), .slice p bc.length c] 47 (0, 0)) := ⟨_, rfl⟩
  have hsa : Wa.heap.size = w.heap.size + 1 := by rw [hWa]; simp
  obtain ⟨Wb, hWb⟩ : ∃ W0, W0 = Wa.alloc (.cells #[.int .u32 0, .int .u32 0, .int .u16 0, .int .u16 0, .int .u32 0, .slice none 0 0] 31 (0, 0)) := ⟨_, rfl⟩
  have hsb : Wb.heap.size = w.heap.size + 2 := by rw [hWb]; simp [hsa]
  obtain ⟨W, hW⟩ : ∃ W, W = Wb.alloc (.cells #[(.slice p bc.length c), .int .i64 0] 119 (0, 0)) := ⟨_, rfl⟩
  have HC0 := hid (show RowV W w.heap.size 47 [.int .u8 (kc.toNat : Int), .int .u8 (fc.toNat : Int), .slice p bc.length c] by rw [hW, hWb, hWa]; exact ((RowV.new w 47 _).alloc _).alloc _)
  have HT0 := hid (show RowV W (w.heap.size + 1) 31 [.int .u32 0, .int .u32 0, .int .u16 0, .int .u16 0, .int .u32 0, .slice none 0 0] by rw [hW, hWb, ← hsa]; exact (RowV.new Wa 31 _).alloc _)
  have HJ0 := hid (show RdrAt (w.heap.size + 2) (.slice p bc.length c) 0 W by rw [hW, ← hsb]; exact RowV.new Wb 119 _)
  have G0 := hid (show Below w.heap.size w W by rw [hW, hWb, hWa]; exact (((Below.refl _ _).alloc (Nat.le_refl _) _).alloc (by simp) _).alloc (by simp; omega) _)
  have hs1 : W.heap.size = w.heap.size + 3 := by rw [hW]; simp [hsb]
  rw [hWb, hWa] at hW
  have HE := hid hW
  clear hW hWa hWb hsa hsb
  have hkb := byte_lt kc
  have hfb := byte_lt fc
  have hk1 := kind_eq kc 1 1 rfl
  have hk2 := kind_eq kc 2 2 rfl
  go_enter Tryd.func64, Tryd.ntmps64
  go_wp2_with fail
  rw [← HE.out]
  refine (btake_any _ _ bc 0 4 _ rfl (by omega) _ HJ0.out (HV.out.mono G0.out) (by omega)).mono ?_
  rw [← HX0.out]
  rintro e w1 ⟨rfl, hj, hg⟩
  have HC1 := hid (HC0.out.grown hg (fun e => by simp at e))
  have HT1 := hid (HT0.out.grown hg (fun e => by simp at e))
  have HJ1 := hid hj
  have G1 := hid (show Below w.heap.size w w1 from G0.out.trans (gb_below hg (by omega) (by omega)))
  have hsz1 := hg.size
  clear hj hg
  go_wp2_with fail
  refine (btake_any _ _ bc 4 4 _ rfl (by omega) _ HJ1.out (HV.out.mono G1.out) (by omega)).mono ?_
  rw [← HX1.out]
  rintro e w2 ⟨rfl, hj, hg⟩
  have HC2 := hid (HC1.out.grown hg (fun e => by simp at e))
  have HT2 := hid (HT1.out.grown hg (fun e => by simp at e))
  have HJ2 := hid hj
  have G2 := hid (show Below w.heap.size w w2 from G1.out.trans (gb_below hg (by omega) (by omega)))
  have hsz2 := hg.size
  clear hj hg
  go_wp2_with fail
  refine (btake_any _ _ bc 8 2 _ rfl (by omega) _ HJ2.out (HV.out.mono G2.out) (by omega)).mono ?_
  rw [← HX2.out]
  rintro e w3 ⟨rfl, hj, hg⟩
  have HC3 := hid (HC2.out.grown hg (fun e => by simp at e))
  have HT3 := hid (HT2.out.grown hg (fun e => by simp at e))
  have HJ3 := hid hj
  have G3 := hid (show Below w.heap.size w w3 from G2.out.trans (gb_below hg (by omega) (by omega)))
  have hsz3 := hg.size
  clear hj hg
  go_wp2_with fail
  refine (btake_any _ _ bc 10 2 _ rfl (by omega) _ HJ3.out (HV.out.mono G3.out) (by omega)).mono ?_
  rw [← HX3.out]
  rintro e w4 ⟨rfl, hj, hg⟩
  have HC4 := hid (HC3.out.grown hg (fun e => by simp at e))
  have HT4 := hid (HT3.out.grown hg (fun e => by simp at e))
  have HJ4 := hid hj
  have G4 := hid (show Below w.heap.size w w4 from G3.out.trans (gb_below hg (by omega) (by omega)))
  have hsz4 := hg.size
  clear hj hg
  go_wp2_with fail
  refine (btake_any _ _ bc 12 4 _ rfl (by omega) _ HJ4.out (HV.out.mono G4.out) (by omega)).mono ?_
  rw [← HX4.out]
  rintro e w5 ⟨rfl, hj, hg⟩
  have HC5 := hid (HC4.out.grown hg (fun e => by simp at e))
  have HT5 := hid (HT4.out.grown hg (fun e => by simp at e))
  have HJ5 := hid hj
  have G5 := hid (show Below w.heap.size w w5 from G4.out.trans (gb_below hg (by omega) (by omega)))
  have hsz5 := hg.size
  clear hj hg
  obtain ⟨W6, hW6⟩ : ∃ W3, W3 = w5.alloc (.cells #[.int .u32 (x0 : Int), .int .u32 (x1 : Int), .int .u16 (x2 : Int), .int .u16 (x3 : Int), .int .u32 (x4 : Int), .slice none 0 0] 31 (0, 0)) := ⟨_, rfl⟩
  have g6 : Below w5.heap.size w5 W6 := by rw [hW6]; exact (Below.refl _ _).alloc (Nat.le_refl _) _
  have hs6 : W6.heap.size = w5.heap.size + 1 := by rw [hW6]; simp
  have HC6 := hid (HC5.out.mono g6)
  have HT6 := hid (HT5.out.mono g6)
  have HJ6 := hid (show RdrAt (w.heap.size + 2) (.slice p bc.length c) 16 W6 from RowV.mono HJ5.out g6)
  have HF6 := hid (show RowV W6 w5.heap.size 31 [.int .u32 (x0 : Int), .int .u32 (x1 : Int), .int .u16 (x2 : Int), .int .u16 (x3 : Int), .int .u32 (x4 : Int), .slice none 0 0] by rw [hW6]; exact RowV.new w5 31 _)
  have G6 := hid (gr_trans G5.out g6)
  have HE6 := hid hW6
  obtain ⟨h, hh⟩ : ∃ h, h = w5.heap.size := ⟨_, rfl⟩
  obtain ⟨mb, hmb⟩ : ∃ b, b = (decide (x0 ≠ 0) && decide (x2 ≠ 0) && decide (x3 ≠ 0)) := ⟨_, rfl⟩
  have HMB := hid hmb
  have hi0 := int_ne x0
  have hi2 := int_ne x2
  have hi3 := int_ne x3
  obtain ⟨k0, k1, k2⟩ := HC6.out.three
  rw [hW6] at k0 k1 k2
  clear hmb hW6 g6
  go_upto_region 3 with fail
  go_cut [6] from 27 (fun s6 wx => s6 = .bool mb ∧ wx = w5.alloc (.cells #[.int .u32 (x0 : Int), .int .u32 (x1 : Int), .int .u16 (x2 : Int), .int .u16 (x3 : Int), .int .u32 (x4 : Int), .slice none 0 0] 31 (0, 0)))
  case first =>
    by_cases q0 : x0 = 0
    · rw [show decide (x0 ≠ 0) = false by simp [q0]] at hi0
      clear q0
      go_wp2_with fail
      go_meet
      exact ⟨by rw [HMB.out]; simp_all, rfl⟩
    · rw [show decide (x0 ≠ 0) = true by simp [q0]] at hi0
      by_cases q2 : x2 = 0
      · rw [show decide (x2 ≠ 0) = false by simp [q2]] at hi2
        clear q0 q2
        go_wp2_with fail
        go_meet
        exact ⟨by rw [HMB.out]; simp_all, rfl⟩
      · rw [show decide (x2 ≠ 0) = true by simp [q2]] at hi2
        have HQ0 := hid q0
        have HQ2 := hid q2
        clear q0 q2
        go_wp2_with fail
        go_meet
        exact ⟨by rw [HMB.out, decide_eq_true HQ0.out, decide_eq_true HQ2.out]; simp, rfl⟩
  case rest =>
    obtain ⟨rfl, rfl⟩ := hcut
    clear k0 k1 k2 hi0 hi2 hi3
    by_cases e1 : kc = 1
    · have e2 : kc ≠ 2 := by rw [e1]; decide
      rw [decide_eq_true e1] at hk1
      have HDO := hid (show initOf ⟨kc, fc, bc⟩ = ⟨x0, x1, x2, x3, x4, []⟩ by rw [HDO0.out, if_neg e2])
      have HMAY := hid (show initMay ⟨kc, fc, bc⟩ = mb by unfold initMay; rw [HDO.out, HMB.out]; simp [initB, e1])
      have HC9 := hid HC6.out
      have HT9 := hid HT6.out
      have HF9 := hid HF6.out
      have G9 := hid G6.out
      clear hk2 e1 e2
      obtain ⟨k0, k1, k2⟩ := HC9.out.three
      obtain ⟨i0, i1, i2, i3, i4, i5, -⟩ := rowInit HF9.out
      rw [HE6.out] at k0 k1 k2 i0 i1 i2 i3 i4 i5
      go_wp2_with fail
      clear k0 k1 k2 i0 i1 i2 i3 i4 i5
      rw [← HE6.out]
      refine (bgetInit_any x0 x1 x2 x3 x4 none 0 0 w.heap.size kc fc _ bc mb _ (HV.out.mono G9.out) (InitD.chk kc ⟨x0, x1, x2, x3, x4, []⟩) (fun wx hbx => getInit1_any kc fc _ _ ⟨x0, x1, x2, x3, x4, []⟩ ⟨hn0, hn1, hn2, hn3, hn4⟩ w.heap.size wx ⟨_, rfl, Rd.nil _⟩ (by show List.length ([] : List UInt8) ≤ _; simp) (HC9.out.mono hbx))).mono ?_
      rintro e wA ⟨rfl, hbA⟩
      have HTA := hid (HT9.out.mono hbA)
      have GA := hid (gr_trans G9.out hbA)
      clear hbA
      obtain ⟨jj0, jj1, jj2, jj3, jj4, jj5, -⟩ := rowInit HTA.out
      have y0 := HTA.out.frozen 0
      have y1 := HTA.out.frozen 1
      have y2 := HTA.out.frozen 2
      have y3 := HTA.out.frozen 3
      have y4 := HTA.out.frozen 4
      have y5 := HTA.out.frozen 5
      by_cases hq : mb = true ∧ InitD.chk kc ⟨x0, x1, x2, x3, x4, []⟩ = ⟨kc, fc, bc⟩
      · have HRS := hid (show res = (⟨x0, x1, x2, x3, x4, []⟩, 0) by rw [HRES.out, initGet, HDO.out, HMAY.out]; exact if_pos hq)
        rw [if_pos hq]
        clear hq
        go_wp2_with fail
        refine getInit_ret (.int .u32 (x0 : Int)) (.int .u32 (x1 : Int)) (.int .u16 (x2 : Int)) (.int .u16 (x3 : Int)) (.int .u32 (x4 : Int)) (.slice none 0 0) 0 rfl rfl rfl ((((((HTA.out.store 0 (.int .u32 (x0 : Int))).store 1 (.int .u32 (x1 : Int))).store 2 (.int .u16 (x2 : Int))).store 3 (.int .u16 (x3 : Int))).store 4 (.int .u32 (x4 : Int))).store 5 (.slice none 0 0)) ⟨.slice none 0 0, by rw [HRS.out]; rfl, ?_, ((((((GA.out.setCell (by simp; try omega) _).setCell (by simp; try omega) _).setCell (by simp; try omega) _).setCell (by simp; try omega) _).setCell (by simp; try omega) _).setCell (by simp; try omega) _)⟩
        rw [HRS.out]
        exact Own.nil _ _ _
      · have HRS := hid (show res = (.zero, 7) by rw [HRES.out, initGet, HDO.out, HMAY.out]; exact if_neg hq)
        rw [if_neg hq]
        clear hq
        go_wp2_with fail
        refine getInit_ret (.int .u32 0) (.int .u32 0) (.int .u16 0) (.int .u16 0) (.int .u32 0) (.slice none 0 0) 7 rfl rfl rfl ((((((HTA.out.store 0 (.int .u32 0)).store 1 (.int .u32 0)).store 2 (.int .u16 0)).store 3 (.int .u16 0)).store 4 (.int .u32 0)).store 5 (.slice none 0 0)) ⟨.slice none 0 0, by rw [HRS.out]; rfl, ?_, ((((((GA.out.setCell (by simp; try omega) _).setCell (by simp; try omega) _).setCell (by simp; try omega) _).setCell (by simp; try omega) _).setCell (by simp; try omega) _).setCell (by simp; try omega) _)⟩
        rw [HRS.out]
        exact Own.nil _ _ _
    · rw [decide_eq_false e1] at hk1
      by_cases e2 : kc = 2
      · rw [decide_eq_true e2] at hk2
        obtain ⟨ck, hck⟩ : ∃ l, l = cutAt bc 20 ((x6 : Int) - 4) := ⟨_, rfl⟩
        have HCK := hid hck
        have HDO := hid (show initOf ⟨kc, fc, bc⟩ = ⟨x0, x1, x2, x3, x4, ck⟩ by rw [HDO0.out, if_pos e2, hck])
        have HCL0 := hid (show ck.length ≤ bc.length by rw [hck]; exact cutAt_len _ _ _)
        obtain ⟨nck, hnc⟩ : ∃ n, n = ck.length := ⟨_, rfl⟩
        have HCL := hid (show ck.length = nck from hnc.symm)
        have hnck : nck ≤ 1000000 := by rw [hnc]; have := HCL0.out; omega
        have HMAY0 := hid (show initMay ⟨kc, fc, bc⟩ = (mb && decide (0 < nck)) by unfold initMay; rw [HDO.out, HMB.out, hnc]; simp [initB, e2])
        clear hck hnc e1 e2
        obtain ⟨k0, k1, k2⟩ := HC6.out.three
        rw [HE6.out] at k0 k1 k2
        rw [← hh] at HF6 ⊢
        have hhl : w.heap.size + 3 ≤ h := by omega
        have hhu : h < W6.heap.size := by omega
        clear hh
        go_wp2_with fail
        rw [← HE6.out]
        clear k0 k1 k2
        refine (btake_any _ _ bc 16 2 _ rfl (by omega) _ HJ6.out (HV.out.mono G6.out) (by omega)).mono ?_
        rintro e w7 ⟨rfl, hj7, hg7⟩
        have HC7 := hid (HC6.out.grown hg7 (fun e => by simp at e))
        have HT7 := hid (HT6.out.grown hg7 (fun e => by simp at e))
        have HF7 := hid (HF6.out.grown hg7 (fun e => by simp at e; omega))
        have HJ7 := hid hj7
        have G7 := hid (show Below w.heap.size w w7 from G6.out.trans (gb_below hg7 (by omega) (by omega)))
        have hsz7 := hg7.size
        generalize numAt bc 16 2 = xj at *
        clear hj7 hg7
        go_wp2_with fail
        refine (btake_any _ _ bc 18 2 _ rfl (by omega) _ HJ7.out (HV.out.mono G7.out) (by omega)).mono ?_
        rw [← HX6.out]
        rintro e w8 ⟨rfl, hj8, hg8⟩
        have HC8 := hid (HC7.out.grown hg8 (fun e => by simp at e))
        have HT8 := hid (HT7.out.grown hg8 (fun e => by simp at e))
        have HF8 := hid (HF7.out.grown hg8 (fun e => by simp at e; omega))
        have HJ8 := hid hj8
        have G8 := hid (show Below w.heap.size w w8 from G7.out.trans (gb_below hg8 (by omega) (by omega)))
        have hsz8 := hg8.size
        clear hj8 hg8
        go_wp2_with fail
        refine (brest_any _ _ bc 20 ((x6 : Int) - 4) (wf_i64 (by omega) (by omega)) _ HJ8.out (HV.out.mono G8.out) (by omega) (by omega)).mono ?_
        rw [← HCK.out]
        rintro e wr ⟨vr, rfl, hor, hjr, hgr⟩
        have HCr := hid (HC8.out.grown hgr (fun e => by simp at e))
        have HTr := hid (HT8.out.grown hgr (fun e => by simp at e))
        have HFr := hid (HF8.out.grown hgr (fun e => by simp at e; omega))
        have hltf := HF8.out.lt
        have Gr := hid (show Below w.heap.size w wr from G8.out.trans (gb_below hgr (by omega) (by omega)))
        have hszr := hgr.size
        obtain ⟨pr, cr, rfl, hlr, hmr, -, -⟩ := hor.rd
        unfold maxLen at hmr
        have HOr := hid hor
        rw [HCL.out] at HOr hlr ⊢
        clear hor hjr hgr
        have t5 := HFr.out.at 5 (by simp)
        have u5 := HFr.out.frozen 5
        simp only [List.getElem_cons_succ, List.getElem_cons_zero] at t5
        obtain ⟨w9, hw9⟩ : ∃ x, x = wr.setCell ⟨h, 5, none⟩ (.slice pr nck cr) := ⟨_, rfl⟩
        have HF9 := hid (show RowV w9 h 31 [.int .u32 (x0 : Int), .int .u32 (x1 : Int), .int .u16 (x2 : Int), .int .u16 (x3 : Int), .int .u32 (x4 : Int), .slice pr nck cr] by rw [hw9]; exact HFr.out.store 5 _)
        have g9 : wr.grownBy w9 (some h) := by rw [hw9]; exact gb_set (gb_refl _ _) 5 _
        have HC9 := hid (HCr.out.grown g9 (fun e => by simp at e; omega))
        have HT9 := hid (HTr.out.grown g9 (fun e => by simp at e; omega))
        have HI9 := hid (HOr.out.keep g9 (fun k hk e => by have := HOr.out.ge k hk; simp at e; omega))
        have G9 := hid (show Below w.heap.size w w9 from Gr.out.trans (gb_below g9 (by omega) Gr.out.size))
        have HE9 := hid hw9
        clear g9 hw9
        cases mb
        · have HMAY := hid (show initMay ⟨kc, fc, bc⟩ = false by rw [HMAY0.out]; rfl)
          obtain ⟨k0, k1, k2⟩ := HC9.out.three
          obtain ⟨i0, i1, i2, i3, i4, i5, -⟩ := rowInit HF9.out
          rw [HE9.out] at k0 k1 k2 i0 i1 i2 i3 i4 i5
          go_wp2_with fail
          clear k0 k1 k2 i0 i1 i2 i3 i4 i5
          rw [← HE9.out]
          refine (bgetInit_any x0 x1 x2 x3 x4 pr nck cr w.heap.size kc fc _ bc false _ (HV.out.mono G9.out) (InitD.chk kc ⟨x0, x1, x2, x3, x4, ck⟩) (fun wx hbx => getInit1_any kc fc _ _ ⟨x0, x1, x2, x3, x4, ck⟩ ⟨hn0, hn1, hn2, hn3, hn4⟩ w.heap.size wx ⟨_, rfl, HI9.out.rd.mono hbx⟩ (by show List.length (ck : List UInt8) ≤ _; rw [HCL.out]; omega) (HC9.out.mono hbx))).mono ?_
          rintro e wA ⟨rfl, hbA⟩
          have HTA := hid (HT9.out.mono hbA)
          have HIA := hid (HI9.out.mono hbA)
          have GA := hid (gr_trans G9.out hbA)
          clear hbA
          obtain ⟨jj0, jj1, jj2, jj3, jj4, jj5, -⟩ := rowInit HTA.out
          have y0 := HTA.out.frozen 0
          have y1 := HTA.out.frozen 1
          have y2 := HTA.out.frozen 2
          have y3 := HTA.out.frozen 3
          have y4 := HTA.out.frozen 4
          have y5 := HTA.out.frozen 5
          by_cases hq : false = true ∧ InitD.chk kc ⟨x0, x1, x2, x3, x4, ck⟩ = ⟨kc, fc, bc⟩
          · have HRS := hid (show res = (⟨x0, x1, x2, x3, x4, ck⟩, 0) by rw [HRES.out, initGet, HDO.out, HMAY.out]; exact if_pos hq)
            rw [if_pos hq]
            clear hq
            go_wp2_with fail
            refine getInit_ret (.int .u32 (x0 : Int)) (.int .u32 (x1 : Int)) (.int .u16 (x2 : Int)) (.int .u16 (x3 : Int)) (.int .u32 (x4 : Int)) (.slice pr nck cr) 0 rfl rfl rfl ((((((HTA.out.store 0 (.int .u32 (x0 : Int))).store 1 (.int .u32 (x1 : Int))).store 2 (.int .u16 (x2 : Int))).store 3 (.int .u16 (x3 : Int))).store 4 (.int .u32 (x4 : Int))).store 5 (.slice pr nck cr)) ⟨.slice pr nck cr, by rw [HRS.out]; rfl, ?_, ((((((GA.out.setCell (by simp; try omega) _).setCell (by simp; try omega) _).setCell (by simp; try omega) _).setCell (by simp; try omega) _).setCell (by simp; try omega) _).setCell (by simp; try omega) _)⟩
            rw [HRS.out]
            exact (HIA.out.keep (r := some (w.heap.size + 1)) (gb_set (gb_set (gb_set (gb_set (gb_set (gb_set (gb_refl _ _) 0 _) 1 _) 2 _) 3 _) 4 _) 5 _) (fun k hk e => by have := HIA.out.ge k hk; simp at e; omega)).base (show w.heap.size ≤ w8.heap.size by omega)
          · have HRS := hid (show res = (.zero, 7) by rw [HRES.out, initGet, HDO.out, HMAY.out]; exact if_neg hq)
            rw [if_neg hq]
            clear hq
            go_wp2_with fail
            refine getInit_ret (.int .u32 0) (.int .u32 0) (.int .u16 0) (.int .u16 0) (.int .u32 0) (.slice none 0 0) 7 rfl rfl rfl ((((((HTA.out.store 0 (.int .u32 0)).store 1 (.int .u32 0)).store 2 (.int .u16 0)).store 3 (.int .u16 0)).store 4 (.int .u32 0)).store 5 (.slice none 0 0)) ⟨.slice none 0 0, by rw [HRS.out]; rfl, ?_, ((((((GA.out.setCell (by simp; try omega) _).setCell (by simp; try omega) _).setCell (by simp; try omega) _).setCell (by simp; try omega) _).setCell (by simp; try omega) _).setCell (by simp; try omega) _)⟩
            rw [HRS.out]
            exact Own.nil _ _ _
        · have HMAY := hid (show initMay ⟨kc, fc, bc⟩ = decide (0 < nck) by rw [HMAY0.out]; rfl)
          obtain ⟨k0, k1, k2⟩ := HC9.out.three
          obtain ⟨i0, i1, i2, i3, i4, i5, -⟩ := rowInit HF9.out
          rw [HE9.out] at k0 k1 k2 i0 i1 i2 i3 i4 i5
          go_wp2_with fail
          clear k0 k1 k2 i0 i1 i2 i3 i4 i5
          rw [← HE9.out]
          refine (bgetInit_any x0 x1 x2 x3 x4 pr nck cr w.heap.size kc fc _ bc (decide (0 < nck)) _ (HV.out.mono G9.out) (InitD.chk kc ⟨x0, x1, x2, x3, x4, ck⟩) (fun wx hbx => getInit1_any kc fc _ _ ⟨x0, x1, x2, x3, x4, ck⟩ ⟨hn0, hn1, hn2, hn3, hn4⟩ w.heap.size wx ⟨_, rfl, HI9.out.rd.mono hbx⟩ (by show List.length (ck : List UInt8) ≤ _; rw [HCL.out]; omega) (HC9.out.mono hbx))).mono ?_
          rintro e wA ⟨rfl, hbA⟩
          have HTA := hid (HT9.out.mono hbA)
          have HIA := hid (HI9.out.mono hbA)
          have GA := hid (gr_trans G9.out hbA)
          clear hbA
          obtain ⟨jj0, jj1, jj2, jj3, jj4, jj5, -⟩ := rowInit HTA.out
          have y0 := HTA.out.frozen 0
          have y1 := HTA.out.frozen 1
          have y2 := HTA.out.frozen 2
          have y3 := HTA.out.frozen 3
          have y4 := HTA.out.frozen 4
          have y5 := HTA.out.frozen 5
          by_cases hq : (decide (0 < nck)) = true ∧ InitD.chk kc ⟨x0, x1, x2, x3, x4, ck⟩ = ⟨kc, fc, bc⟩
          · have HRS := hid (show res = (⟨x0, x1, x2, x3, x4, ck⟩, 0) by rw [HRES.out, initGet, HDO.out, HMAY.out]; exact if_pos hq)
            rw [if_pos hq]
            clear hq
            go_wp2_with fail
            refine getInit_ret (.int .u32 (x0 : Int)) (.int .u32 (x1 : Int)) (.int .u16 (x2 : Int)) (.int .u16 (x3 : Int)) (.int .u32 (x4 : Int)) (.slice pr nck cr) 0 rfl rfl rfl ((((((HTA.out.store 0 (.int .u32 (x0 : Int))).store 1 (.int .u32 (x1 : Int))).store 2 (.int .u16 (x2 : Int))).store 3 (.int .u16 (x3 : Int))).store 4 (.int .u32 (x4 : Int))).store 5 (.slice pr nck cr)) ⟨.slice pr nck cr, by rw [HRS.out]; rfl, ?_, ((((((GA.out.setCell (by simp; try omega) _).setCell (by simp; try omega) _).setCell (by simp; try omega) _).setCell (by simp; try omega) _).setCell (by simp; try omega) _).setCell (by simp; try omega) _)⟩
            rw [HRS.out]
            exact (HIA.out.keep (r := some (w.heap.size + 1)) (gb_set (gb_set (gb_set (gb_set (gb_set (gb_set (gb_refl _ _) 0 _) 1 _) 2 _) 3 _) 4 _) 5 _) (fun k hk e => by have := HIA.out.ge k hk; simp at e; omega)).base (show w.heap.size ≤ w8.heap.size by omega)
          · have HRS := hid (show res = (.zero, 7) by rw [HRES.out, initGet, HDO.out, HMAY.out]; exact if_neg hq)
            rw [if_neg hq]
            clear hq
            go_wp2_with fail
            refine getInit_ret (.int .u32 0) (.int .u32 0) (.int .u16 0) (.int .u16 0) (.int .u32 0) (.slice none 0 0) 7 rfl rfl rfl ((((((HTA.out.store 0 (.int .u32 0)).store 1 (.int .u32 0)).store 2 (.int .u16 0)).store 3 (.int .u16 0)).store 4 (.int .u32 0)).store 5 (.slice none 0 0)) ⟨.slice none 0 0, by rw [HRS.out]; rfl, ?_, ((((((GA.out.setCell (by simp; try omega) _).setCell (by simp; try omega) _).setCell (by simp; try omega) _).setCell (by simp; try omega) _).setCell (by simp; try omega) _).setCell (by simp; try omega) _)⟩
            rw [HRS.out]
            exact Own.nil _ _ _
      · rw [decide_eq_false e2] at hk2
        have HDO := hid (show initOf ⟨kc, fc, bc⟩ = ⟨x0, x1, x2, x3, x4, []⟩ by rw [HDO0.out, if_neg e2])
        have HMAY := hid (show initMay ⟨kc, fc, bc⟩ = false by unfold initMay; simp [e1, e2])
        have HC9 := hid HC6.out
        have HT9 := hid HT6.out
        have HF9 := hid HF6.out
        have G9 := hid G6.out
        clear e1 e2
        obtain ⟨k0, k1, k2⟩ := HC9.out.three
        obtain ⟨i0, i1, i2, i3, i4, i5, -⟩ := rowInit HF9.out
        rw [HE6.out] at k0 k1 k2 i0 i1 i2 i3 i4 i5
        go_wp2_with fail
        clear k0 k1 k2 i0 i1 i2 i3 i4 i5
        rw [← HE6.out]
        refine (bgetInit_any x0 x1 x2 x3 x4 none 0 0 w.heap.size kc fc _ bc false _ (HV.out.mono G9.out) (InitD.chk kc ⟨x0, x1, x2, x3, x4, []⟩) (fun wx hbx => getInit1_any kc fc _ _ ⟨x0, x1, x2, x3, x4, []⟩ ⟨hn0, hn1, hn2, hn3, hn4⟩ w.heap.size wx ⟨_, rfl, Rd.nil _⟩ (by show List.length ([] : List UInt8) ≤ _; simp) (HC9.out.mono hbx))).mono ?_
        rintro e wA ⟨rfl, hbA⟩
        have HTA := hid (HT9.out.mono hbA)
        have GA := hid (gr_trans G9.out hbA)
        clear hbA
        obtain ⟨jj0, jj1, jj2, jj3, jj4, jj5, -⟩ := rowInit HTA.out
        have y0 := HTA.out.frozen 0
        have y1 := HTA.out.frozen 1
        have y2 := HTA.out.frozen 2
        have y3 := HTA.out.frozen 3
        have y4 := HTA.out.frozen 4
        have y5 := HTA.out.frozen 5
        by_cases hq : false = true ∧ InitD.chk kc ⟨x0, x1, x2, x3, x4, []⟩ = ⟨kc, fc, bc⟩
        · have HRS := hid (show res = (⟨x0, x1, x2, x3, x4, []⟩, 0) by rw [HRES.out, initGet, HDO.out, HMAY.out]; exact if_pos hq)
          rw [if_pos hq]
          clear hq
          go_wp2_with fail
          refine getInit_ret (.int .u32 (x0 : Int)) (.int .u32 (x1 : Int)) (.int .u16 (x2 : Int)) (.int .u16 (x3 : Int)) (.int .u32 (x4 : Int)) (.slice none 0 0) 0 rfl rfl rfl ((((((HTA.out.store 0 (.int .u32 (x0 : Int))).store 1 (.int .u32 (x1 : Int))).store 2 (.int .u16 (x2 : Int))).store 3 (.int .u16 (x3 : Int))).store 4 (.int .u32 (x4 : Int))).store 5 (.slice none 0 0)) ⟨.slice none 0 0, by rw [HRS.out]; rfl, ?_, ((((((GA.out.setCell (by simp; try omega) _).setCell (by simp; try omega) _).setCell (by simp; try omega) _).setCell (by simp; try omega) _).setCell (by simp; try omega) _).setCell (by simp; try omega) _)⟩
          rw [HRS.out]
          exact Own.nil _ _ _
        · have HRS := hid (show res = (.zero, 7) by rw [HRES.out, initGet, HDO.out, HMAY.out]; exact if_neg hq)
          rw [if_neg hq]
          clear hq
          go_wp2_with fail
          refine getInit_ret (.int .u32 0) (.int .u32 0) (.int .u16 0) (.int .u16 0) (.int .u32 0) (.slice none 0 0) 7 rfl rfl rfl ((((((HTA.out.store 0 (.int .u32 0)).store 1 (.int .u32 0)).store 2 (.int .u16 0)).store 3 (.int .u16 0)).store 4 (.int .u32 0)).store 5 (.slice none 0 0)) ⟨.slice none 0 0, by rw [HRS.out]; rfl, ?_, ((((((GA.out.setCell (by simp; try omega) _).setCell (by simp; try omega) _).setCell (by simp; try omega) _).setCell (by simp; try omega) _).setCell (by simp; try omega) _).setCell (by simp; try omega) _)⟩
          rw [HRS.out]
          exact Own.nil _ _ _
end Go.Proofs.YtiimlanbbfhkjaaDoor

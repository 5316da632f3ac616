/- The small functions of layer 9. Conditions: what comes in reads as it should. -/
import Derived.Test.YtfiblhdejglpaaaBaseD
import Derived.Test.YtfiblhdejglpaaaBaseB
import Derived.Test.YtfiblhdejglpaaaBaseC
import Derived.Test.YtfiblhdejglpaaaBaseE
import Derived.BigQuiet
import Derived.OpenShut
namespace Go.Proofs.Ytfiblhdejglpaaa
open Go.RowKit Go.FL

set_option maxRecDepth 20000 in
set_option maxHeartbeats 1000000 in
theorem bput_any (v u : Value) (l : List UInt8) (n : Nat) (N : Int) (hN : N = (n : Int)) (hn8 : n = 1 ∨ n = 2 ∨ n = 4 ∨ n = 8) (xs : List Nat) (w : World) (h : Rd w v l) (k : RdV w u (xs.map fun x : Nat => Value.int .u64 (x : Int))) (hx : ∀ x ∈ xs, x < 18446744073709551616) (h0 : 0 < xs.length) (hn : xs.length ≤ 100) (hs : l.length ≤ 1000000000) :
    Calls Try.prog 48 #[v, .int .i64 N, u] w (RetOwn w 5 (l ++ catBE n xs)) := by
  subst hN
  have HV := hid h
  have H8 := hid hn8
  have hn8' : n ≤ 8 := by omega
  obtain ⟨p, c, rfl, hlc, hcm, hpn, hcell⟩ := h
  obtain ⟨q, cq, rfl, hlq, hcq, hqn, hcelq⟩ := k
  unfold maxLen at hcm hcq
  clear hcell hn8
  have hml : (xs.map fun x : Nat => Value.int .u64 (x : Int)).length = xs.length := by simp
  rw [hml] at hlq ⊢
  have HC := hid (show ∀ i (hi : i < xs.length), ∃ b off, q = some ⟨b, off, none⟩ ∧ w.cell? ⟨b, off + i, none⟩ = some (.int .u64 (xs[i] : Int)) from fun i hi => by
    obtain ⟨b, off, e, h⟩ := hcelq i (by omega)
    exact ⟨b, off, e, by simpa using h⟩)
  have HX := hid hx
  clear hcelq hx hml
  have hnj : ∀ j, j ≤ xs.length → n * j ≤ 800 := fun j hj => Nat.le_trans (Nat.mul_le_mul hn8' (Nat.le_trans hj hn)) (by omega)
  go_enter Try.func48, Try.ntmps48
  go_wp2_with fail
  go_loopw [0, 8, 11] (fun o _ y wr => ∃ (j : Nat) (z : Option Addr) (cc : Nat), j ≤ xs.length ∧ y = .int .i64 (j : Int) ∧ o = .slice z (l.length + n * j) cc ∧ Hid (Rd wr o (l ++ catBE n (xs.take j))) ∧ Hid (0 < j → Own wr w.heap.size 5 o (l ++ catBE n (xs.take j))) ∧ Hid (Below w.heap.size w wr)) (fun _ _ y _ => xs.length - (intOf y).toNat)
  case atStart => exact ⟨0, p, c, Nat.zero_le _, rfl, rfl, hid (by simpa [catBE] using HV.out), hid (fun h => by omega), hid (Below.refl _ _)⟩
  case round =>
    obtain ⟨j, z, cc, hj, rfl, rfl, HR, HO, HB⟩ := hrel
    by_cases hlt : j < xs.length
    · obtain ⟨b, off, rfl, hc⟩ := HC.out j hlt
      have hcw := cell?_of_below HB.out hc
      have hxb := HX.out _ (List.getElem_mem hlt)
      have HT := hid (show xs.take (j + 1) = xs.take j ++ [xs[j]] from List.take_succ_eq_append_getElem hlt)
      have HS := hid hs
      have HN := hid (hnj j hj)
      have HL2 := hid (show (l ++ catBE n (xs.take j)).length = l.length + n * j by rw [List.length_append, catBE_length, List.length_take, Nat.min_eq_left hj])
      generalize xs[j] = x at *
      clear hc
      go_wp2_with fail
      refine (put_at _ (l ++ catBE n (xs.take j)) x n _ _ rfl rfl H8.out _ HR.out (by have := HL2.out; have := HS.out; have := HN.out; omega) (by omega)).mono ?_
      rintro e w1 ⟨v1, rfl, ho1, hb1⟩
      rw [List.append_assoc, show catBE n (xs.take j) ++ beBytes n x = catBE n (xs.take (j + 1)) by rw [HT.out, catBE_append]; simp [catBE]] at ho1
      have hle := HB.out.size
      have HO1 := hid (ho1.base hle)
      have HB1 := hid (gr_trans HB.out hb1)
      obtain ⟨z1, c1, rfl, _⟩ := ho1.rd
      rw [show (l ++ catBE n (xs.take (j + 1))).length = l.length + n * (j + 1) by rw [List.length_append, catBE_length, List.length_take, Nat.min_eq_left (by omega)]] at *
      clear ho1 hb1 hle hcw
      go_wp2_with fail
      go_roundw
      case rel => exact ⟨j + 1, z1, c1, by omega, by go_num, rfl, hid HO1.out.rd, hid (fun _ => HO1.out), HB1⟩
      case measure => simp [intOf]; omega
    · obtain rfl : j = xs.length := by omega
      go_wp2_with fail
      go_ret
      have := HO.out h0
      rw [List.take_length] at this
      exact ⟨_, rfl, this, HB.out⟩

theorem bflag_any (b : Bool) (x : UInt8) (X : Int) (hX : X = (x.toNat : Int)) (w : World) :
    Calls Try.prog 49 #[.bool b, .int .u8 X] w fun e w' => e = .returned (.int .u8 ((bitIf x b).toNat : Int)) ∧ w = w' := by
  subst hX
  cases b
  · go_enter Try.func49, Try.ntmps49
    go_wp2_with fail
    go_ret
    exact ⟨by simp [bitIf], rfl⟩
  · go_enter Try.func49, Try.ntmps49
    go_wp2_with fail
    go_ret
    exact ⟨by simp [bitIf], rfl⟩

theorem bnumber_any (v : Value) (l : List UInt8) (a n : Nat) (A' N : Int) (hA : A' = (a : Int)) (hN : N = (n : Int)) (hn : n = 1 ∨ n = 2 ∨ n = 4 ∨ n = 8) (w : World) (h : Rd w v l) (hs : l.length ≤ 140737488355320) :
    Calls Try.prog 54 #[v, .int .i64 A', .int .i64 N] w fun e w' => e = .returned (.int .u64 (numAt l a n : Int)) ∧ Below w.heap.size w w' := by
  subst hA hN
  have HV := hid h
  have HS := hid hs
  have HN := hid hn
  obtain ⟨p, k, c, rfl⟩ := h.form
  clear h hs hn
  go_enter Try.func54, Try.ntmps54
  go_wp2_with fail
  refine (refGet_at _ l a n _ _ rfl rfl HN.out _ HV.out HS.out).mono ?_
  rintro e w1 ⟨er, rfl, hb, _⟩
  go_wp2_with fail
  all_goals go_ret
  all_goals exact ⟨rfl, hb⟩

/-- The reader at block g: the body it reads, and its place. -/
def RdrAt (g : Nat) (s : Value) (a : Nat) (w : World) : Prop := RowV w g 90 [s, .int .i64 (a : Int)]

theorem get_tot (v : Value) (l : List UInt8) (a n : Nat) (A' N : Int) (hA : A' = (a : Int)) (hN : N = (n : Int)) (hn : n = 1 ∨ n = 2 ∨ n = 4 ∨ n = 8) (w : World) (h : Rd w v l) :
    Calls Try.prog 71 #[v, .int .i64 A', .int .i64 N] w fun e w' => e = .returned (.tuple #[.int .u64 (numAt l a n : Int), .int .i64 (if a + n ≤ l.length then 0 else 1)]) ∧ w = w' := by
  refine (get_at v l a n A' N hA hN hn w h).mono ?_
  rintro e w' ⟨er, h1, h2, h3⟩
  subst h3
  exact ⟨h1, h2⟩

set_option maxRecDepth 20000 in
theorem btake_any (g : Nat) (s : Value) (l : List UInt8) (a n : Nat) (N : Int) (hN : N = (n : Int)) (hn : n = 1 ∨ n = 2 ∨ n = 4 ∨ n = 8) (w : World) (hr : RdrAt g s a w) (hs : Rd w s l) (ha : a ≤ 1000000000) :
    Calls Try.prog 50 #[.pointer (some ⟨g, 0, none⟩), .int .i64 N] w fun e w' => e = .returned (.int .u64 (numAt l a n : Int)) ∧ RdrAt g s (a + n) w' ∧ w.grownBy w' (some g) := by
  subst hN
  have HR := hid hr
  have HS := hid hs
  have HN := hid hn
  obtain ⟨p, c, rfl, hlc, hcm, hpn, hcell⟩ := hs
  unfold maxLen at hcm
  clear hcell
  have c0 : w.cell? ⟨g, 0, none⟩ = some (.slice p l.length c) := hr.at 0 (by simp)
  have c1 : w.cell? ⟨g, 1, none⟩ = some (.int .i64 (a : Int)) := hr.at 1 (by simp)
  have f1 := hr.frozen 1
  have hn8 : n ≤ 8 := by omega
  clear hr hn
  go_enter Try.func50, Try.ntmps50
  go_wp2_with fail
  refine wp_region_gr [Is (.pointer (some ⟨g, 0, none⟩)), Is (.pointer (some ⟨g, 0, none⟩)), Is (.pointer (some ⟨g, 0, none⟩)), Is (.slice p l.length c), Is (.pointer (some ⟨g, 0, none⟩)), Is (.pointer (some ⟨g, 0, none⟩)), Is (.pointer (some ⟨g, 1, none⟩)), Is (.int .i64 (a : Int)), Is (.int .i64 (n : Int)), Is (.tuple #[.int .u64 (numAt l a n : Int), .int .i64 (if a + n ≤ l.length then 0 else 1)]), Is (.tuple #[.int .u64 (numAt l a n : Int), .int .i64 (if a + n ≤ l.length then 0 else 1)]), Is (.int .u64 (numAt l a n : Int)), Is (.int .i64 (if a + n ≤ l.length then 0 else 1)), Is (.int .u64 (numAt l a n : Int)), Is (.int .i64 (if a + n ≤ l.length then 0 else 1))] (by kernel_rfl) (by kernel_rfl) (by kernel_rfl) ?_ ?_ ?_
  · simp only [StabAll, Is.gr, RdF.gr, OwnF.gr, AnyF.gr, and_self]
  · rename_i Kk hKk; clear hKk Kk
    simp only [AllOps, List.map_cons, List.map_nil, depsOf, List.filterMap_cons, List.filterMap_nil, Region.binds, depFacts, guardF, reduceIte, List.getD_eq_getElem?_getD, List.getElem?_cons_succ, List.getElem?_cons_zero, Option.getD_some, factAt, and_true]
    refine ⟨?_, ?_, ?_, ?_, ?_, ?_, ?_, ?_, ?_, ?_, ?_, ?_, ?_, ?_, ?_⟩
    all_goals intro ρ wv hρ hR hd
    all_goals try simp only [Is] at hd
    · exact opOk_move (.inl rfl) ⟨by simp only [Is]; (first | exact hρ.2 0 rfl | exact hd | exact hd.1 | exact hd.2 | simp [hd]), GrR.refl _⟩
    · exact opOk_val (v := .pointer (some ⟨g, 0, none⟩)) (w' := wv) (by simp [execOp, go_sem, hρ.1.const, hρ.1.func, hd]) ⟨rfl, GrR.refl _⟩
    · exact opOk_val (v := .pointer (some ⟨g, 0, none⟩)) (w' := wv) (by simp [execOp, go_sem, hρ.1.const, hρ.1.func, hd]) ⟨rfl, GrR.refl _⟩
    · (have h0 := cell?_of_below hR c0; exact opOk_val (v := .slice p l.length c) (w' := wv) (by simp [execOp, go_sem, hd, h0]) ⟨rfl, GrR.refl _⟩)
    · exact opOk_move (.inl rfl) ⟨by simp only [Is]; (first | exact hρ.2 0 rfl | exact hd | exact hd.1 | exact hd.2 | simp [hd]), GrR.refl _⟩
    · exact opOk_val (v := .pointer (some ⟨g, 0, none⟩)) (w' := wv) (by simp [execOp, go_sem, hρ.1.const, hρ.1.func, hd]) ⟨rfl, GrR.refl _⟩
    · exact opOk_val (v := .pointer (some ⟨g, 1, none⟩)) (w' := wv) (by simp [execOp, go_sem, hρ.1.const, hρ.1.func, hd]) ⟨rfl, GrR.refl _⟩
    · (have h0 := cell?_of_below hR c1; exact opOk_val (v := .int .i64 (a : Int)) (w' := wv) (by simp [execOp, go_sem, hd, h0]) ⟨rfl, GrR.refl _⟩)
    · exact opOk_move (.inl rfl) ⟨by simp only [Is]; (first | exact hρ.2 1 rfl | exact hd | exact hd.1 | exact hd.2 | simp [hd]), GrR.refl _⟩
    · exact opOk_call hρ.1 rfl rfl Try.func71 (by kernel_rfl) rfl (by simp [hd, hρ.1.const]) ((get_tot _ l a n _ _ rfl rfl HN.out _ (HS.out.mono hR)).mono fun e w' ⟨h1, h2⟩ => ⟨_, h1, rfl, h2 ▸ GrR.refl _⟩)
    · exact opOk_move (.inl rfl) ⟨by simp only [Is]; (first | exact hρ.2 17 rfl | exact hd | exact hd.1 | exact hd.2 | simp [hd]), GrR.refl _⟩
    · exact opOk_val (v := .int .u64 (numAt l a n : Int)) (w' := wv) (by simp [execOp, go_sem, hρ.1.const, hρ.1.func, hd]) ⟨rfl, GrR.refl _⟩
    · exact opOk_val (v := .int .i64 (if a + n ≤ l.length then 0 else 1)) (w' := wv) (by simp [execOp, go_sem, hρ.1.const, hρ.1.func, hd]) ⟨rfl, GrR.refl _⟩
    · exact opOk_move (.inr rfl) ⟨by simp only [Is]; (first | exact hρ.2 18 rfl | exact hd | exact hd.1 | exact hd.2 | simp [hd]), GrR.refl _⟩
    · exact opOk_move (.inr rfl) ⟨by simp only [Is]; (first | exact hρ.2 19 rfl | exact hd | exact hd.1 | exact hd.2 | simp [hd]), GrR.refl _⟩
  · intro vals wv hR hall
    have h13 := hall 13 (by simp)
    simp only [factAt, Is, List.getD_eq_getElem?_getD, List.getElem?_cons_succ, List.getElem?_cons_zero, Option.getD_some] at h13
    clear hall
    simp only [fillFrom, Act.put, h13, List.setIfInBounds_toArray, List.set_cons_zero, List.set_cons_succ]
    rename_i Kk hKk
    refine hKk _ _ ?_
    clear hKk Kk
    have HR1 := hid (HR.out.mono hR)
    have d1 := HR1.out.at 1 (by simp)
    have g1 := HR1.out.frozen 1
    simp only [List.getElem_cons_succ, List.getElem_cons_zero] at d1
    have GR := hid hR
    clear hR c0 c1 f1
    go_wp2_with fail
    go_ret
    refine ⟨rfl, ?_, gb_set (gb_of_gr GR.out _) 1 _⟩
    rw [show ((a : Int) + (n : Int)) = ((a + n : Nat) : Int) by omega]
    exact HR1.out.store 1 _

set_option maxRecDepth 20000 in
theorem bleft_any (g : Nat) (s : Value) (l : List UInt8) (a : Nat) (w : World) (hr : RdrAt g s a w) (hs : Rd w s l) (ha : a ≤ 1000000000) :
    Calls Try.prog 52 #[.pointer (some ⟨g, 0, none⟩)] w fun e w' => e = .returned (.int .i64 ((l.length : Int) - (a : Int))) ∧ Below w.heap.size w w' := by
  have HS := hid hs
  obtain ⟨p, c, rfl, hlc, hcm, hpn, hcell⟩ := hs
  unfold maxLen at hcm
  clear hcell
  have c0 : w.cell? ⟨g, 0, none⟩ = some (.slice p l.length c) := hr.at 0 (by simp)
  have c1 : w.cell? ⟨g, 1, none⟩ = some (.int .i64 (a : Int)) := hr.at 1 (by simp)
  clear hr
  go_enter Try.func52, Try.ntmps52
  go_wp2_with fail
  go_quiet (fail)
  go_wp2_with fail
  go_ret
  exact ⟨rfl, gr_drewN _ _⟩

theorem cutAt_len (l : List UInt8) (a : Nat) (n : Int) : (cutAt l a n).length ≤ l.length := by
  unfold cutAt
  split
  · simp; omega
  · simp

set_option maxRecDepth 20000 in
set_option maxHeartbeats 1000000 in
theorem brest_any (g : Nat) (s : Value) (l : List UInt8) (a : Nat) (n : Int) (hn : (Lit.int .i64 n).wf = true) (w : World) (hr : RdrAt g s a w) (hs : Rd w s l) (hl : l.length ≤ 1000000000) (ha : a ≤ 1000000000) :
    Calls Try.prog 51 #[.pointer (some ⟨g, 0, none⟩), .int .i64 n] w fun e w' => ∃ v', e = .returned v' ∧ Own w' w.heap.size 5 v' (cutAt l a n) ∧ RdrAt g s (a + (cutAt l a n).length) w' ∧ w.grownBy w' (some g) := by
  have hg : g < w.heap.size := hr.lt
  have HR := hid hr
  have HS := hid hs
  obtain ⟨p, c, rfl, hlc, hcm, hpn, hcell⟩ := hs
  unfold maxLen at hcm
  clear hcell
  have c0 : w.cell? ⟨g, 0, none⟩ = some (.slice p l.length c) := hr.at 0 (by simp)
  have c1 : w.cell? ⟨g, 1, none⟩ = some (.int .i64 (a : Int)) := hr.at 1 (by simp)
  clear hr
  have HLN := hid (cutAt_len l a n)
  by_cases hin : 0 ≤ n ∧ (a : Int) + n ≤ l.length
  · have HP := hid (show (l.drop a).take n.toNat = cutAt l a n by rw [cutAt, if_pos hin])
    obtain ⟨k, rfl⟩ : ∃ k : Nat, n = (k : Int) := ⟨n.toNat, by omega⟩
    rw [Int.toNat_natCast] at HP
    have hk : a + k ≤ l.length := by omega
    obtain ⟨m, hm⟩ : ∃ m, m = cutAt l a (k : Int) := ⟨_, rfl⟩
    rw [← hm] at HP HLN ⊢
    clear hm hin hn
    go_enter Try.func51, Try.ntmps51
    go_wp2_with fail
    refine wp_region_gr [Is (.pointer (some ⟨g, 0, none⟩)), Is (.pointer (some ⟨g, 0, none⟩)), Is (.pointer (some ⟨g, 0, none⟩)), Is (.slice p l.length c), Is (.pointer (some ⟨g, 0, none⟩)), Is (.pointer (some ⟨g, 0, none⟩)), Is (.pointer (some ⟨g, 1, none⟩)), Is (.int .i64 (a : Int)), Is (.int .i64 (k : Int)), TupF w.heap.size 5 m (.bool true), TupF w.heap.size 5 m (.bool true), OwnF w.heap.size 5 m, Is (.bool true), OwnF w.heap.size 5 m, Is (.bool true)] (by kernel_rfl) (by kernel_rfl) (by kernel_rfl) ?_ ?_ ?_
    · simp only [StabAll, Is.gr, RdF.gr, OwnF.gr, AnyF.gr, TupF.gr, and_self]
    · rename_i Kk hKk; clear hKk Kk
      simp only [AllOps, List.map_cons, List.map_nil, depsOf, List.filterMap_cons, List.filterMap_nil, Region.binds, depFacts, guardF, reduceIte, List.getD_eq_getElem?_getD, List.getElem?_cons_succ, List.getElem?_cons_zero, Option.getD_some, factAt, and_true]
      refine ⟨?_, ?_, ?_, ?_, ?_, ?_, ?_, ?_, ?_, ?_, ?_, ?_, ?_, ?_, ?_⟩
      all_goals intro ρ wv hρ hR hd
      all_goals try simp only [Is] at hd
      · exact opOk_move (.inl rfl) ⟨by simp only [Is]; (first | exact hρ.2 0 rfl | exact hd | exact hd.1 | exact hd.2 | simp [hd]), GrR.refl _⟩
      · exact opOk_val (v := .pointer (some ⟨g, 0, none⟩)) (w' := wv) (by simp [execOp, go_sem, hρ.1.const, hρ.1.func, hd]) ⟨rfl, GrR.refl _⟩
      · exact opOk_val (v := .pointer (some ⟨g, 0, none⟩)) (w' := wv) (by simp [execOp, go_sem, hρ.1.const, hρ.1.func, hd]) ⟨rfl, GrR.refl _⟩
      · (have h0 := cell?_of_below hR c0; exact opOk_val (v := .slice p l.length c) (w' := wv) (by simp [execOp, go_sem, hd, h0]) ⟨rfl, GrR.refl _⟩)
      · exact opOk_move (.inl rfl) ⟨by simp only [Is]; (first | exact hρ.2 0 rfl | exact hd | exact hd.1 | exact hd.2 | simp [hd]), GrR.refl _⟩
      · exact opOk_val (v := .pointer (some ⟨g, 0, none⟩)) (w' := wv) (by simp [execOp, go_sem, hρ.1.const, hρ.1.func, hd]) ⟨rfl, GrR.refl _⟩
      · exact opOk_val (v := .pointer (some ⟨g, 1, none⟩)) (w' := wv) (by simp [execOp, go_sem, hρ.1.const, hρ.1.func, hd]) ⟨rfl, GrR.refl _⟩
      · (have h0 := cell?_of_below hR c1; exact opOk_val (v := .int .i64 (a : Int)) (w' := wv) (by simp [execOp, go_sem, hd, h0]) ⟨rfl, GrR.refl _⟩)
      · exact opOk_move (.inl rfl) ⟨by simp only [Is]; (first | exact hρ.2 1 rfl | exact hd | exact hd.1 | exact hd.2 | simp [hd]), GrR.refl _⟩
      · exact opOk_call hρ.1 rfl rfl Try.func72 (by kernel_rfl) rfl (by simp [hd, hρ.1.const]) ((cut_at _ l a k _ _ rfl rfl _ (HS.out.mono hR) hk (by omega)).mono fun e w' ⟨v', h1, h2, h3⟩ => ⟨_, h1, ⟨v', rfl, by rw [HP.out] at h2; exact h2.base hR.size⟩, h3⟩)
      · exact opOk_move (.inl rfl) ⟨(by first | exact hd | exact hd.1), GrR.refl _⟩
      · (obtain ⟨z, hz, ho⟩ : TupF w.heap.size 5 m (.bool true) _ _ := (by first | exact hd | exact hd.1); exact opOk_val (v := z) (w' := wv) (by simp [execOp, go_sem, hz]) ⟨ho, GrR.refl _⟩)
      · (obtain ⟨z, hz, ho⟩ : TupF w.heap.size 5 m (.bool true) _ _ := (by first | exact hd | exact hd.1); exact opOk_val (v := .bool true) (w' := wv) (by simp [execOp, go_sem, hz]) ⟨rfl, GrR.refl _⟩)
      · exact opOk_move (.inr rfl) ⟨(by first | exact hd | exact hd.1), GrR.refl _⟩
      · exact opOk_move (.inr rfl) ⟨by simp only [Is]; (first | exact hρ.2 19 rfl | exact hd | exact hd.1 | exact hd.2 | simp [hd]), GrR.refl _⟩
    · intro vals wv hR hall
      have h13 := hall 13 (by simp)
      simp only [factAt, OwnF, List.getD_eq_getElem?_getD, List.getElem?_cons_succ, List.getElem?_cons_zero, Option.getD_some] at h13
      clear hall
      obtain ⟨z1, k1, hv1, -, -, -, -⟩ := h13.rd
      simp only [fillFrom, Act.put, hv1, List.setIfInBounds_toArray, List.set_cons_zero, List.set_cons_succ]
      rw [hv1] at h13
      have HO := hid h13
      rename_i Kk hKk
      refine hKk _ _ ?_
      clear hKk Kk hv1 h13
      have HR1 := hid (HR.out.mono hR)
      have d1 := HR1.out.at 1 (by simp)
      have g1 := HR1.out.frozen 1
      simp only [List.getElem_cons_succ, List.getElem_cons_zero] at d1
      have GR := hid hR
      clear hR c0 c1
      have := HLN.out
      go_wp2_with fail
      go_ret
      refine ⟨_, rfl, ?_, ?_, gb_set (gb_of_gr GR.out _) 1 _⟩
      · exact HO.out.keep (gb_set (gb_refl _ (some g)) 1 _) (fun k hk e => by have := HO.out.ge k hk; simp at e; omega)
      · rw [show ((a : Int) + (m.length : Int)) = ((a + m.length : Nat) : Int) by omega]
        exact HR1.out.store 1 _
  · have HP := hid (show cutAt l a n = [] by rw [cutAt, if_neg hin])
    have HW := hid (show withinB l.length (a : Int) n = false by simp [withinB]; omega)
    rw [HP.out]
    have hb := bounds_i64 hn
    clear hn hin
    go_enter Try.func51, Try.ntmps51
    go_wp2_with fail
    refine wp_region_gr [Is (.pointer (some ⟨g, 0, none⟩)), Is (.pointer (some ⟨g, 0, none⟩)), Is (.pointer (some ⟨g, 0, none⟩)), Is (.slice p l.length c), Is (.pointer (some ⟨g, 0, none⟩)), Is (.pointer (some ⟨g, 0, none⟩)), Is (.pointer (some ⟨g, 1, none⟩)), Is (.int .i64 (a : Int)), Is (.int .i64 n), Is (.tuple #[.slice none 0 0, .bool false]), Is (.tuple #[.slice none 0 0, .bool false]), Is (.slice none 0 0), Is (.bool false), Is (.slice none 0 0), Is (.bool false)] (by kernel_rfl) (by kernel_rfl) (by kernel_rfl) ?_ ?_ ?_
    · simp only [StabAll, Is.gr, RdF.gr, OwnF.gr, AnyF.gr, and_self]
    · rename_i Kk hKk; clear hKk Kk
      simp only [AllOps, List.map_cons, List.map_nil, depsOf, List.filterMap_cons, List.filterMap_nil, Region.binds, depFacts, guardF, reduceIte, List.getD_eq_getElem?_getD, List.getElem?_cons_succ, List.getElem?_cons_zero, Option.getD_some, factAt, and_true]
      refine ⟨?_, ?_, ?_, ?_, ?_, ?_, ?_, ?_, ?_, ?_, ?_, ?_, ?_, ?_, ?_⟩
      all_goals intro ρ wv hρ hR hd
      all_goals try simp only [Is] at hd
      · exact opOk_move (.inl rfl) ⟨by simp only [Is]; (first | exact hρ.2 0 rfl | exact hd | exact hd.1 | exact hd.2 | simp [hd]), GrR.refl _⟩
      · exact opOk_val (v := .pointer (some ⟨g, 0, none⟩)) (w' := wv) (by simp [execOp, go_sem, hρ.1.const, hρ.1.func, hd]) ⟨rfl, GrR.refl _⟩
      · exact opOk_val (v := .pointer (some ⟨g, 0, none⟩)) (w' := wv) (by simp [execOp, go_sem, hρ.1.const, hρ.1.func, hd]) ⟨rfl, GrR.refl _⟩
      · (have h0 := cell?_of_below hR c0; exact opOk_val (v := .slice p l.length c) (w' := wv) (by simp [execOp, go_sem, hd, h0]) ⟨rfl, GrR.refl _⟩)
      · exact opOk_move (.inl rfl) ⟨by simp only [Is]; (first | exact hρ.2 0 rfl | exact hd | exact hd.1 | exact hd.2 | simp [hd]), GrR.refl _⟩
      · exact opOk_val (v := .pointer (some ⟨g, 0, none⟩)) (w' := wv) (by simp [execOp, go_sem, hρ.1.const, hρ.1.func, hd]) ⟨rfl, GrR.refl _⟩
      · exact opOk_val (v := .pointer (some ⟨g, 1, none⟩)) (w' := wv) (by simp [execOp, go_sem, hρ.1.const, hρ.1.func, hd]) ⟨rfl, GrR.refl _⟩
      · (have h0 := cell?_of_below hR c1; exact opOk_val (v := .int .i64 (a : Int)) (w' := wv) (by simp [execOp, go_sem, hd, h0]) ⟨rfl, GrR.refl _⟩)
      · exact opOk_move (.inl rfl) ⟨by simp only [Is]; (first | exact hρ.2 1 rfl | exact hd | exact hd.1 | exact hd.2 | simp [hd]), GrR.refl _⟩
      · exact opOk_call hρ.1 rfl rfl Try.func72 (by kernel_rfl) rfl (by simp [hd, hρ.1.const]) ((cut_no _ l (a : Int) n _ (HS.out.mono hR) HW.out).mono fun e w' ⟨h1, h2⟩ => ⟨_, h1, rfl, h2 ▸ GrR.refl _⟩)
      · exact opOk_move (.inl rfl) ⟨by simp only [Is]; (first | exact hρ.2 17 rfl | exact hd | exact hd.1 | exact hd.2 | simp [hd]), GrR.refl _⟩
      · exact opOk_val (v := .slice none 0 0) (w' := wv) (by simp [execOp, go_sem, hρ.1.const, hρ.1.func, hd]) ⟨rfl, GrR.refl _⟩
      · exact opOk_val (v := .bool false) (w' := wv) (by simp [execOp, go_sem, hρ.1.const, hρ.1.func, hd]) ⟨rfl, GrR.refl _⟩
      · exact opOk_move (.inr rfl) ⟨by simp only [Is]; (first | exact hρ.2 18 rfl | exact hd | exact hd.1 | exact hd.2 | simp [hd]), GrR.refl _⟩
      · exact opOk_move (.inr rfl) ⟨by simp only [Is]; (first | exact hρ.2 19 rfl | exact hd | exact hd.1 | exact hd.2 | simp [hd]), GrR.refl _⟩
    · intro vals wv hR hall
      have h13 := hall 13 (by simp)
      simp only [factAt, Is, List.getD_eq_getElem?_getD, List.getElem?_cons_succ, List.getElem?_cons_zero, Option.getD_some] at h13
      clear hall
      simp only [fillFrom, Act.put, h13, List.setIfInBounds_toArray, List.set_cons_zero, List.set_cons_succ]
      rename_i Kk hKk
      refine hKk _ _ ?_
      clear hKk Kk
      have HR1 := hid (HR.out.mono hR)
      have d1 := HR1.out.at 1 (by simp)
      have g1 := HR1.out.frozen 1
      simp only [List.getElem_cons_succ, List.getElem_cons_zero] at d1
      have GR := hid hR
      clear hR c0 c1
      go_wp2_with fail
      go_ret
      refine ⟨_, rfl, Own.nil _ _ _, ?_, gb_set (gb_of_gr GR.out _) 1 _⟩
      exact HR1.out.store 1 (.int .i64 (a : Int))
end Go.Proofs.Ytfiblhdejglpaaa

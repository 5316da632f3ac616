/- OctetParts: the walk of the law. Conditions: none but what the row reads. -/
import Derived.Test.YtkifdhpdpblneaaOctWorks
import Derived.Test.YtkifdhpdpblneaaRoomy
import Derived.Test.YtkifdhpdpblneaaPiece
namespace Go.Proofs.Ytkifdhpdpblneaa
open Go.RowKit Go.FL

theorem parts_join (l : List UInt8) (i n k : Nat) (h : k ≤ n) : (l.drop i).take k ++ (l.drop (i + k)).take (n - k) = (l.drop i).take n := by
  rw [← List.drop_drop, ← List.take_add, Nat.add_sub_cancel' h]

theorem cut_at (v : Value) (l : List UInt8) (i k : Nat) (a n : Int) (ha : a = (i : Int)) (hn : n = (k : Int)) (w : World) (h : Rd w v l) (hik : i + k ≤ l.length) (hs : l.length ≤ 140737488355320) :
    Calls Try.prog 20 #[v, .int .i64 a, .int .i64 n] w fun e w' => ∃ v', e = .returned (.tuple #[v', .bool true]) ∧ Own w' w.heap.size 5 v' ((l.drop i).take k) ∧ Below w.heap.size w w' := by
  subst ha hn
  exact cut_ok v l i k w h hik hs

set_option maxRecDepth 100000 in
set_option maxHeartbeats 1000000 in
theorem octetParts_walk {w : World} {v : Value} (x : PieceV) (hx : PieceAt w v x.l x.a x.n x.c) :
    Calls Try.prog 10 #[v] w fun e w' => e = .returned (.bool true) ∧ Below w.heap.size w w' := by
  obtain ⟨l, a, n, cu⟩ := x
  obtain ⟨s, rfl, hv, wa, wn, wc⟩ := hx
  have ba := bounds_i64 wa
  have bn := bounds_i64 wn
  have bc := bounds_i64 wc
  clear wa wn wc
  simp only at hv ba bn bc ⊢
  obtain ⟨p, c, rfl, hlc, hcm, hpn, hcell⟩ := hv
  have hv : Rd w (.slice p l.length c) l := ⟨p, c, rfl, hlc, hcm, hpn, hcell⟩
  unfold maxLen at hcm
  clear hcell
  obtain ⟨W, hW⟩ : ∃ W, W = w.alloc (.cells #[.slice p l.length c, .int .i64 a, .int .i64 n, .int .i64 cu] 45 (0, 0)) := ⟨_, rfl⟩
  have hr : W.heap[w.heap.size]? = some (.cells #[.slice p l.length c, .int .i64 a, .int .i64 n, .int .i64 cu] 45 (0, 0)) := by rw [hW]; exact heap_alloc_new w _
  have c0 : W.cell? ⟨w.heap.size, 0, none⟩ = some (.slice p l.length c) := by simp [World.cell?, hr]
  have c1 : W.cell? ⟨w.heap.size, 1, none⟩ = some (.int .i64 a) := by simp [World.cell?, hr]
  have c2 : W.cell? ⟨w.heap.size, 2, none⟩ = some (.int .i64 n) := by simp [World.cell?, hr]
  have c3 : W.cell? ⟨w.heap.size, 3, none⟩ = some (.int .i64 cu) := by simp [World.cell?, hr]
  have HW := hid (show Below w.heap.size w W by rw [hW]; exact (Below.refl _ _).alloc (Nat.le_refl _) _)
  have HV := hid (hv.mono HW.out)
  have HE := hid hW
  clear hr hW hv
  by_cases hbig : 65536 < l.length
  · go_enter Try.func10, Try.ntmps10
    go_wp2_with fail
    rw [← HE.out]
    refine (works_any _).mono ?_
    rintro e w1 ⟨rfl, hb⟩
    go_wp2_with fail
    go_ret
    exact ⟨rfl, gr_trans HW.out hb⟩
  · cases hw : withinB l.length a n
    · have HWI := hid hw
      simp only [withinB, decide_eq_false_iff_not] at hw
      have hcase : a < 0 ∨ (0 ≤ a ∧ n < 0) ∨ (0 ≤ a ∧ 0 ≤ n ∧ (l.length : Int) < a) ∨ (0 ≤ a ∧ 0 ≤ n ∧ a ≤ (l.length : Int) ∧ (l.length : Int) - a < n) := by omega
      clear hw
      rcases hcase with h1 | ⟨h1, h2⟩ | ⟨h1, h2, h3⟩ | ⟨h1, h2, h3, h4⟩
      all_goals
        go_enter Try.func10, Try.ntmps10
        go_wp2_with fail
        rw [← HE.out]
        refine (cut_no _ l a n _ HV.out HWI.out).mono ?_
        rintro e w1 ⟨rfl, rfl⟩
        go_wp2_with fail
        refine (works_any _).mono ?_
        rintro e w1 ⟨rfl, hb⟩
        go_wp2_with fail
        go_ret
        exact ⟨rfl, gr_trans HW.out hb⟩
    · obtain ⟨i, k, rfl, rfl, hik⟩ := withinB_nat hw
      clear hw
      have hm : ∃ q : Nat, q ≤ k ∧ (cu.tmod ((k : Int) + 1) = (q : Int) ∨ (cu.tmod ((k : Int) + 1) < 0 ∧ cu.tmod ((k : Int) + 1) + (k : Int) + 1 = (q : Int))) := by
        have h1 := Int.tmod_lt_of_pos cu (show (0 : Int) < (k : Int) + 1 by omega)
        have h2 : -((k : Int) + 1) < cu.tmod ((k : Int) + 1) := by
          have := Int.lt_tmod_of_pos cu (show (0 : Int) < (k : Int) + 1 by omega)
          omega
        by_cases h0 : 0 ≤ cu.tmod ((k : Int) + 1)
        · exact ⟨(cu.tmod ((k : Int) + 1)).toNat, by omega, .inl (by omega)⟩
        · exact ⟨(cu.tmod ((k : Int) + 1) + (k : Int) + 1).toNat, by omega, .inr ⟨by omega, by omega⟩⟩
      obtain ⟨q, hqk, hq⟩ := hm
      have HJ := hid (parts_join l i k q hqk)
      have hpl : ((l.drop i).take k).length = k := by simp; omega
      have HPL := hid hpl
      clear hpl
      rcases hq with hq | ⟨hneg, hq⟩
      all_goals
        go_enter Try.func10, Try.ntmps10
        go_wp2_with fail
        rw [← HE.out]
        refine (cut_ok _ l i k _ HV.out hik (by omega)).mono ?_
        rintro e w1 ⟨v1, rfl, ho1, hb1⟩
        have G1 := hid hb1
        have hr1 := ho1.rd
        obtain ⟨p1, k1, rfl, _, _, _, _⟩ := hr1
        rw [HPL.out] at ho1 ⊢
        have HO1 := hid ho1
        have d0 := cell?_of_below hb1 c0
        have d1 := cell?_of_below hb1 c1
        have d2 := cell?_of_below hb1 c2
        have d3 := cell?_of_below hb1 c3
        clear ho1 hb1 c0 c1 c2 c3
        go_wp2_with fail
        refine (cut_ok _ l i q _ (HV.out.mono G1.out) (by omega) (by omega)).mono ?_
        rintro e w2 ⟨v2, rfl, ho2, hb2⟩
        have HO2 := hid ho2
        have G2 := hid hb2
        have d0 := cell?_of_below hb2 d0
        have d1 := cell?_of_below hb2 d1
        have d2 := cell?_of_below hb2 d2
        clear ho2 hb2
        go_wp2_with fail
        refine (cut_at _ l (i + q) (k - q) ((i : Int) + (q : Int)) ((k : Int) - (q : Int)) (by omega) (by omega) _ (HV.out.mono (gr_trans G1.out G2.out)) (by omega) (by omega)).mono ?_
        rintro e w3 ⟨v3, rfl, ho3, hb3⟩
        have HO3 := hid ho3
        have HO23 := hid (HO2.out.mono hb3)
        have G3 := hid hb3
        have HSZ := hid (Nat.le_trans G2.out.size hb3.size)
        clear ho3 hb3 d0 d1 d2 d3
        go_wp2_with (at_builtin; refine wpList_append_Own rfl (.tmp 103) (.tmp 104) 22 rfl w1.heap.size 5 Try.underlying22 infoU8o _ _ ((l.drop i).take q) ((l.drop (i + q)).take (k - q)) rfl HO23.out rfl HO3.out.rd ?hlen HSZ.out ?_)
        case hlen => simp; omega
        intro v4 w4 ho4 hg4
        rw [HJ.out] at ho4
        have HO4 := hid ho4
        have G34 := hid (show Below w1.heap.size w1 w4 from (gr_trans G2.out G3.out).grown hg4 HSZ.out HO23.out.ge)
        clear ho4 hg4
        go_wp2_with fail
        refine (eqBytes_yes _ _ _ _ HO4.out.rd (HO1.out.mono G34.out).rd).mono ?_
        rintro e w5 ⟨rfl, hb5⟩
        have G5 := hid hb5
        clear hb5
        go_wp2_with fail
        refine (works_any _).mono ?_
        rintro e w6 ⟨rfl, hb6⟩
        go_wp2_with fail
        go_ret
        exact ⟨rfl, gr_trans HW.out (gr_trans G1.out (gr_trans G34.out (gr_trans G5.out hb6)))⟩
end Go.Proofs.Ytkifdhpdpblneaa

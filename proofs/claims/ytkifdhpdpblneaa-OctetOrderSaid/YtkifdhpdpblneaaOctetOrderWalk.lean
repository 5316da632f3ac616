/- OctetOrder: the walk of the law. Conditions: none but what the row reads. -/
import Derived.Test.YtkifdhpdpblneaaOctWorks
import Derived.Test.YtkifdhpdpblneaaOrderMath
import Derived.Test.YtkifdhpdpblneaaRegOut
namespace Go.Proofs.Ytkifdhpdpblneaa
open Go.RowKit Go.FL

/-- What the region makes, one fact an operation. -/
def orderFacts (x y n : Nat) (lx ly : List UInt8) (sx sy : ByteArray) : List (Value → World → Prop) :=
  [Is (.int .u64 (x : Int)), Is (.int .i64 (n : Int)), (fun v w => Rd w v lx), Is (.string sx), Is (.int .u64 (y : Int)), Is (.int .i64 (n : Int)), (fun v w => Rd w v ly), Is (.string sy),
    Is (.bool (decide (x < y))), Is (.int .u64 (x : Int)), Is (.int .u64 (y : Int)), Is (.bool (decide (x < y))), Is (.bool false)]
def GrR (a b : World) : Prop := Below a.heap.size a b
theorem rdStab (l : List UInt8) : Stab GrR (fun v w => Rd w v l) := fun _ _ _ h k => h.mono k

set_option maxRecDepth 20000 in
set_option maxHeartbeats 2000000 in
theorem octetOrder_walk {w : World} (a : Int) (ha : (Lit.int .u64 a).wf = true) (b : Int) (hb : (Lit.int .u64 b).wf = true) :
    Calls Try.prog 9 #[.int .u64 a, .int .u64 b] w fun e w' => e = .returned (.bool true) ∧ Below w.heap.size w w' := by
  obtain ⟨x, rfl, hx⟩ := u64_nat a ha
  obtain ⟨y, rfl, hy⟩ := u64_nat b hb
  clear ha hb
  obtain ⟨W, hW⟩ : ∃ W, W = w.alloc (.cells #[.int .i64 1, .int .i64 2, .int .i64 4, .int .i64 8] 3 (0, 0)) := ⟨_, rfl⟩
  have hr : W.heap[w.heap.size]? = some (.cells #[.int .i64 1, .int .i64 2, .int .i64 4, .int .i64 8] 3 (0, 0)) := by rw [hW]; exact heap_alloc_new w _
  have hcs : ∀ k, k < 4 → ∃ n : Nat, (n = 1 ∨ n = 2 ∨ n = 4 ∨ n = 8) ∧ W.cell? ⟨w.heap.size, k, none⟩ = some (.int .i64 (n : Int)) := by
    intro k hk
    have : k = 0 ∨ k = 1 ∨ k = 2 ∨ k = 3 := by omega
    rcases this with rfl | rfl | rfl | rfl
    · exact ⟨1, by simp, by simp [World.cell?, hr]⟩
    · exact ⟨2, by simp, by simp [World.cell?, hr]⟩
    · exact ⟨4, by simp, by simp [World.cell?, hr]⟩
    · exact ⟨8, by simp, by simp [World.cell?, hr]⟩
  have HCS := hid hcs
  have HW := hid (show Below w.heap.size w W by rw [hW]; exact (Below.refl _ _).alloc (Nat.le_refl _) _)
  have HE := hid hW
  clear hr hW hcs
  go_enter Try.func9, Try.ntmps9
  go_wp2_with fail
  rw [← HE.out]
  go_loopw [6] (fun i wr => ∃ k : Nat, k ≤ 4 ∧ i = .int .i64 (k : Int) ∧ Hid (Below W.heap.size W wr)) (fun i _ => 4 - (intOf i).toNat)
  case atStart => exact ⟨0, Nat.zero_le _, rfl, Below.refl _ _⟩
  case round =>
    obtain ⟨k, hk, rfl, hb⟩ := hrel
    by_cases hlt : k < 4
    · obtain ⟨n, hn, hc⟩ := HCS.out k hlt
      have hcw := cell?_of_below hb.out hc
      have HN := hid hn
      have HB := hid hb.out
      have hn8 : n ≤ 8 := by omega
      have hn1 : 1 ≤ n := by omega
      have hsz : sizedB (n : Int) = true := by rcases hn with rfl | rfl | rfl | rfl <;> rfl
      have HSZ := hid hsz
      clear hc hn hb hsz
      by_cases hskip : n < 8 ∧ (x / 2 ^ (8 * n) ≠ 0 ∨ y / 2 ^ (8 * n) ≠ 0)
      · obtain ⟨h8, hor⟩ := hskip
        by_cases h1 : x / 2 ^ (8 * n) = 0
        · have h2 : y / 2 ^ (8 * n) ≠ 0 := by rcases hor with h | h; exact absurd h1 h; exact h
          have hX : ((x : Int) / 2 ^ (8 * n) != 0) = false := by rw [show (x : Int) / 2 ^ (8 * n) = ((x / 2 ^ (8 * n) : Nat) : Int) by simp, h1]; rfl
          have hY : ((y : Int) / 2 ^ (8 * n) != 0) = true := by rw [show (y : Int) / 2 ^ (8 * n) = ((y / 2 ^ (8 * n) : Nat) : Int) by simp, bne_iff_ne]; omega
          clear hor h1 h2
          go_wp2
          go_roundw
          case rel => exact ⟨k + 1, by omega, by go_num, HB.out⟩
          case measure => simp [intOf]; omega
        · have hX : ((x : Int) / 2 ^ (8 * n) != 0) = true := by rw [show (x : Int) / 2 ^ (8 * n) = ((x / 2 ^ (8 * n) : Nat) : Int) by simp, bne_iff_ne]; omega
          clear hor h1
          go_wp2
          go_roundw
          case rel => exact ⟨k + 1, by omega, by go_num, HB.out⟩
          case measure => simp [intOf]; omega
      · have hfit : x < 256 ^ n ∧ y < 256 ^ n := by
          rcases HN.out with rfl | rfl | rfl | rfl
          · rw [show 2 ^ (8 * 1) = 256 by rfl] at hskip; omega
          · rw [show 2 ^ (8 * 2) = 65536 by rfl] at hskip; omega
          · rw [show 2 ^ (8 * 4) = 4294967296 by rfl] at hskip; omega
          · exact ⟨hx, hy⟩
        have hlt8 : ¬ n < 8 ∨ (n < 8 ∧ x / 2 ^ (8 * n) = 0 ∧ y / 2 ^ (8 * n) = 0) := by omega
        have hpx : putL [] x (n : Int) = beBytes n x := by simp [putL, HSZ.out]
        have hpy : putL [] y (n : Int) = beBytes n y := by simp [putL, HSZ.out]
        have hord := order_bytes n x y hfit.1 hfit.2
        obtain ⟨lx, hlx⟩ : ∃ lx, lx = beBytes n x := ⟨_, rfl⟩
        obtain ⟨ly, hly⟩ : ∃ ly, ly = beBytes n y := ⟨_, rfl⟩
        rw [← hlx] at hpx hord
        rw [← hly] at hpy hord
        obtain ⟨sx, hsx⟩ : ∃ sx, sx = strOfNums (lx.map fun b => (b.toNat : Int)) := ⟨_, rfl⟩
        obtain ⟨sy, hsy⟩ : ∃ sy, sy = strOfNums (ly.map fun b => (b.toNat : Int)) := ⟨_, rfl⟩
        have hless : Op.bytesLess sx.toList sy.toList = decide (x < y) := by rw [hsx, hsy, strOf_toList, strOf_toList, hord]
        have HPX := hid hpx
        have HPY := hid hpy
        have HSX := hid hsx
        have HSY := hid hsy
        have HLESS := hid hless
        clear hskip hfit hpx hpy hord hlx hly hsx hsy hless
        rcases hlt8 with h8 | ⟨h8, h1, h2⟩
        case' inr =>
          have hX : ((x : Int) / 2 ^ (8 * n) != 0) = false := by rw [show (x : Int) / 2 ^ (8 * n) = ((x / 2 ^ (8 * n) : Nat) : Int) by simp, h1]; rfl
          have hY : ((y : Int) / 2 ^ (8 * n) != 0) = false := by rw [show (y : Int) / 2 ^ (8 * n) = ((y / 2 ^ (8 * n) : Nat) : Int) by simp, h2]; rfl
          clear h1 h2
        all_goals
          go_wp2_with fail
          refine wp_region_grow (S := factAt (orderFacts x y n lx ly sx sy)) (R := GrR) (by kernel_rfl) (by kernel_rfl) (by kernel_rfl) (fun _ => Below.refl _ _) (fun _ _ _ => gr_trans) (fun a => (Below.refl _ _).drew) ?_ ?_ ?_
          · refine factAt_stab ?_
            simp only [orderFacts, StabAll, Is.stab, rdStab, and_self]
          · rename_i Kk hKk; clear hKk Kk
            simp only [AllOps, List.map_cons, List.map_nil, depsOf, List.filterMap_cons, List.filterMap_nil, Region.binds, depFacts, guardF, reduceIte, List.getD_eq_getElem?_getD, List.getElem?_cons_succ, List.getElem?_cons_zero, Option.getD_some, factAt, orderFacts, Is, and_true]
            refine ⟨?_, ?_, ?_, ?_, ?_, ?_, ?_, ?_, ?_, ?_, ?_, ?_, ?_⟩
            all_goals intro ρ wv hρ hR hd
            · exact opOk_move (.inl rfl) ⟨hρ.2 0 rfl, Below.refl _ _⟩
            · exact opOk_move (.inl rfl) ⟨hρ.2 7 rfl, Below.refl _ _⟩
            · exact opOk_call hρ.1 rfl rfl Try.func16 (by kernel_rfl) rfl (by simp [hρ.1.const, hd]) ((put_any _ [] x (n : Int) _ (Rd.nil _) (by decide) hx).mono fun e w' ⟨v, h1, h2, h3⟩ => ⟨v, h1, HPX.out ▸ h2.rd, h3⟩)
            · exact opOk_val (v := .string sx) (w' := wv) (by simp only [execOp, Sem.run_bind, run_convert_rd (P := Try.prog) wv 22 5 9 Try.underlying22 Try.underlying5 Try.underlying9 _ _ hd, strOf, ← HSX.out]; rfl) ⟨rfl, Below.refl _ _⟩
            · exact opOk_move (.inl rfl) ⟨hρ.2 1 rfl, Below.refl _ _⟩
            · exact opOk_move (.inl rfl) ⟨hρ.2 7 rfl, Below.refl _ _⟩
            · exact opOk_call hρ.1 rfl rfl Try.func16 (by kernel_rfl) rfl (by simp [hρ.1.const, hd.1, hd.2.1]) ((put_any _ [] y (n : Int) _ (Rd.nil _) (by decide) hy).mono fun e w' ⟨v, h1, h2, h3⟩ => ⟨v, h1, HPY.out ▸ h2.rd, h3⟩)
            · exact opOk_val (v := .string sy) (w' := wv) (by simp only [execOp, Sem.run_bind, run_convert_rd (P := Try.prog) wv 22 5 9 Try.underlying22 Try.underlying5 Try.underlying9 _ _ (by first | exact hd | exact hd.1 | exact hd.2), strOf, ← HSY.out]; rfl) ⟨rfl, Below.refl _ _⟩
            · exact opOk_val (v := .bool (decide (x < y))) (w' := wv) (by simp [execOp, go_sem, hd, HLESS.out]) ⟨rfl, Below.refl _ _⟩
            · exact opOk_move (.inl rfl) ⟨hρ.2 0 rfl, Below.refl _ _⟩
            · exact opOk_move (.inl rfl) ⟨hρ.2 1 rfl, Below.refl _ _⟩
            · exact opOk_val (v := .bool (decide (x < y))) (w' := wv) (by simp [execOp, go_sem, hd]) ⟨rfl, Below.refl _ _⟩
            · exact opOk_val (v := .bool false) (w' := wv) (by simp [execOp, go_sem, hd]) ⟨rfl, Below.refl _ _⟩
          · intro vals wv hR hall
            have h12 := hall 12 (by simp)
            simp only [factAt, orderFacts, Is, List.getD_eq_getElem?_getD, List.getElem?_cons_succ, List.getElem?_cons_zero, Option.getD_some] at h12
            first
              | (rename_i Kk hKk hzz; refine hKk _ _ ?_; clear hKk Kk hall)
              | (rename_i Kk hKk; refine hKk _ _ ?_; clear hKk Kk hall)
            simp only [fillFrom, Act.put, h12, List.setIfInBounds_toArray, List.set_cons_zero, List.set_cons_succ]
            have HB2 := hid (gr_trans HB.out hR)
            clear hR h12
            go_wp2
            go_roundw
            case rel => exact ⟨k + 1, by omega, by go_num, HB2.out⟩
            case measure => simp [intOf]; omega
    · obtain rfl : k = 4 := by omega
      have HB := hid hb.out
      clear hb
      go_wp2_with fail
      refine (works_any _).mono ?_
      rintro e w1 ⟨rfl, hb1⟩
      go_wp2_with fail
      go_ret
      exact ⟨rfl, gr_trans HW.out (gr_trans HB.out hb1)⟩
end Go.Proofs.Ytkifdhpdpblneaa

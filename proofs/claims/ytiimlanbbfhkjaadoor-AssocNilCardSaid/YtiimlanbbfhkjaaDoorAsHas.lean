/- has: is a chunk of a kind among chunks? is: is the state one of some? Conditions: what comes in reads as it should. -/
import Derived.Test.YtiimlanbbfhkjaaDoorAsSmall
import Derived.Test.YtiimlanbbfhkjaaDoorChunksOpen
set_option linter.unusedSimpArgs false
set_option linter.unusedVariables false



namespace Go.FL

open Go.RowKit

theorem anyTake {α : Type} (l : List α) (f : α → Bool) (i : Nat) (h : i < l.length) : (l.take (i + 1)).any f = ((l.take i).any f || f l[i]) := by
  rw [List.take_succ_eq_append_getElem h, List.any_append]
  simp
theorem anyOfTake {α : Type} (l : List α) (f : α → Bool) (i : Nat) (h : (l.take i).any f = true) : l.any f = true := by
  rw [List.any_eq_true] at h ⊢
  obtain ⟨x, hx, hf⟩ := h
  exact ⟨x, List.mem_of_mem_take hx, hf⟩
/-- A packet by value: its tag and its chunks. -/
def PkAt (w : World) (v : Value) (tag : Nat) (cs : List Chk) : Prop := ∃ s, v = .agg #[.int .u32 (tag : Int), s] ∧ ChunksAt w s cs
def kindIs (k : UInt8) (c : Chk) : Bool := decide (c.k = k)
end Go.FL

namespace Go.Proofs.YtiimlanbbfhkjaaDoor

open Go.RowKit Go.FL Go.ChangeShapes

set_option maxRecDepth 20000 in
theorem has1_any (k : UInt8) (s : Value) (c : Chk) (g : Nat) (w : World) (hs : Rd w s c.b) (hg : RowV w g 5 [.int .u8 (k.toNat : Int)]) :
    Calls Tryd.prog 44 #[.agg #[.int .u8 (c.k.toNat : Int), .int .u8 (c.f.toNat : Int), s], .pointer (some ⟨g, 0, none⟩)] w fun e w' => e = .returned (.bool (kindIs k c)) ∧ Below w.heap.size w w' := by
  obtain ⟨ps, cps, rfl, hlc, hcm, -, -⟩ := hs
  unfold maxLen at hcm
  obtain ⟨kc, f, b⟩ := c
  simp only at *
  have G := hid (show Below w.heap.size w (w.alloc (.cells #[.int .u8 (kc.toNat : Int), .int .u8 (f.toNat : Int), .slice ps b.length cps] 47 (0, 0))) from (Below.refl _ _).alloc (Nat.le_refl _) _)
  have g0 := (hg.mono G.out).at 0 (by simp)
  simp only [List.getElem_cons_zero] at g0
  have hkb := byte_lt k
  have hkc := byte_lt kc
  obtain ⟨q, hq⟩ : ∃ q, q = kindIs k ⟨kc, f, b⟩ := ⟨_, rfl⟩
  have he : ((kc.toNat : Int) == (k.toNat : Int)) = q := by rw [kind_eq kc k (k.toNat : Int) rfl, hq]; rfl
  rw [← hq]
  clear hq
  go_enter Tryd.func44, Tryd.ntmps44
  go_wp2_with fail
  go_ret
  exact ⟨rfl, G.out⟩

set_option maxRecDepth 20000 in
set_option maxHeartbeats 1000000 in
theorem hasIdx_any (cs : List Chk) (k : UInt8) (v : Value) (g : Nat) (w : World) (h : ChunksAt w v cs) (hg : RowV w g 5 [.int .u8 (k.toNat : Int)]) :
    Calls Tryd.prog 61 #[v, .func (.func 44) #[] #[.pointer (some ⟨g, 0, none⟩)]] w
      fun e w' => ∃ r : Int, e = .returned (.int .i64 r) ∧ (decide (0 ≤ r) = cs.any (kindIs k)) ∧ Below w.heap.size w w' := by
  have HX := hid h
  have HG := hid hg
  obtain ⟨q, cp, rfl, hlc, hcm, hel⟩ := h
  have HEL := hid hel
  unfold maxLen at hcm
  clear hel hg
  obtain ⟨n, hn⟩ : ∃ n, n = cs.length := ⟨_, rfl⟩
  have HN := hid hn
  rw [← hn] at HX hlc ⊢
  clear hn
  go_enter Tryd.func61, Tryd.ntmps61
  go_wp2_with fail
  go_loopw [8] (fun y wr => ∃ i : Nat, i ≤ n ∧ y = .int .i64 (i : Int) ∧ Hid ((cs.take i).any (kindIs k) = false) ∧ Hid (Below w.heap.size w wr)) (fun y _ => n - (intOf y).toNat)
  case atStart => exact ⟨0, Nat.zero_le _, rfl, hid rfl, hid (Below.refl _ _)⟩
  case round =>
    obtain ⟨i, hi, rfl, HA, HB⟩ := hrel
    by_cases hlt : i < n
    · have hlt2 : i < cs.length := by rw [← HN.out]; exact hlt
      obtain ⟨gb, go, sl, rfl, k0, k1, k2, hrd⟩ := HEL.out i hlt2
      have h0 := cell?_of_below HB.out k0
      have h1 := cell?_of_below HB.out k1
      have h2 := cell?_of_below HB.out k2
      have HAT := hid (anyTake cs (kindIs k) i hlt2)
      have HSL := hid (hrd.mono HB.out)
      have i0 : (0 : Int) ≤ (i : Int) := by omega
      have i1 : (i : Int) < (n : Int) := by omega
      have i2 : ((i : Int)).toNat = i := by omega
      generalize cs[i] = cx at *
      obtain ⟨kk, ff, b⟩ := cx
      simp only at h0 h1 h2 hrd HSL
      obtain ⟨ps, cps, rfl, -, -, -, -⟩ := hrd
      clear k0 k1 k2 hlt2
      go_wp2_with fail
      refine (has1_any k _ ⟨kk, ff, b⟩ g _ HSL.out (HG.out.mono HB.out)).mono ?_
      rintro e w1 ⟨rfl, hb1⟩
      have HB1 := hid (gr_trans HB.out hb1)
      obtain ⟨q, hq⟩ : ∃ q, q = kindIs k ⟨kk, ff, b⟩ := ⟨_, rfl⟩
      rw [← hq]
      rw [← hq] at HAT
      clear hb1 h0 h1 h2 hq
      cases q
      · go_wp2_with fail
        go_roundw
        case rel => exact ⟨i + 1, by omega, by go_num, hid (by rw [HAT.out, HA.out]; rfl), HB1⟩
        case measure => simp [intOf]; omega
      · go_wp2_with fail
        go_ret
        refine ⟨(i : Int), rfl, ?_, HB1.out⟩
        rw [anyOfTake cs (kindIs k) (i + 1) (by rw [HAT.out]; simp)]
        simp
    · obtain rfl : i = n := by omega
      go_wp2_with fail
      go_ret
      refine ⟨-1, rfl, ?_, HB.out⟩
      have := HA.out
      rw [List.take_of_length_le (by rw [← HN.out]; exact Nat.le_refl _)] at this
      rw [this]
      rfl
theorem hasCon_any (cs : List Chk) (k : UInt8) (v : Value) (g : Nat) (w : World) (h : ChunksAt w v cs) (hg : RowV w g 5 [.int .u8 (k.toNat : Int)]) :
    Calls Tryd.prog 43 #[v, .func (.func 44) #[] #[.pointer (some ⟨g, 0, none⟩)]] w
      fun e w' => e = .returned (.bool (cs.any (kindIs k))) ∧ Below w.heap.size w w' := by
  have HX := hid h
  have HG := hid hg
  obtain ⟨q, cp, rfl, hlc, hcm, -⟩ := h
  clear hg
  go_enter Tryd.func43, Tryd.ntmps43
  go_wp2_with fail
  refine (hasIdx_any cs k _ g _ HX.out HG.out).mono ?_
  rintro e w1 ⟨r, rfl, hr, hb1⟩
  have HR := hid hr
  clear hr
  go_wp2_with fail
  go_ret
  exact ⟨by rw [← HR.out]; rfl, hb1⟩
set_option maxRecDepth 20000 in
theorem has_any (tag : Nat) (cs : List Chk) (k : UInt8) (v : Value) (w : World) (h : PkAt w v tag cs) :
    Calls Tryd.prog 30 #[v, .int .u8 (k.toNat : Int)] w fun e w' => e = .returned (.bool (cs.any (kindIs k))) ∧ Below w.heap.size w w' := by
  obtain ⟨s, rfl, hcs⟩ := h
  obtain ⟨q, cp, rfl, hlc, hcm, -⟩ := id hcs
  unfold maxLen at hcm
  obtain ⟨n, hn⟩ : ∃ n, n = cs.length := ⟨_, rfl⟩
  rw [← hn] at hcs hlc ⊢
  obtain ⟨W0, hW0⟩ : ∃ W, W = w.alloc (.cells #[.int .u32 (tag : Int), .slice q n cp] 45 (0, 0)) := ⟨_, rfl⟩
  have hs0 : W0.heap.size = w.heap.size + 1 := by rw [hW0]; simp
  obtain ⟨W, hW⟩ : ∃ W, W = W0.alloc (.cells #[.int .u8 (k.toNat : Int)] 5 (0, 0)) := ⟨_, rfl⟩
  have HP := hid (show RowV W w.heap.size 45 [.int .u32 (tag : Int), .slice q n cp] by rw [hW, hW0]; exact (RowV.new w _ _).alloc _)
  have HK := hid (show RowV W (w.heap.size + 1) 5 [.int .u8 (k.toNat : Int)] by rw [hW, ← hs0]; exact RowV.new W0 _ _)
  have G0 := hid (show Below w.heap.size w W by rw [hW, hW0]; exact ((Below.refl _ _).alloc (Nat.le_refl _) _).alloc (by simp) _)
  have HC := hid (hcs.mono G0.out)
  rw [hW0] at hW
  have p1 := HP.out.at 1 (by simp)
  simp only [List.getElem_cons_succ, List.getElem_cons_zero] at p1
  rw [hW] at p1
  have hkb := byte_lt k
  have HE := hid hW
  clear hW hW0 hs0 hcs hn
  go_enter Tryd.func30, Tryd.ntmps30
  go_wp2_with fail
  rw [← HE.out]
  clear p1
  refine (hasCon_any cs k _ _ _ HC.out HK.out).mono ?_
  rintro e w1 ⟨rfl, hb1⟩
  have G1 := hid (gr_trans G0.out hb1)
  clear hb1
  go_wp2_with fail
  go_ret
  exact ⟨rfl, G1.out⟩

set_option maxRecDepth 20000 in
set_option maxHeartbeats 1000000 in
theorem idxU_any (l : List UInt8) (k : UInt8) (v : Value) (w : World) (h : Rd w v l) :
    Calls Tryd.prog 62 #[v, .int .u8 (k.toNat : Int)] w
      fun e w' => ∃ r : Int, e = .returned (.int .i64 r) ∧ (decide (0 ≤ r) = l.any (fun x => decide (k = x))) ∧ w = w' := by
  have HX := hid h
  obtain ⟨q, cp, rfl, hlc, hcm, -, hel⟩ := h
  have HEL := hid hel
  unfold maxLen at hcm
  clear hel
  obtain ⟨n, hn⟩ : ∃ n, n = l.length := ⟨_, rfl⟩
  have HN := hid hn
  rw [← hn] at HX hlc ⊢
  have hkb := byte_lt k
  clear hn
  go_enter Tryd.func62, Tryd.ntmps62
  go_wp2_with fail
  go_loopw [8] (fun y wr => ∃ i : Nat, i ≤ n ∧ y = .int .i64 (i : Int) ∧ Hid ((l.take i).any (fun x => decide (k = x)) = false) ∧ w = wr) (fun y _ => n - (intOf y).toNat)
  case atStart => exact ⟨0, Nat.zero_le _, rfl, hid rfl, rfl⟩
  case round =>
    obtain ⟨i, hi, rfl, HA, rfl⟩ := hrel
    by_cases hlt : i < n
    · have hlt2 : i < l.length := by rw [← HN.out]; exact hlt
      obtain ⟨gb, go, rfl, k0⟩ := HEL.out i hlt2
      have HAT := hid (anyTake l (fun x => decide (k = x)) i hlt2)
      have i0 : (0 : Int) ≤ (i : Int) := by omega
      have i1 : (i : Int) < (n : Int) := by omega
      have i2 : ((i : Int)).toNat = i := by omega
      generalize l[i] = x at *
      have hxb := byte_lt x
      obtain ⟨q, hq⟩ : ∃ q, q = decide (k = x) := ⟨_, rfl⟩
      have he : ((k.toNat : Int) == (x.toNat : Int)) = q := by rw [kind_eq k x (x.toNat : Int) rfl, hq]
      rw [← hq] at HAT
      clear hlt2 hq
      cases q
      · go_wp2_with fail
        go_roundw
        case rel => exact ⟨i + 1, by omega, by go_num, hid (by rw [HAT.out, HA.out]; rfl), by first | trivial | rfl⟩
        case measure => simp [intOf]; omega
      · go_wp2_with fail
        go_ret
        refine ⟨(i : Int), rfl, ?_, rfl⟩
        rw [anyOfTake l (fun x => decide (k = x)) (i + 1) (by rw [HAT.out]; simp)]
        simp
    · obtain rfl : i = n := by omega
      go_wp2_with fail
      go_ret
      refine ⟨-1, rfl, ?_, rfl⟩
      have := HA.out
      rw [List.take_of_length_le (by rw [← HN.out]; exact Nat.le_refl _)] at this
      rw [this]
      rfl
theorem conU_any (l : List UInt8) (k : UInt8) (v : Value) (w : World) (h : Rd w v l) :
    Calls Tryd.prog 45 #[v, .int .u8 (k.toNat : Int)] w fun e w' => e = .returned (.bool (l.any (fun x => decide (k = x)))) ∧ w = w' := by
  have HX := hid h
  obtain ⟨q, cp, rfl, -⟩ := h
  have hkb := byte_lt k
  go_enter Tryd.func45, Tryd.ntmps45
  go_wp2_with fail
  refine (idxU_any l k _ _ HX.out).mono ?_
  rintro e w1 ⟨r, rfl, hr, rfl⟩
  have HR := hid hr
  clear hr
  go_wp2_with fail
  go_ret
  exact ⟨by rw [← HR.out]; rfl, rfl⟩
set_option maxRecDepth 20000 in
theorem is_any (B : Nat) (w : World) (g : Nat) (vr : Value) (a : AsD) (h : As B w g vr a) (hst : a.st < 256) (l : List UInt8) (v : Value) (hv : Rd w v l) :
    Calls Tryd.prog 31 #[.pointer (some ⟨g, 0, none⟩), v] w fun e w' => e = .returned (.bool (l.any (fun x => decide (a.st = x.toNat)))) ∧ w = w' := by
  obtain ⟨vk, vp, vs, hr, -⟩ := h
  obtain ⟨-, -, -, -, -, -, -, -, -, -, -, -, -, -, -, c15, -, -, -, -, -, -, -, -, -, -, -, -, -, -, -, -, -, -, -, -⟩ := rowAs hr
  have HV := hid hv
  obtain ⟨q, cp, rfl, -⟩ := hv
  clear hr
  obtain ⟨k, hk⟩ : ∃ k : UInt8, a.st = k.toNat := ⟨UInt8.ofNat a.st, by simp; omega⟩
  rw [hk] at c15 ⊢
  have hkb := byte_lt k
  have HA := hid (show (l.any fun x => decide (k.toNat = x.toNat)) = l.any (fun x => decide (k = x)) from by
    congr 1
    funext x
    exact decide_eq_decide.2 UInt8.toNat_inj)
  go_enter Tryd.func31, Tryd.ntmps31
  go_wp2_with fail
  refine (conU_any l k _ _ HV.out).mono ?_
  rintro e w1 ⟨rfl, rfl⟩
  go_wp2_with fail
  go_ret
  exact ⟨by rw [HA.out]; rfl, rfl⟩
end Go.Proofs.YtiimlanbbfhkjaaDoor

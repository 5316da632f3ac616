/- bodies.PutCum, bodies.PutTime and the closure of GetTime. Conditions: what comes in reads as it should. -/
import Derived.Test.YtfiblhdejglpaaaBodPutData
import Derived.Test.YtfiblhdejglpaaaBaseB
import Derived.OpenShut
namespace Go.Proofs.Ytfiblhdejglpaaa
open Go.RowKit Go.FL Go.ChangeShapes

theorem putCum_ret {a : Act} {W : World} {g : Nat} {R : Ending → World → Prop} (v0 v1 v2 : Value) (h2 : a.tmps.getD 2 undef = .pointer (some ⟨g, 0, none⟩)) (hd : a.defers = [])
    (hc : RowV W g 28 [v0, v1, v2]) (hR : R (.returned (.agg #[v0, v1, v2])) W) : bodyPost Try.prog Try.f40 R .ret a W := by
  refine bodyPost_ret (v := .agg #[v0, v1, v2]) ?_ hd hR
  obtain ⟨c0, c1, c2⟩ := RowV.three hc
  simp only [Array.getD_eq_getD_getElem?] at h2
  simp [results, Try.results40, go_sem, h2, asAddr, c0, c1, c2]
theorem putTime_ret {a : Act} {W : World} {g : Nat} {R : Ending → World → Prop} (v0 v1 v2 : Value) (h2 : a.tmps.getD 4 undef = .pointer (some ⟨g, 0, none⟩)) (hd : a.defers = [])
    (hc : RowV W g 28 [v0, v1, v2]) (hR : R (.returned (.agg #[v0, v1, v2])) W) : bodyPost Try.prog Try.f38 R .ret a W := by
  refine bodyPost_ret (v := .agg #[v0, v1, v2]) ?_ hd hR
  obtain ⟨c0, c1, c2⟩ := RowV.three hc
  simp only [Array.getD_eq_getD_getElem?] at h2
  simp [results, Try.results38, go_sem, h2, asAddr, c0, c1, c2]
theorem getTime1_ret {a : Act} {W : World} {g : Nat} {R : Ending → World → Prop} (v0 v1 v2 : Value) (h2 : a.tmps.getD 3 undef = .pointer (some ⟨g, 0, none⟩)) (hd : a.defers = [])
    (hc : RowV W g 28 [v0, v1, v2]) (hR : R (.returned (.agg #[v0, v1, v2])) W) : bodyPost Try.prog Try.f63 R .ret a W := by
  refine bodyPost_ret (v := .agg #[v0, v1, v2]) ?_ hd hR
  obtain ⟨c0, c1, c2⟩ := RowV.three hc
  simp only [Array.getD_eq_getD_getElem?] at h2
  simp [results, Try.results63, go_sem, h2, asAddr, c0, c1, c2]

/-- put of numbers that were laid just now. -/
theorem bput_new (v : Value) (l : List UInt8) (n : Nat) (N : Int) (hN : N = (n : Int)) (hn8 : n = 1 ∨ n = 2 ∨ n = 4 ∨ n = 8) (xs : List Nat) (w : World) (cs : Array Value) (k : Nat) (hcs : cs = (xs.map fun x : Nat => Value.int .u64 (x : Int)).toArray) (hk : k = xs.length) (h : Rd w v l) (hx : ∀ x ∈ xs, x < 18446744073709551616) (h0 : 0 < xs.length) (hn : xs.length ≤ 100) (hs : l.length ≤ 1000000000) :
    Calls Try.prog 48 #[v, .int .i64 N, .slice (some ⟨w.heap.size, 0, none⟩) k k] (w.alloc (.cells cs 86 (0, 0))) fun e w' => ∃ v', e = .returned v' ∧ Own w' w.heap.size 5 v' (l ++ catBE n xs) ∧ Below w.heap.size w w' := by
  have g : Below w.heap.size w (w.alloc (.cells cs 86 (0, 0))) := (Below.refl _ _).alloc (Nat.le_refl _) _
  refine (bput_any v _ l n N hN hn8 xs _ (h.mono g) (rdV_new w 86 (xs.map fun x : Nat => Value.int .u64 (x : Int)) k cs (by simpa using hk) hcs (by unfold maxLen; omega)) hx h0 hn hs).mono ?_
  rintro e w' ⟨v', h1, h2, h3⟩
  exact ⟨v', h1, h2.base g.size, gr_trans g h3⟩

set_option maxRecDepth 20000 in
set_option maxHeartbeats 1000000 in
theorem putCum_any (cum : Nat) (hc : cum < 4294967296) (w : World) :
    Calls Try.prog 40 #[.int .u32 (cum : Int)] w (RetChk w 5 (cumChk cum)) := by
  have W1 := hid (wrap64_nat cum (by omega))
  obtain ⟨W, hW⟩ : ∃ W, W = w.alloc (.cells #[.int .u8 0, .int .u8 0, .slice none 0 0] 28 (0, 0)) := ⟨_, rfl⟩
  have HQ := hid (show RowV W w.heap.size 28 [.int .u8 0, .int .u8 0, .slice none 0 0] by rw [hW]; exact RowV.new w 28 _)
  have G0 := hid (show Below w.heap.size w W by rw [hW]; exact (Below.refl _ _).alloc (Nat.le_refl _) _)
  have hsz : W.heap.size = w.heap.size + 1 := by rw [hW]; simp
  have HE := hid hW
  have hw := W1.out
  clear hW
  go_enter Try.func40, Try.ntmps40
  go_wp2_with fail
  rw [← HE.out, ← hsz]
  refine (bput_new _ [] 4 _ rfl (by omega) [cum] W _ 1 rfl rfl (Rd.nil _) (by simp; omega) (by simp) (by simp) (by simp)).mono ?_
  rintro e w1 ⟨v1, rfl, ho1, hb1⟩
  rw [show [] ++ catBE 4 [cum] = beBytes 4 cum by simp [catBE]] at ho1
  have HO1 := hid ho1
  obtain ⟨p1, c1, rfl, -, -, -, -⟩ := ho1.rd
  have HQ1 := hid (HQ.out.mono hb1)
  have G1 := hid (gr_trans G0.out hb1)
  clear ho1 hb1
  obtain ⟨q0, q1, q2⟩ := HQ1.out.three
  have f0 := HQ1.out.frozen 0
  have f1 := HQ1.out.frozen 1
  have f2 := HQ1.out.frozen 2
  go_wp2_with fail
  refine putCum_ret (.int .u8 7) (.int .u8 0) (.slice p1 (beBytes 4 cum).length c1) rfl rfl (((HQ1.out.store 0 _).store 1 _).store 2 _) ⟨_, rfl, ?_, ((G1.out.setCell (by simp) _).setCell (by simp) _).setCell (by simp) _⟩
  exact (HO1.out.keep (r := some w.heap.size) (gb_set (gb_set (gb_set (gb_refl _ _) 0 _) 1 _) 2 _) (fun k hk e => by have := HO1.out.ge k hk; simp at e; omega)).base G0.out.size

set_option maxRecDepth 20000 in
set_option maxHeartbeats 1000000 in
theorem putTime_any (k : UInt8) (at_ : Int) (w : World) :
    Calls Try.prog 38 #[.int .u8 (k.toNat : Int), .int .i64 at_] w (RetChk w 5 (timeChk k at_)) := by
  have hw := wrap_time at_
  have HTB := hid (show timeBody at_ = beBytes 2 1 ++ (beBytes 2 12 ++ beBytes 8 (timeN at_)) from rfl)
  have hlt := timeN_lt at_
  show Calls _ _ _ _ (RetChk w 5 ⟨k, 0, timeBody at_⟩)
  rw [HTB.out]
  generalize timeN at_ = tn at *
  obtain ⟨W, hW⟩ : ∃ W, W = w.alloc (.cells #[.int .u8 0, .int .u8 0, .slice none 0 0] 28 (0, 0)) := ⟨_, rfl⟩
  have HQ := hid (show RowV W w.heap.size 28 [.int .u8 0, .int .u8 0, .slice none 0 0] by rw [hW]; exact RowV.new w 28 _)
  have G0 := hid (show Below w.heap.size w W by rw [hW]; exact (Below.refl _ _).alloc (Nat.le_refl _) _)
  have hsz : W.heap.size = w.heap.size + 1 := by rw [hW]; simp
  have HE := hid hW
  clear hW
  go_enter Try.func38, Try.ntmps38
  go_wp2_with fail
  rw [← HE.out, ← hsz]
  refine (bput_new _ [] 2 _ rfl (by omega) [1, 12] W _ 2 rfl rfl (Rd.nil _) (by simp) (by simp) (by simp) (by simp)).mono ?_
  rintro e w1 ⟨v1, rfl, ho1, hb1⟩
  obtain ⟨b4, hb4⟩ : ∃ x, x = [] ++ catBE 2 [1, 12] := ⟨_, rfl⟩
  have HB4 := hid (show b4 = beBytes 2 1 ++ beBytes 2 12 by rw [hb4]; simp [catBE])
  rw [← hb4] at ho1
  have HL4 := hid (show b4.length = 4 by rw [HB4.out]; simp [beBytes_length])
  have HO1 := hid ho1
  obtain ⟨p1, c1, rfl, -, -, -, -⟩ := ho1.rd
  have HQ1 := hid (HQ.out.mono hb1)
  have G1 := hid (gr_trans G0.out hb1)
  clear ho1 hb1 hb4 hsz
  go_wp2_with fail
  refine (bput_new _ b4 8 _ rfl (by omega) [tn] w1 _ 1 rfl rfl HO1.out.rd (by simp; omega) (by simp) (by simp) (by rw [HL4.out]; omega)).mono ?_
  rintro e w2 ⟨v2, rfl, ho2, hb2⟩
  rw [show b4 ++ catBE 8 [tn] = beBytes 2 1 ++ (beBytes 2 12 ++ beBytes 8 tn) by rw [HB4.out]; simp [catBE]] at ho2
  have HO2 := hid ho2
  obtain ⟨p2, c2, rfl, -, -, -, -⟩ := ho2.rd
  have hs1 := G1.out.size
  have hq1 := HQ1.out.lt
  have HQ2 := hid (HQ1.out.mono hb2)
  have G2 := hid (gr_trans G1.out hb2)
  clear ho2 hb2
  obtain ⟨q0, q1, q2⟩ := HQ2.out.three
  have f0 := HQ2.out.frozen 0
  have f1 := HQ2.out.frozen 1
  have f2 := HQ2.out.frozen 2
  go_wp2_with fail
  refine putTime_ret (.int .u8 (k.toNat : Int)) (.int .u8 0) _ rfl rfl (((HQ2.out.store 0 _).store 1 _).store 2 _) ⟨_, rfl, ?_, ((G2.out.setCell (by simp) _).setCell (by simp) _).setCell (by simp) _⟩
  exact (HO2.out.keep (r := some w.heap.size) (gb_set (gb_set (gb_set (gb_refl _ _) 0 _) 1 _) 2 _) (fun k hk e => by have := HO2.out.ge k hk; simp at e; omega)).base hs1

set_option maxRecDepth 20000 in
set_option maxHeartbeats 1000000 in
theorem getTime1_any (k f : UInt8) (s : Value) (at_ : Int) (gc : Nat) (w : World) (hc : RowV w gc 28 [.int .u8 (k.toNat : Int), .int .u8 (f.toNat : Int), s]) :
    Calls Try.prog 63 #[.int .i64 at_, .pointer (some ⟨gc, 0, none⟩)] w (RetChk w 5 (timeChk k at_)) := by
  obtain ⟨W, hW⟩ : ∃ W, W = w.alloc (.cells #[.int .u8 0, .int .u8 0, .slice none 0 0] 28 (0, 0)) := ⟨_, rfl⟩
  have HQ := hid (show RowV W w.heap.size 28 [.int .u8 0, .int .u8 0, .slice none 0 0] by rw [hW]; exact RowV.new w 28 _)
  have G0 := hid (show Below w.heap.size w W by rw [hW]; exact (Below.refl _ _).alloc (Nat.le_refl _) _)
  have c0 : W.cell? ⟨gc, 0, none⟩ = some (.int .u8 (k.toNat : Int)) := (hc.mono G0.out).at 0 (by simp)
  have HE := hid hW
  have hsz : W.heap.size = w.heap.size + 1 := by rw [hW]; simp
  rw [hW] at c0
  clear hW
  go_enter Try.func63, Try.ntmps63
  go_wp2_with fail
  rw [← HE.out]
  refine (putTime_any k at_ _).mono ?_
  rintro e w1 ⟨v1, rfl, ho1, hb1⟩
  have HO1 := hid ho1
  obtain ⟨p1, c1, rfl, -, -, -, -⟩ := ho1.rd
  have HQ1 := hid (HQ.out.mono hb1)
  have G1 := hid (gr_trans G0.out hb1)
  obtain ⟨q0, q1, q2⟩ := HQ1.out.three
  have f0 := HQ1.out.frozen 0
  have f1 := HQ1.out.frozen 1
  have f2 := HQ1.out.frozen 2
  clear ho1 hb1 c0
  simp only [timeChk] at *
  generalize timeBody at_ = tb at *
  go_wp2_with fail
  refine getTime1_ret (.int .u8 (k.toNat : Int)) (.int .u8 0) _ rfl rfl (((HQ1.out.store 0 _).store 1 _).store 2 _) ⟨_, rfl, ?_, ((G1.out.setCell (by simp) _).setCell (by simp) _).setCell (by simp) _⟩
  exact (HO1.out.keep (r := some w.heap.size) (gb_set (gb_set (gb_set (gb_refl _ _) 0 _) 1 _) 2 _) (fun k hk e => by have := HO1.out.ge k hk; simp at e; omega)).base G0.out.size
end Go.Proofs.Ytfiblhdejglpaaa

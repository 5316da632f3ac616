/- What chunk.Read answers. Conditions: what comes in reads as bytes. -/
import Derived.Test.YtbjmakckljjbiaaChunkTake
import Derived.RegionTactic
import Derived.ChangeAlike
import Derived.Deep.RegionHeld3
namespace Go.FL
open Go.RowKit
/-- What is told of bytes: the chunk, how many bytes it has, the error's number. -/
def chkTells (l : List UInt8) : Chk × Nat × Int := if chkOk l = true then (chkOf l, chkSize l, 0) else (Chk.zero, 0, 7)
def TellsChk (w : World) (e : Nat) (t : Chk × Nat × Int) (en : Ending) (w' : World) : Prop :=
  ∃ s, en = .returned (.tuple #[.agg #[.int .u8 (t.1.k.toNat : Int), .int .u8 (t.1.f.toNat : Int), s], .int .i64 (t.2.1 : Int), .int .i64 t.2.2]) ∧ Own w' w.heap.size e s t.1.b ∧ Below w.heap.size w w'
theorem Chg.undrew {S : Nat → Prop} {a b : World} (h : Chg S a.drew b) : Chg S a b := ⟨h.os, h.tape, h.output, h.size, h.block⟩
theorem cell_blk {w : World} {g b i j : Nat} (u : Value) (h : g ≠ b) : (w.setCell ⟨g, i, none⟩ u).cell? ⟨b, j, none⟩ = w.cell? ⟨b, j, none⟩ := by
  simp [World.cell?, Below.heap_setCell w ⟨g, i, none⟩ u b (Ne.symm h)]
def zeroChk : List Value := [.int .u8 0, .int .u8 0, .slice none 0 0]
end Go.FL
namespace Go.Proofs.Ytbjmakckljjbiaa
open Go.RowKit Go.FL

/-- How it stands with the variables of Read: the bytes, the chunk that is to be told, how far it has read, whether it is fine. -/
def CrSt (w : World) (v : Value) (n : Nat) (fine : Bool) (W : World) : Prop :=
  RowV W w.heap.size 22 [v] ∧ RowV W (w.heap.size + 1) 24 zeroChk ∧ RowV W (w.heap.size + 1 + 1) 3 [.int .i64 (n : Int)] ∧ RowV W (w.heap.size + 1 + 1 + 1) 4 [.bool fine] ∧ Below w.heap.size w W
def CrS (w : World) : Nat → Prop := fun g => g = w.heap.size + 1 + 1 ∨ g = w.heap.size + 1 + 1 + 1
theorem CrSt.start (w : World) (v : Value) : CrSt w v 0 true ((((w.alloc (.cells #[v] 22 (0, 0))).alloc (.cells #[.int .u8 0, .int .u8 0, .slice none 0 0] 24 (0, 0))).alloc (.cells #[.int .i64 0] 3 (0, 0))).alloc (.cells #[.bool true] 4 (0, 0))) := by
  have a1 : Below w.heap.size w (w.alloc (.cells #[v] 22 (0, 0))) := (Below.refl _ _).alloc (Nat.le_refl _) _
  have a2 := a1.alloc (by simp) (.cells #[.int .u8 0, .int .u8 0, .slice none 0 0] 24 (0, 0))
  have a3 := a2.alloc (by simp; omega) (.cells #[.int .i64 0] 3 (0, 0))
  have a4 := a3.alloc (by simp; omega) (.cells #[.bool true] 4 (0, 0))
  refine ⟨(((RowV.new w 22 [v]).alloc _).alloc _).alloc _, ?_, ?_, ?_, a4⟩
  · have := ((RowV.new (w.alloc (.cells #[v] 22 (0, 0))) 24 zeroChk).alloc (.cells #[.int .i64 0] 3 (0, 0))).alloc (.cells #[.bool true] 4 (0, 0))
    simpa [zeroChk] using this
  · have := (RowV.new ((w.alloc (.cells #[v] 22 (0, 0))).alloc (.cells #[.int .u8 0, .int .u8 0, .slice none 0 0] 24 (0, 0))) 3 [.int .i64 0]).alloc (.cells #[.bool true] 4 (0, 0))
    simpa using this
  · have := RowV.new (((w.alloc (.cells #[v] 22 (0, 0))).alloc (.cells #[.int .u8 0, .int .u8 0, .slice none 0 0] 24 (0, 0))).alloc (.cells #[.int .i64 0] 3 (0, 0))) 4 [.bool true]
    simpa using this
theorem CrSt.take_ok {w W : World} {v : Value} {i : Nat} {fine : Bool} (h : CrSt w v i fine W) (l : List UInt8) (k : Nat) (K : Int) (hK : K = (k : Int)) (hv : Rd w v l) (hik : i + k ≤ l.length) (hs : l.length ≤ 140737488355320) :
    Calls Try.prog 26 #[.int .i64 K, .pointer (some ⟨w.heap.size, 0, none⟩), .pointer (some ⟨w.heap.size + 1 + 1, 0, none⟩), .pointer (some ⟨w.heap.size + 1 + 1 + 1, 0, none⟩)] W fun e W' =>
      ∃ p' c', e = .returned (.slice p' k c') ∧ Own W' W.heap.size 5 (.slice p' k c') ((l.drop i).take k) ∧ CrSt w v (i + k) fine W' ∧ Chg (CrS w) W W' := by
  obtain ⟨h1, h2, h3, h4, h5⟩ := h
  refine (Go.Proofs.Ytbjmakckljjbiaa.take_ok w.heap.size (w.heap.size + 1 + 1) (w.heap.size + 1 + 1 + 1) (by omega) (by omega) (by omega) v l i k K hK fine W h1 h3 h4 (hv.mono h5) hik hs).mono ?_
  rintro e W' ⟨v', rfl, ho, hn, hf, hc⟩
  have hlt := h4.lt
  obtain ⟨p', c', rfl, _, _, _, _⟩ := ho.rd
  have hk : ((l.drop i).take k).length = k := by simp; omega
  rw [hk] at ho ⊢
  refine ⟨p', c', rfl, ho, ⟨h1.chg hc (by omega), h2.chg hc (by omega), hn, hf, h5.trans (hc.below (by omega) (by omega))⟩, hc⟩
theorem CrSt.take_no {w W : World} {v : Value} {i : Nat} {fine : Bool} (h : CrSt w v i fine W) (l : List UInt8) (K : Int) (hv : Rd w v l) (hi : i ≤ 140737488355320) (hno : withinB l.length (i : Int) K = false) :
    Calls Try.prog 26 #[.int .i64 K, .pointer (some ⟨w.heap.size, 0, none⟩), .pointer (some ⟨w.heap.size + 1 + 1, 0, none⟩), .pointer (some ⟨w.heap.size + 1 + 1 + 1, 0, none⟩)] W fun e W' =>
      e = .returned (.slice none 0 0) ∧ CrSt w v i false W' ∧ Chg (CrS w) W W' := by
  obtain ⟨h1, h2, h3, h4, h5⟩ := h
  refine (Go.Proofs.Ytbjmakckljjbiaa.take_no w.heap.size (w.heap.size + 1 + 1) (w.heap.size + 1 + 1 + 1) (by omega) v l i K fine W h1 h3 h4 (hv.mono h5) hi hno).mono ?_
  rintro e W' ⟨rfl, hn, hf, hc⟩
  have hlt := h4.lt
  exact ⟨rfl, ⟨h1.chg hc (by omega), h2.chg hc (by omega), hn, hf, h5.trans (hc.below (by omega) (by omega))⟩, hc⟩
theorem CrSt.drew {w W : World} {v : Value} {i : Nat} {fine : Bool} (h : CrSt w v i fine W) : CrSt w v i fine W.drew := ⟨h.1, h.2.1, h.2.2.1, h.2.2.2.1, h.2.2.2.2.drew⟩
theorem CrSt.fine {w W : World} {v : Value} {i : Nat} {fine : Bool} (h : CrSt w v i fine W) (b : Bool) : CrSt w v i b (W.setCell ⟨w.heap.size + 1 + 1 + 1, 0, none⟩ (.bool b)) :=
  ⟨h.1.other _ _ (by simp; omega), h.2.1.other _ _ (by simp; omega), h.2.2.1.other _ _ (by simp), h.2.2.2.1.store 0 (.bool b), h.2.2.2.2.setCell (by simp; omega) _⟩
theorem CrS.fine {w W : World} (b : Bool) : Chg (CrS w) W (W.setCell ⟨w.heap.size + 1 + 1 + 1, 0, none⟩ (.bool b)) := (Chg.refl _ _).set _ _ (.inl (.inr rfl))
theorem CrSt.cells {w W : World} {v : Value} {i : Nat} {fine : Bool} (h : CrSt w v i fine W) :
    W.cell? ⟨w.heap.size + 1 + 1, 0, none⟩ = some (.int .i64 (i : Int)) ∧ W.frozen? ⟨w.heap.size + 1 + 1, 0, none⟩ = false ∧ W.cell? ⟨w.heap.size + 1 + 1 + 1, 0, none⟩ = some (.bool fine) ∧ W.frozen? ⟨w.heap.size + 1 + 1 + 1, 0, none⟩ = false :=
  ⟨by have := h.2.2.1.at 0 (by simp); simpa using this, h.2.2.1.frozen 0, by have := h.2.2.2.1.at 0 (by simp); simpa using this, h.2.2.2.1.frozen 0⟩
theorem CrSt.zeros {w W : World} {v : Value} {i : Nat} {fine : Bool} (h : CrSt w v i fine W) :
    W.cell? ⟨w.heap.size + 1, 0, none⟩ = some (.int .u8 0) ∧ W.cell? ⟨w.heap.size + 1, 1, none⟩ = some (.int .u8 0) ∧ W.cell? ⟨w.heap.size + 1, 2, none⟩ = some (.slice none 0 0) ∧ W.frozen? ⟨w.heap.size + 1, 0, none⟩ = false ∧ W.frozen? ⟨w.heap.size + 1, 1, none⟩ = false ∧ W.frozen? ⟨w.heap.size + 1, 2, none⟩ = false :=
  ⟨by have := h.2.1.at 0 (by simp [zeroChk]); simpa [zeroChk] using this, by have := h.2.1.at 1 (by simp [zeroChk]); simpa [zeroChk] using this, by have := h.2.1.at 2 (by simp [zeroChk]); simpa [zeroChk] using this, h.2.1.frozen 0, h.2.1.frozen 1, h.2.1.frozen 2⟩

/-- The end of Read. -/
theorem cread_ret {a : Act} {W : World} {g n : Nat} {R : Ending → World → Prop} (k f s : Value) (m er : Int) (h2 : a.tmps.getD 2 undef = .pointer (some ⟨g, 0, none⟩)) (h3 : a.tmps.getD 3 undef = .pointer (some ⟨n, 0, none⟩)) (h4 : a.tmps.getD 4 undef = .int .i64 er) (hd : a.defers = [])
    (hc : RowV W g 24 [k, f, s]) (hn : RowV W n 3 [.int .i64 m]) (hR : R (.returned (.tuple #[.agg #[k, f, s], .int .i64 m, .int .i64 er])) W) : bodyPost Try.prog Try.f18 R .ret a W := by
  refine bodyPost_ret (v := .tuple #[.agg #[k, f, s], .int .i64 m, .int .i64 er]) ?_ hd hR
  have c0 : W.cell? ⟨g, 0, none⟩ = some k := hc.at 0 (by simp)
  have c1 : W.cell? ⟨g, 1, none⟩ = some f := hc.at 1 (by simp)
  have c2 : W.cell? ⟨g, 2, none⟩ = some s := hc.at 2 (by simp)
  have cn : W.cell? ⟨n, 0, none⟩ = some (.int .i64 m) := hn.at 0 (by simp)
  simp only [Array.getD_eq_getD_getElem?] at h2 h3 h4
  simp [results, Try.results18, go_sem, h2, h3, h4, asAddr, c0, c1, c2, cn]

set_option maxRecDepth 20000 in
set_option maxHeartbeats 1000000 in
theorem cread_short (v : Value) (l : List UInt8) (w : World) (hv : Rd w v l) (h4 : l.length < 4) :
    Calls Try.prog 18 #[v] w (TellsChk w 5 (chkTells l)) := by
  have HV := hid hv
  obtain ⟨p, c, rfl, hlc, hcm, hpn, hcell⟩ := hv
  unfold maxLen at hcm
  clear hcell
  have HT := hid (show chkTells l = (Chk.zero, 0, 7) by rw [chkTells, if_neg (by simp only [chkOk, decide_eq_true_eq]; omega)])
  have HS := hid (CrSt.start w (.slice p l.length c))
  go_enter Try.func18, Try.ntmps18
  go_wp2_with fail
  refine (HS.out.take_no l 4 HV.out (by omega) (by simp [withinB]; omega)).mono ?_
  rintro e w1 ⟨rfl, hs1, hc1⟩
  obtain ⟨cn, fn, cf, ff⟩ := hs1.cells
  obtain ⟨z0, z1, z2, y0, y1, y2⟩ := hs1.zeros
  have HS1 := hid hs1
  clear hs1 hc1
  go_wp2_with fail
  have hz := ((HS1.out.2.1.store 0 (.int .u8 0)).store 1 (.int .u8 0)).store 2 (.slice none 0 0)
  have hn := ((HS1.out.2.2.1.other ⟨w.heap.size + 1, 0, none⟩ (.int .u8 0) (by simp)).other ⟨w.heap.size + 1, 1, none⟩ (.int .u8 0) (by simp)).other ⟨w.heap.size + 1, 2, none⟩ (.slice none 0 0) (by simp)
  refine cread_ret (.int .u8 0) (.int .u8 0) (.slice none 0 0) 0 7 rfl rfl rfl rfl (hz.other ⟨w.heap.size + 1 + 1, 0, none⟩ _ (by simp)) (hn.store 0 _) ⟨.slice none 0 0, by rw [HT.out]; rfl, by rw [HT.out]; exact Own.nil _ _ _, ?_⟩
  exact (((HS1.out.2.2.2.2.setCell (by simp) _).setCell (by simp) _).setCell (by simp) _).setCell (by simp; omega) _
end Go.Proofs.Ytbjmakckljjbiaa

/- Joined: ChunkProg, ChunkTake, ChunkRead, ChunkReadB. -/
import Derived.Test.YtahpklciafpdaaaBaseD
import Derived.Test.YtahpklciafpdaaaBaseE
import Derived.Test.YtahpklciafpdaaaChg
import Derived.RegionTactic
import Derived.ChangeAlike
import Derived.Deep.RegionHeld3
set_option linter.unusedSimpArgs false
set_option linter.unusedVariables false
namespace Go.Proofs.Ytahpklciafpdaaa
open Go.RowKit Go.FL

set_option maxRecDepth 20000 in
set_option maxHeartbeats 1000000 in
theorem cwrite_any (v : Value) (c : Chk) (w : World) (h : ChkAt w v c) (hs : c.b.length ≤ 140737488350000) :
    Calls Try.prog 33 #[v] w (RetOwn w 5 c.bytes) := by
  obtain ⟨s, rfl, hrd⟩ := h
  have HV := hid hrd
  obtain ⟨p, cp, rfl, hlc, hcm, hpn, hcell⟩ := hrd
  unfold maxLen at hcm
  clear hcell
  obtain ⟨kk, ff, b⟩ := c
  simp only at *
  have hbk := byte_lt kk
  have hbf := byte_lt ff
  obtain ⟨W, hW⟩ : ∃ W, W = w.alloc (.cells #[.int .u8 (kk.toNat : Int), .int .u8 (ff.toNat : Int), .slice p b.length cp] 41 (0, 0)) := ⟨_, rfl⟩
  have hr : W.heap[w.heap.size]? = some (.cells #[.int .u8 (kk.toNat : Int), .int .u8 (ff.toNat : Int), .slice p b.length cp] 41 (0, 0)) := by rw [hW]; exact heap_alloc_new w _
  have c2 : W.cell? ⟨w.heap.size, 2, none⟩ = some (.slice p b.length cp) := by simp [World.cell?, hr]
  have HW := hid (show Below w.heap.size w W by rw [hW]; exact (Below.refl _ _).alloc (Nat.le_refl _) _)
  have HVW := hid (HV.out.mono HW.out)
  have HE := hid hW
  have HSZ := hid (show W.heap.size = w.heap.size + 1 by rw [hW]; simp)
  clear hr hW
  by_cases hbig : 65531 < b.length
  · go_enter Try.func33, Try.ntmps33
    go_wp2
    go_ret
    exact ⟨_, rfl, by rw [Chk.bytes_big _ hbig]; exact Own.nil _ _ _, (Below.refl _ _).alloc (Nat.le_refl _) _⟩
  · have HBY := hid (show (⟨kk, ff, b⟩ : Chk).bytes = padded ([kk, ff] ++ beBytes 2 (4 + b.length) ++ b) by rw [Chk.bytes, if_neg hbig]; rfl)
    have HHL := hid (show ([kk, ff] ++ beBytes 2 (4 + b.length)).length = 4 by simp [beBytes_length])
    generalize hhd : [kk, ff] ++ beBytes 2 (4 + b.length) = hd at *
    have HHD := hid hhd
    clear hhd
    go_enter Try.func33, Try.ntmps33
    go_wp2_with fail
    rw [← HE.out]
    have hnew := rd_new W 5 [kk, ff] 2 _ rfl rfl (by unfold maxLen; omega)
    rw [HSZ.out] at hnew
    have HNEW := hid hnew
    clear hnew
    have HBN := hid (show Below W.heap.size W (W.alloc (.cells (bytesV [kk, ff]).toArray 5 (0, 0))) from (Below.refl _ _).alloc (Nat.le_refl _) _)
    refine (put_at _ [kk, ff] (4 + b.length) 2 _ _ (by omega) rfl (by omega) _ HNEW.out (by simp) (by omega)).mono ?_
    rw [HHD.out]
    rintro e w1 ⟨v1, rfl, ho1, hb1⟩
    have HO1 := hid ho1
    have G1 := hid (gr_trans HBN.out hb1)
    have d2 := cell?_of_below (gr_trans HBN.out hb1) c2
    have HS1 := hid hb1.size
    clear ho1 hb1 c2
    go_wp2_with (at_builtin; refine wpList_append_Own rfl (.tmp 19) (.tmp 21) 29 rfl _ 5 Try.underlying29 infoU8o _ _ hd b rfl HO1.out rfl (HVW.out.mono G1.out) ?hlen HS1.out ?_)
    case hlen => have := HHL.out; omega
    intro v2 w2 ho2 hg2
    have HO2 := hid ho2
    have G2 := hid (G1.out.grown hg2 (Nat.le_trans HBN.out.size HS1.out) (fun k hk => Nat.le_trans HBN.out.size (HO1.out.ge k hk)))
    have HLN := hid (show (hd ++ b).length ≤ 140737488355300 by rw [List.length_append, HHL.out]; omega)
    clear ho2 hg2
    go_wp2_with fail
    refine (pad_any _ (hd ++ b) _ HO2.out.rd HLN.out).mono ?_
    rw [← HBY.out]
    rintro e w3 ⟨v3, rfl, ho3, hb3⟩
    have hle : w.heap.size ≤ w2.heap.size := Nat.le_trans HW.out.size G2.out.size
    go_wp2_with fail
    go_ret
    exact ⟨_, rfl, ho3.base hle, gr_trans HW.out (gr_trans G2.out hb3)⟩
end Go.Proofs.Ytahpklciafpdaaa

namespace Go.Proofs.Ytahpklciafpdaaa
open Go.RowKit Go.FL

set_option maxRecDepth 20000 in
set_option maxHeartbeats 1000000 in
theorem take_ok (gb gn gf : Nat) (hnf : gn ≠ gf) (hbn : gb ≠ gn) (hbf : gb ≠ gf) (v : Value) (l : List UInt8) (i k : Nat) (K : Int) (hK : K = (k : Int)) (fine : Bool) (w : World) (hb : RowV w gb 29 [v]) (hn : RowV w gn 3 [.int .i64 (i : Int)]) (hf : RowV w gf 4 [.bool fine])
    (hv : Rd w v l) (hik : i + k ≤ l.length) (hs : l.length ≤ 140737488355320) :
    Calls Try.prog 66 #[.int .i64 K, .pointer (some ⟨gb, 0, none⟩), .pointer (some ⟨gn, 0, none⟩), .pointer (some ⟨gf, 0, none⟩)] w fun e w' =>
      ∃ v', e = .returned v' ∧ Own w' w.heap.size 5 v' ((l.drop i).take k) ∧ RowV w' gn 3 [.int .i64 ((i + k : Nat) : Int)] ∧ RowV w' gf 4 [.bool fine] ∧ Chg (fun g => g = gn ∨ g = gf) w w' := by
  subst hK
  have cb := hb.at 0 (by simp)
  have cn := hn.at 0 (by simp)
  simp only [List.getElem_cons_zero] at cb cn
  have HV := hid hv
  have HN := hid hn
  have HF := hid hf
  have hpl : ((l.drop i).take k).length = k := by simp; omega
  have HPL := hid hpl
  clear hv hb hn hf hpl
  go_enter Try.func66, Try.ntmps66
  go_wp2_with fail
  refine (cut_at _ l i k _ _ rfl rfl _ HV.out hik hs).mono ?_
  rintro e w1 ⟨v1, rfl, ho1, hb1⟩
  obtain ⟨p1, c1, hv1, _, _, _, _⟩ := ho1.rd
  rename_i k1 k2 k3 k4
  clear k1 k2 k3 k4
  rw [HPL.out] at hv1
  subst hv1
  have hf1 := HF.out.mono hb1
  have hn1 := HN.out.mono hb1
  have cf1 := hf1.at 0 (by simp)
  have ff1 := hf1.frozen 0
  have cn1 := hn1.at 0 (by simp)
  have fn1 := hn1.frozen 0
  simp only [List.getElem_cons_zero] at cf1 cn1
  have hlt : gf < w1.heap.size := hf1.lt
  have hlt2 : gn < w1.heap.size := hn1.lt
  have hfw : gf < w.heap.size := HF.out.lt
  have hnw : gn < w.heap.size := HN.out.lt
  obtain ⟨w2, hw2⟩ : ∃ w2, w2 = w1.setCell ⟨gf, 0, none⟩ (.bool fine) := ⟨_, rfl⟩
  obtain ⟨w3, hw3⟩ : ∃ w3, w3 = w2.setCell ⟨gn, 0, none⟩ (.int .i64 ((i + k : Nat) : Int)) := ⟨_, rfl⟩
  have hn2 : RowV w2 gn 3 [.int .i64 (i : Int)] := by rw [hw2]; exact hn1.other _ _ (by simpa using Ne.symm hnf)
  have hf2 : RowV w2 gf 4 [.bool fine] := by rw [hw2]; exact hf1.store 0 (.bool fine)
  have HN3 := hid (show RowV w3 gn 3 [.int .i64 ((i + k : Nat) : Int)] by rw [hw3]; exact hn2.store 0 _)
  have HF3 := hid (show RowV w3 gf 4 [.bool fine] by rw [hw3]; exact hf2.other _ _ (by simpa using hnf))
  have hc1 : Chg (fun g => g = gn ∨ g = gf) w w1 := Chg.of_gr hb1
  have HC := hid (show Chg (fun g => g = gn ∨ g = gf) w w3 by rw [hw3, hw2]; exact (hc1.set _ _ (.inl (.inr rfl))).set _ _ (.inl (.inl rfl)))
  have hc13 : Chg (fun g => g = gn ∨ g = gf) w1 w3 := by rw [hw3, hw2]; exact ((Chg.refl _ _).set _ _ (.inl (.inr rfl))).set _ _ (.inl (.inl rfl))
  have HO := hid (ho1.chg hc13 (fun q hq => by
    have := ho1.ge q hq
    omega))
  have c2 := hn2.at 0 (by simp)
  have f2 := hn2.frozen 0
  simp only [List.getElem_cons_zero] at c2
  rw [hw2] at c2 f2
  have HW2 := hid hw2
  have HW3 := hid hw3
  have hik64 : (i : Int) + (k : Int) ≤ 9223372036854775807 := by omega
  have hsum : ((i + k : Nat) : Int) = (i : Int) + (k : Int) := by omega
  cases fine
  all_goals
    clear ho1 hb1 hf1 hn1 hn2 hf2 hc1 hc13 hw2 hw3 HF HN
    rw [hsum] at HN3 HW3
    clear hsum
    go_wp2_with fail
    go_ret
    refine ⟨_, rfl, ?_⟩
    rw [← HW2.out, ← HW3.out]
    exact ⟨HO.out, by have := HN3.out; simpa using this, HF3.out, HC.out⟩

set_option maxRecDepth 20000 in
set_option maxHeartbeats 1000000 in
theorem take_no (gb gn gf : Nat) (hnf : gn ≠ gf) (v : Value) (l : List UInt8) (i : Nat) (K : Int) (fine : Bool) (w : World) (hb : RowV w gb 29 [v]) (hn : RowV w gn 3 [.int .i64 (i : Int)]) (hf : RowV w gf 4 [.bool fine])
    (hv : Rd w v l) (hi : i ≤ 140737488355320) (hno : withinB l.length (i : Int) K = false) :
    Calls Try.prog 66 #[.int .i64 K, .pointer (some ⟨gb, 0, none⟩), .pointer (some ⟨gn, 0, none⟩), .pointer (some ⟨gf, 0, none⟩)] w fun e w' =>
      e = .returned (.slice none 0 0) ∧ RowV w' gn 3 [.int .i64 (i : Int)] ∧ RowV w' gf 4 [.bool false] ∧ Chg (fun g => g = gn ∨ g = gf) w w' := by
  have cb := hb.at 0 (by simp)
  have cn := hn.at 0 (by simp)
  have cf := hf.at 0 (by simp)
  have ff := hf.frozen 0
  have fn := hn.frozen 0
  simp only [List.getElem_cons_zero] at cb cn cf
  have HV := hid hv
  have HNO := hid hno
  have c2 : (w.setCell ⟨gf, 0, none⟩ (.bool false)).cell? ⟨gn, 0, none⟩ = some (.int .i64 (i : Int)) := by
    have := (hn.other ⟨gf, 0, none⟩ (.bool false) (by simpa using Ne.symm hnf)).at 0 (by simp)
    simpa using this
  have f2 : (w.setCell ⟨gf, 0, none⟩ (.bool false)).frozen? ⟨gn, 0, none⟩ = false := (hn.other ⟨gf, 0, none⟩ (.bool false) (by simpa using Ne.symm hnf)).frozen 0
  have HN3 := hid (show RowV ((w.setCell ⟨gf, 0, none⟩ (.bool false)).setCell ⟨gn, 0, none⟩ (.int .i64 (i : Int))) gn 3 [.int .i64 (i : Int)] from (hn.other ⟨gf, 0, none⟩ (.bool false) (by simpa using Ne.symm hnf)).store 0 _)
  have HF3 := hid (show RowV ((w.setCell ⟨gf, 0, none⟩ (.bool false)).setCell ⟨gn, 0, none⟩ (.int .i64 (i : Int))) gf 4 [.bool false] from (hf.store 0 (.bool false)).other _ _ (by simpa using hnf))
  have HC := hid (show Chg (fun g => g = gn ∨ g = gf) w ((w.setCell ⟨gf, 0, none⟩ (.bool false)).setCell ⟨gn, 0, none⟩ (.int .i64 (i : Int))) from ((Chg.refl _ _).set _ _ (.inl (.inr rfl))).set _ _ (.inl (.inl rfl)))
  clear hv hb hn hf hno
  cases fine
  all_goals
    go_enter Try.func66, Try.ntmps66
    go_wp2_with fail
    refine (cut_no _ l i K _ HV.out HNO.out).mono ?_
    rintro e w1 ⟨rfl, rfl⟩
    go_wp2_with fail
    go_ret
    exact ⟨rfl, HN3.out, HF3.out, HC.out⟩
end Go.Proofs.Ytahpklciafpdaaa

namespace Go.FL
open Go.RowKit
/-- What is told of bytes: the chunk, how many bytes it has, the error's number. -/
def chkTells (l : List UInt8) : Chk × Nat × Int := if chkOk l = true then (chkOf l, chkSize l, 0) else (Chk.zero, 0, 7)
def TellsChk (w : World) (e : Nat) (t : Chk × Nat × Int) (en : Ending) (w' : World) : Prop :=
  ∃ s, en = .returned (.tuple #[.agg #[.int .u8 (t.1.k.toNat : Int), .int .u8 (t.1.f.toNat : Int), s], .int .i64 (t.2.1 : Int), .int .i64 t.2.2]) ∧ Own w' w.heap.size e s t.1.b ∧ Below w.heap.size w w'
theorem Chg.undrew {S : Nat → Prop} {a b : World} (h : Chg S a.drew b) : Chg S a b := ⟨h.os, h.tape, h.output, h.size, h.block⟩
theorem cell_blk {w : World} {g b i j : Nat} (u : Value) (h : g ≠ b) : (w.setCell ⟨g, i, none⟩ u).cell? ⟨b, j, none⟩ = w.cell? ⟨b, j, none⟩ := by
  simp [World.cell?, Below.heap_setCell w ⟨g, i, none⟩ u b (Ne.symm h)]
def zeroChk : List Value := [.int .u8 0, .int .u8 0, .slice none 0 0]
end Go.FL
namespace Go.Proofs.Ytahpklciafpdaaa
open Go.RowKit Go.FL

/-- How it stands with the variables of Read: the bytes, the chunk that is to be told, how far it has read, whether it is fine. -/
def CrSt (w : World) (v : Value) (n : Nat) (fine : Bool) (W : World) : Prop :=
  RowV W w.heap.size 29 [v] ∧ RowV W (w.heap.size + 1) 41 zeroChk ∧ RowV W (w.heap.size + 1 + 1) 3 [.int .i64 (n : Int)] ∧ RowV W (w.heap.size + 1 + 1 + 1) 4 [.bool fine] ∧ Below w.heap.size w W
def CrS (w : World) : Nat → Prop := fun g => g = w.heap.size + 1 + 1 ∨ g = w.heap.size + 1 + 1 + 1
theorem CrSt.start (w : World) (v : Value) : CrSt w v 0 true ((((w.alloc (.cells #[v] 29 (0, 0))).alloc (.cells #[.int .u8 0, .int .u8 0, .slice none 0 0] 41 (0, 0))).alloc (.cells #[.int .i64 0] 3 (0, 0))).alloc (.cells #[.bool true] 4 (0, 0))) := by
  have a1 : Below w.heap.size w (w.alloc (.cells #[v] 29 (0, 0))) := (Below.refl _ _).alloc (Nat.le_refl _) _
  have a2 := a1.alloc (by simp) (.cells #[.int .u8 0, .int .u8 0, .slice none 0 0] 41 (0, 0))
  have a3 := a2.alloc (by simp; omega) (.cells #[.int .i64 0] 3 (0, 0))
  have a4 := a3.alloc (by simp; omega) (.cells #[.bool true] 4 (0, 0))
  refine ⟨(((RowV.new w 29 [v]).alloc _).alloc _).alloc _, ?_, ?_, ?_, a4⟩
  · have := ((RowV.new (w.alloc (.cells #[v] 29 (0, 0))) 41 zeroChk).alloc (.cells #[.int .i64 0] 3 (0, 0))).alloc (.cells #[.bool true] 4 (0, 0))
    simpa [zeroChk] using this
  · have := (RowV.new ((w.alloc (.cells #[v] 29 (0, 0))).alloc (.cells #[.int .u8 0, .int .u8 0, .slice none 0 0] 41 (0, 0))) 3 [.int .i64 0]).alloc (.cells #[.bool true] 4 (0, 0))
    simpa using this
  · have := RowV.new (((w.alloc (.cells #[v] 29 (0, 0))).alloc (.cells #[.int .u8 0, .int .u8 0, .slice none 0 0] 41 (0, 0))).alloc (.cells #[.int .i64 0] 3 (0, 0))) 4 [.bool true]
    simpa using this
theorem CrSt.take_ok {w W : World} {v : Value} {i : Nat} {fine : Bool} (h : CrSt w v i fine W) (l : List UInt8) (k : Nat) (K : Int) (hK : K = (k : Int)) (hv : Rd w v l) (hik : i + k ≤ l.length) (hs : l.length ≤ 140737488355320) :
    Calls Try.prog 66 #[.int .i64 K, .pointer (some ⟨w.heap.size, 0, none⟩), .pointer (some ⟨w.heap.size + 1 + 1, 0, none⟩), .pointer (some ⟨w.heap.size + 1 + 1 + 1, 0, none⟩)] W fun e W' =>
      ∃ p' c', e = .returned (.slice p' k c') ∧ Own W' W.heap.size 5 (.slice p' k c') ((l.drop i).take k) ∧ CrSt w v (i + k) fine W' ∧ Chg (CrS w) W W' := by
  obtain ⟨h1, h2, h3, h4, h5⟩ := h
  refine (Go.Proofs.Ytahpklciafpdaaa.take_ok w.heap.size (w.heap.size + 1 + 1) (w.heap.size + 1 + 1 + 1) (by omega) (by omega) (by omega) v l i k K hK fine W h1 h3 h4 (hv.mono h5) hik hs).mono ?_
  rintro e W' ⟨v', rfl, ho, hn, hf, hc⟩
  have hlt := h4.lt
  obtain ⟨p', c', rfl, _, _, _, _⟩ := ho.rd
  have hk : ((l.drop i).take k).length = k := by simp; omega
  rw [hk] at ho ⊢
  refine ⟨p', c', rfl, ho, ⟨h1.chg hc (by omega), h2.chg hc (by omega), hn, hf, h5.trans (hc.below (by omega) (by omega))⟩, hc⟩
theorem CrSt.take_no {w W : World} {v : Value} {i : Nat} {fine : Bool} (h : CrSt w v i fine W) (l : List UInt8) (K : Int) (hv : Rd w v l) (hi : i ≤ 140737488355320) (hno : withinB l.length (i : Int) K = false) :
    Calls Try.prog 66 #[.int .i64 K, .pointer (some ⟨w.heap.size, 0, none⟩), .pointer (some ⟨w.heap.size + 1 + 1, 0, none⟩), .pointer (some ⟨w.heap.size + 1 + 1 + 1, 0, none⟩)] W fun e W' =>
      e = .returned (.slice none 0 0) ∧ CrSt w v i false W' ∧ Chg (CrS w) W W' := by
  obtain ⟨h1, h2, h3, h4, h5⟩ := h
  refine (Go.Proofs.Ytahpklciafpdaaa.take_no w.heap.size (w.heap.size + 1 + 1) (w.heap.size + 1 + 1 + 1) (by omega) v l i K fine W h1 h3 h4 (hv.mono h5) hi hno).mono ?_
  rintro e W' ⟨rfl, hn, hf, hc⟩
  have hlt := h4.lt
  exact ⟨rfl, ⟨h1.chg hc (by omega), h2.chg hc (by omega), hn, hf, h5.trans (hc.below (by omega) (by omega))⟩, hc⟩
theorem CrSt.drew {w W : World} {v : Value} {i : Nat} {fine : Bool} (h : CrSt w v i fine W) : CrSt w v i fine W.drew := ⟨h.1, h.2.1, h.2.2.1, h.2.2.2.1, h.2.2.2.2.drew⟩
theorem CrSt.fine {w W : World} {v : Value} {i : Nat} {fine : Bool} (h : CrSt w v i fine W) (b : Bool) : CrSt w v i b (W.setCell ⟨w.heap.size + 1 + 1 + 1, 0, none⟩ (.bool b)) :=
  ⟨h.1.other _ _ (by simp; omega), h.2.1.other _ _ (by simp; omega), h.2.2.1.other _ _ (by simp), h.2.2.2.1.store 0 (.bool b), h.2.2.2.2.setCell (by simp; omega) _⟩
theorem CrS.fine {w W : World} (b : Bool) : Chg (CrS w) W (W.setCell ⟨w.heap.size + 1 + 1 + 1, 0, none⟩ (.bool b)) := (Chg.refl _ _).set _ _ (.inl (.inr rfl))
theorem CrSt.cells {w W : World} {v : Value} {i : Nat} {fine : Bool} (h : CrSt w v i fine W) :
    W.cell? ⟨w.heap.size + 1 + 1, 0, none⟩ = some (.int .i64 (i : Int)) ∧ W.frozen? ⟨w.heap.size + 1 + 1, 0, none⟩ = false ∧ W.cell? ⟨w.heap.size + 1 + 1 + 1, 0, none⟩ = some (.bool fine) ∧ W.frozen? ⟨w.heap.size + 1 + 1 + 1, 0, none⟩ = false :=
  ⟨by have := h.2.2.1.at 0 (by simp); simpa using this, h.2.2.1.frozen 0, by have := h.2.2.2.1.at 0 (by simp); simpa using this, h.2.2.2.1.frozen 0⟩
theorem CrSt.zeros {w W : World} {v : Value} {i : Nat} {fine : Bool} (h : CrSt w v i fine W) :
    W.cell? ⟨w.heap.size + 1, 0, none⟩ = some (.int .u8 0) ∧ W.cell? ⟨w.heap.size + 1, 1, none⟩ = some (.int .u8 0) ∧ W.cell? ⟨w.heap.size + 1, 2, none⟩ = some (.slice none 0 0) ∧ W.frozen? ⟨w.heap.size + 1, 0, none⟩ = false ∧ W.frozen? ⟨w.heap.size + 1, 1, none⟩ = false ∧ W.frozen? ⟨w.heap.size + 1, 2, none⟩ = false :=
  ⟨by have := h.2.1.at 0 (by simp [zeroChk]); simpa [zeroChk] using this, by have := h.2.1.at 1 (by simp [zeroChk]); simpa [zeroChk] using this, by have := h.2.1.at 2 (by simp [zeroChk]); simpa [zeroChk] using this, h.2.1.frozen 0, h.2.1.frozen 1, h.2.1.frozen 2⟩

/-- The end of Read. -/
theorem cread_ret {a : Act} {W : World} {g n : Nat} {R : Ending → World → Prop} (k f s : Value) (m er : Int) (h2 : a.tmps.getD 2 undef = .pointer (some ⟨g, 0, none⟩)) (h3 : a.tmps.getD 3 undef = .pointer (some ⟨n, 0, none⟩)) (h4 : a.tmps.getD 4 undef = .int .i64 er) (hd : a.defers = [])
    (hc : RowV W g 41 [k, f, s]) (hn : RowV W n 3 [.int .i64 m]) (hR : R (.returned (.tuple #[.agg #[k, f, s], .int .i64 m, .int .i64 er])) W) : bodyPost Try.prog Try.f61 R .ret a W := by
  refine bodyPost_ret (v := .tuple #[.agg #[k, f, s], .int .i64 m, .int .i64 er]) ?_ hd hR
  have c0 : W.cell? ⟨g, 0, none⟩ = some k := hc.at 0 (by simp)
  have c1 : W.cell? ⟨g, 1, none⟩ = some f := hc.at 1 (by simp)
  have c2 : W.cell? ⟨g, 2, none⟩ = some s := hc.at 2 (by simp)
  have cn : W.cell? ⟨n, 0, none⟩ = some (.int .i64 m) := hn.at 0 (by simp)
  simp only [Array.getD_eq_getD_getElem?] at h2 h3 h4
  simp [results, Try.results61, go_sem, h2, h3, h4, asAddr, c0, c1, c2, cn]

set_option maxRecDepth 20000 in
set_option maxHeartbeats 1000000 in
theorem cread_short (v : Value) (l : List UInt8) (w : World) (hv : Rd w v l) (h4 : l.length < 4) :
    Calls Try.prog 61 #[v] w (TellsChk w 5 (chkTells l)) := by
  have HV := hid hv
  obtain ⟨p, c, rfl, hlc, hcm, hpn, hcell⟩ := hv
  unfold maxLen at hcm
  clear hcell
  have HT := hid (show chkTells l = (Chk.zero, 0, 7) by rw [chkTells, if_neg (by simp only [chkOk, decide_eq_true_eq]; omega)])
  have HS := hid (CrSt.start w (.slice p l.length c))
  go_enter Try.func61, Try.ntmps61
  go_wp2_with fail
  refine (HS.out.take_no l 4 HV.out (by omega) (by simp [withinB]; omega)).mono ?_
  rintro e w1 ⟨rfl, hs1, hc1⟩
  obtain ⟨cn, fn, cf, ff⟩ := hs1.cells
  obtain ⟨z0, z1, z2, y0, y1, y2⟩ := hs1.zeros
  have HS1 := hid hs1
  clear hs1 hc1
  go_wp2_with fail
  have hz := ((HS1.out.2.1.store 0 (.int .u8 0)).store 1 (.int .u8 0)).store 2 (.slice none 0 0)
  have hn := ((HS1.out.2.2.1.other ⟨w.heap.size + 1, 0, none⟩ (.int .u8 0) (by simp)).other ⟨w.heap.size + 1, 1, none⟩ (.int .u8 0) (by simp)).other ⟨w.heap.size + 1, 2, none⟩ (.slice none 0 0) (by simp)
  refine cread_ret (.int .u8 0) (.int .u8 0) (.slice none 0 0) 0 7 rfl rfl rfl rfl (hz.other ⟨w.heap.size + 1 + 1, 0, none⟩ _ (by simp)) (hn.store 0 _) ⟨.slice none 0 0, by rw [HT.out]; rfl, by rw [HT.out]; exact Own.nil _ _ _, ?_⟩
  exact (((HS1.out.2.2.2.2.setCell (by simp) _).setCell (by simp) _).setCell (by simp) _).setCell (by simp; omega) _
end Go.Proofs.Ytahpklciafpdaaa

namespace Go.FL
/-- Are the first i bytes noughts? -/
def fineAt (l : List UInt8) (i : Nat) : Bool := (l.take i).all (fun b => b == 0)
theorem fineAt_succ (l : List UInt8) (i : Nat) (h : i < l.length) : fineAt l (i + 1) = (fineAt l i && (l[i] == 0)) := by
  rw [fineAt, List.take_succ_eq_append_getElem h, List.all_append]
  simp [fineAt]
theorem fineAt_all (l : List UInt8) : fineAt l l.length = true ↔ ∀ b ∈ l, b = 0 := by
  rw [fineAt, List.take_length, List.all_eq_true]
  simp
theorem numAt_len (l : List UInt8) (h : 4 ≤ l.length) : numAt ((l.drop 0).take 4) 2 2 = chkLen l := by
  rw [List.drop_zero, numAt_take l 2 2 4 (by omega) h, numAt, if_pos (by omega), chkLen]
end Go.FL
namespace Go.Proofs.Ytahpklciafpdaaa
open Go.RowKit Go.FL

/-- Where it is refused. -/
theorem cread_fail {w W : World} {v : Value} {n : Nat} {fine : Bool} {l : List UInt8} {a : Act} (h : CrSt w v n fine W) (hT : chkTells l = (Chk.zero, 0, 7)) (h2 : a.tmps.getD 2 undef = .pointer (some ⟨w.heap.size + 1, 0, none⟩) := by rfl) (h3 : a.tmps.getD 3 undef = .pointer (some ⟨w.heap.size + 1 + 1, 0, none⟩) := by rfl) (h4 : a.tmps.getD 4 undef = .int .i64 7 := by rfl) (hd : a.defers = [] := by rfl) :
    bodyPost Try.prog Try.f61 (TellsChk w 5 (chkTells l)) .ret a ((((W.setCell ⟨w.heap.size + 1, 0, none⟩ (.int .u8 0)).setCell ⟨w.heap.size + 1, 1, none⟩ (.int .u8 0)).setCell ⟨w.heap.size + 1, 2, none⟩ (.slice none 0 0)).setCell ⟨w.heap.size + 1 + 1, 0, none⟩ (.int .i64 0)) := by
  have hz := ((h.2.1.store 0 (.int .u8 0)).store 1 (.int .u8 0)).store 2 (.slice none 0 0)
  have hn := ((h.2.2.1.other ⟨w.heap.size + 1, 0, none⟩ (.int .u8 0) (by simp)).other ⟨w.heap.size + 1, 1, none⟩ (.int .u8 0) (by simp)).other ⟨w.heap.size + 1, 2, none⟩ (.slice none 0 0) (by simp)
  refine cread_ret (.int .u8 0) (.int .u8 0) (.slice none 0 0) 0 7 h2 h3 h4 hd (hz.other ⟨w.heap.size + 1 + 1, 0, none⟩ _ (by simp)) (hn.store 0 _) ⟨.slice none 0 0, by rw [hT]; rfl, by rw [hT]; exact Own.nil _ _ _, ?_⟩
  exact (((h.2.2.2.2.setCell (by simp) _).setCell (by simp) _).setCell (by simp) _).setCell (by simp; omega) _

set_option maxRecDepth 100000 in
set_option maxHeartbeats 4000000 in
theorem cread_long (v : Value) (l : List UInt8) (w : World) (hv : Rd w v l) (h4 : 4 ≤ l.length) (hs : l.length ≤ 140737488355320) :
    Calls Try.prog 61 #[v] w (TellsChk w 5 (chkTells l)) := by
  have HV := hid hv
  obtain ⟨p, c, rfl, hlc, hcm, hpn, hcell⟩ := hv
  unfold maxLen at hcm
  clear hcell
  have HNL := hid (numAt_len l h4)
  have HS := hid (CrSt.start w (.slice p l.length c))
  have hL := chkLen_lt l
  obtain ⟨L, hLL⟩ : ∃ L, L = chkLen l := ⟨_, rfl⟩
  rw [← hLL] at HNL hL
  have HLL := hid hLL
  clear hLL
  go_enter Try.func61, Try.ntmps61
  go_wp2_with fail
  refine (HS.out.take_ok l 4 4 rfl HV.out (by omega) hs).mono ?_
  rintro e w1 ⟨p1, c1, rfl, ho1, hs1, hc1⟩
  rcases ho1 with ⟨_, e0⟩ | ⟨g1, sp1, hg1, e1, hr1, hm1⟩
  · have h0 : ((l.drop 0).take 4).length = 4 := by simp; omega
    rw [e0] at h0
    simp at h0
  have hl4 : ((l.drop 0).take 4).length = 4 := by simp; omega
  rw [hl4] at hm1 e1
  simp only [Value.slice.injEq] at e1
  obtain ⟨rfl, _, rfl⟩ := e1
  have HO1 := hid (show Own w1 (w.heap.size + 4) 5 (.slice (some ⟨g1, 0, none⟩) 4 (4 + sp1.length)) ((l.drop 0).take 4) from .inr ⟨g1, sp1, by simpa using hg1, by rw [hl4], hr1, by rw [hl4]; exact hm1⟩)
  have hg1' : w.heap.size + 4 ≤ g1 := by simpa using hg1
  obtain ⟨cn, fn, cf, ff⟩ := hs1.cells
  have HS1 := hid hs1
  clear hs1 hc1 hl4 hg1
  go_wp2_with fail
  refine (get_within _ _ 2 2 2 2 rfl rfl (by omega) _ HO1.out.rd (by simp; omega)).mono ?_
  rw [HNL.out]
  rintro e w2 ⟨rfl, rfl⟩
  by_cases hlow : withinB l.length ((0 + 4 : Nat) : Int) ((L : Int) - 4) = false
  · have HW := hid hlow
    have HT := hid (show chkTells l = (Chk.zero, 0, 7) by
      have h1 : chkOk l = false := by
        simp only [withinB, decide_eq_false_iff_not] at hlow
        rw [Bool.eq_false_iff]
        intro hok
        simp only [chkOk, decide_eq_true_eq, ← HLL.out] at hok
        have := roundN_le L
        omega
      rw [chkTells, if_neg (by simp [h1])])
    clear hlow
    go_wp2_with fail
    refine (HS1.out.take_no l ((L : Int) - 4) HV.out (by omega) HW.out).mono ?_
    rintro e w2 ⟨rfl, hs2, hc2⟩
    obtain ⟨cn2, fn2, cf2, ff2⟩ := hs2.cells
    have HS2 := hid hs2
    clear hs2 hc2 cn fn cf ff
    go_wp2_with fail
    have hr4 : roundI 4 = 4 := by decide
    have HD2 := hid HS2.out.drew
    go_region_with ((first | (refine (round_any _ _ (by decide)).mono ?_; rintro e w' ⟨rfl, rfl⟩) | (refine (HD2.out.take_ok l 0 _ (by decide) HV.out (by omega) hs).mono ?_; rintro e w3 ⟨p3, c3, rfl, ho3, hs3, hc3⟩)))
    all_goals
      obtain ⟨cn3, fn3, cf3, ff3⟩ := hs3.cells
      obtain ⟨z0, z1, z2, y0, y1, y2⟩ := hs3.zeros
      have HS3 := hid hs3
      clear hs3 hc3 ho3
      go_wp2_with fail
      simp only [Act.put, List.getElem_toArray, List.getElem_cons_succ, List.getElem_cons_zero, List.setIfInBounds_toArray, List.set_cons_zero, List.set_cons_succ]
      go_loopw [36] (fun y wx => y = .int .i64 0 ∧ wx = w3) (fun _ _ => 0)
      case atStart => exact ⟨rfl, rfl⟩
      case round =>
        obtain ⟨rfl, rfl⟩ := hrel
        go_wp2_with fail
        exact cread_fail HS3.out HT.out
  · have hin : 4 ≤ L ∧ L ≤ l.length := by
      simp only [withinB, decide_eq_false_iff_not, Decidable.not_not] at hlow
      omega
    obtain ⟨hL4, hLl⟩ := hin
    clear hlow
    go_wp2_with fail
    refine (HS1.out.take_ok l (L - 4) ((L : Int) - 4) (by omega) HV.out (by omega) hs).mono ?_
    rintro e w2 ⟨p2, c2, rfl, ho2, hs2, hc2⟩
    rw [show 0 + 4 + (L - 4) = L by omega] at hs2
    rw [show 0 + 4 = 4 from rfl] at ho2
    obtain ⟨cn2, fn2, cf2, ff2⟩ := hs2.cells
    have hsz1 : w.heap.size + 4 ≤ w1.heap.size := by have := HS1.out.2.2.2.1.lt; omega
    have HO12 := hid (HO1.out.chg hc2 (fun k hk => by have := HO1.out.ge k hk; simp only [CrS]; omega))
    have HO2 := hid ho2
    have HO2G := hid ho2.ge
    have HS2 := hid hs2
    clear hs2 hc2 cn fn cf ff ho2
    go_wp2_with fail
    have hR1 := roundN_le L
    have hR2 := roundN_lt L
    have HRI := hid (roundI_nat L (by omega))
    obtain ⟨R, hRR⟩ : ∃ R, R = roundN L := ⟨_, rfl⟩
    rw [← hRR] at hR1 hR2 HRI
    have HRR := hid hRR
    clear hRR
    have HD2 := hid HS2.out.drew
    have HKW := hid (show IntKind.i64.wrap ((R : Int) - (L : Int)) = ((R - L : Nat) : Int) by rw [IntKind.wrap_i64]; omega)
    by_cases hRl : R ≤ l.length
    · go_region_with ((first | (refine (round_any _ _ (WalkArith.wf_i64 (by omega))).mono ?_; rintro e w' ⟨rfl, rfl⟩; rw [HRI.out]) | (refine (HD2.out.take_ok l (R - L) _ HKW.out HV.out (by omega) hs).mono ?_; rintro e w3 ⟨p3, c3, rfl, ho3, hs3, hc3⟩)))
      all_goals
        rw [show L + (R - L) = R by omega] at hs3
        have hpl : ((l.drop L).take (R - L)).length = R - L := by simp; omega
        have HPD := hid (show chkPad l = (l.drop L).take (R - L) by rw [chkPad, ← HLL.out, ← HRR.out])
        obtain ⟨pd, hpd⟩ : ∃ pd, pd = (l.drop L).take (R - L) := ⟨_, rfl⟩
        rw [← hpd] at ho3 hpl HPD
        have hsz2 : w.heap.size + 4 ≤ w2.heap.size := by have := HS2.out.2.2.2.1.lt; omega
        have HO13 := hid (HO12.out.chg hc3.undrew (fun k hk => by have := HO12.out.ge k hk; simp only [CrS]; omega))
        have HO23 := hid (HO2.out.chg hc3.undrew (fun k hk => by have := HO2G.out k hk; simp only [CrS]; omega))
        have hsz3 : w.heap.size + 4 ≤ w3.heap.size := by have := hs3.2.2.2.1.lt; omega
        have HO3 := hid ho3
        have HO3G := hid (show ∀ k, (Value.slice p3 (R - L) c3).ownBlock = some k → w.heap.size + 4 ≤ k from fun k hk => Nat.le_trans hsz2 (ho3.ge k hk))
        have HS3 := hid hs3
        have hpd64 : pd.length ≤ 4 := by omega
        clear hs3 hc3 ho3 hpd
        rw [← hpl] at HO3 HO3G ⊢
        go_wp2_with fail
        simp only [Act.put, List.getElem_toArray, List.getElem_cons_succ, List.getElem_cons_zero, List.setIfInBounds_toArray, List.set_cons_zero, List.set_cons_succ]
        go_loopw [12, 36] (fun _ y wx => ∃ i : Nat, i ≤ pd.length ∧ y = .int .i64 (i : Int) ∧ Hid (CrSt w (.slice p l.length c) R (fineAt pd i) wx) ∧ Hid (Chg (CrS w) w3 wx)) (fun _ y _ => pd.length - (intOf y).toNat)
        case atStart => exact ⟨0, Nat.zero_le _, rfl, HS3.out, Chg.refl _ _⟩
        case round =>
          obtain ⟨i, hi, rfl, hs, hc⟩ := hrel
          have HSX := hid hs.out
          have HCX := hid hc.out
          obtain ⟨cnx, fnx, cfx, ffx⟩ := hs.out.cells
          clear hs hc
          by_cases hlt : i < pd.length
          · have hpx : ∃ g3, p3 = some ⟨g3, 0, none⟩ ∧ wr.cell? ⟨g3, i, none⟩ = some (.int .u8 (pd[i].toNat : Int)) := by
              rcases HO3.out.chg HCX.out (fun k hk => by have := HO3G.out k hk; simp only [CrS]; omega) with ⟨_, e⟩ | ⟨g3, sp3, _, e, row, _⟩
              · rw [e] at hlt
                simp at hlt
              · simp only [Value.slice.injEq] at e
                refine ⟨g3, e.1, ?_⟩
                rw [row.cell i (by simp; omega), List.getElem_append_left hlt]
            obtain ⟨g3, rfl, hcell⟩ := hpx
            have hsucc := fineAt_succ pd i hlt
            have hbx := byte_lt pd[i]
            generalize pd[i] = x at *
            have HSF := hid (HSX.out.fine (fineAt pd (i + 1)))
            have HCF := hid (HCX.out.trans (CrS.fine (w := w) (fineAt pd (i + 1))))
            have HSU := hid hsucc
            clear hsucc HSX
            generalize hfb : fineAt pd i = fb at *
            clear hfb
            have hcase : (fb = false ∧ fineAt pd (i + 1) = false) ∨ (fb = true ∧ x = 0 ∧ fineAt pd (i + 1) = true) ∨ (fb = true ∧ ((x.toNat : Int) == 0) = false ∧ fineAt pd (i + 1) = false) := by
              have hs := HSU.out
              cases fb
              · exact .inl ⟨rfl, by simpa using hs⟩
              · by_cases hx : x = 0
                · exact .inr (.inl ⟨rfl, hx, by simpa [hx] using hs⟩)
                · refine .inr (.inr ⟨rfl, ?_, by simpa [show (x == 0) = false by simpa using hx] using hs⟩)
                  have : x.toNat ≠ 0 := fun h => hx (UInt8.toNat_inj.1 h)
                  simp
                  omega
            obtain ⟨fc, hfc⟩ : ∃ fc, fc = fineAt pd (i + 1) := ⟨_, rfl⟩
            rw [← hfc] at hcase HSF HCF
            have HFC := hid hfc
            clear HSU hfc
            rcases hcase with ⟨rfl, rfl⟩ | ⟨rfl, rfl, rfl⟩ | ⟨rfl, hx0, rfl⟩
            all_goals
              go_wp2_with fail
              go_roundw
              case rel => exact ⟨i + 1, by omega, by go_num, by rw [← HFC.out]; exact HSF.out, HCF.out⟩
              case measure => simp [intOf]; omega
          · obtain rfl : i = pd.length := by omega
            have hfa := fineAt_all pd
            generalize fineAt pd pd.length = fb at *
            have HFA := hid hfa
            clear hfa
            obtain ⟨z0, z1, z2, y0, y1, y2⟩ := HSX.out.zeros
            cases fb
            · have HT := hid (show chkTells l = (Chk.zero, 0, 7) by
                have h1 : chkOk l = false := by
                  rw [Bool.eq_false_iff]
                  intro hok
                  simp only [chkOk, decide_eq_true_eq, HPD.out] at hok
                  exact absurd (HFA.out.2 hok.2.2.2) (by decide)
                rw [chkTells, if_neg (by simp [h1])])
              go_wp2_with fail
              exact cread_fail HSX.out HT.out
            · have hok : chkOk l = true := by
                simp only [chkOk, decide_eq_true_eq, HPD.out, ← HLL.out, ← HRR.out]
                exact ⟨h4, hL4, hRl, HFA.out.1 rfl⟩
              have HT := hid (show chkTells l = (⟨l.getD 0 0, l.getD 1 0, (l.drop 4).take (L - 4)⟩, R, 0) by
                rw [chkTells, if_pos hok, chkOf, chkSize, ← HLL.out, ← HRR.out])
              obtain ⟨q1, o1, d1, e1, _, _, hcell⟩ := (HO13.out.chg HCX.out (fun k hk => by have := HO1.out.ge k hk; simp only [CrS]; omega)).rd.at (by simp; omega)
              simp only [Value.slice.injEq, Option.some.injEq, Addr.mk.injEq, and_true] at e1
              obtain ⟨⟨rfl, rfl⟩, e2, rfl⟩ := e1
              clear e2
              have k0 := hcell 0 (by simp; omega)
              have k1 := hcell 1 (by simp; omega)
              rw [show ((l.drop 0).take 4)[0]'(by simp; omega) = l.getD 0 0 by simp [List.getD, show 0 < l.length by omega]] at k0
              rw [show ((l.drop 0).take 4)[1]'(by simp; omega) = l.getD 1 0 by simp [List.getD, show 1 < l.length by omega]] at k1
              have b0 := byte_lt (l.getD 0 0)
              have b1 := byte_lt (l.getD 1 0)
              have HB2 := hid (HO23.out.chg HCX.out (fun k hk => by have := HO2G.out k hk; simp only [CrS]; omega))
              generalize l.getD 0 0 = kk at *
              generalize l.getD 1 0 = ff at *
              simp only [Nat.zero_add] at k0 k1
              clear hcell hok
              go_wp2_with fail
              clear cfx ffx hR1 hR2 hpd64 hpl hi hlt hRl hsz2 hsz3 hLl hL4 hL h4 hs
              have hg1a : ∀ (W : World) (i j : Nat) (u : Value), (W.setCell ⟨w.heap.size + 1, i, none⟩ u).cell? ⟨g1, j, none⟩ = W.cell? ⟨g1, j, none⟩ := fun W i j u => cell_blk u (by omega)
              have hg1b : ∀ (W : World) (i j : Nat) (u : Value), (W.setCell ⟨w.heap.size + 1 + 1, i, none⟩ u).cell? ⟨g1, j, none⟩ = W.cell? ⟨g1, j, none⟩ := fun W i j u => cell_blk u (by omega)
              have hrz := ((HSX.out.2.1.store 0 (.int .u8 (kk.toNat : Int))).store 1 (.int .u8 (ff.toNat : Int))).store 2 (.slice p2 (L - 4) c2)
              have hrn := ((HSX.out.2.2.1.other ⟨w.heap.size + 1, 0, none⟩ (.int .u8 (kk.toNat : Int)) (by simp)).other ⟨w.heap.size + 1, 1, none⟩ (.int .u8 (ff.toNat : Int)) (by simp)).other ⟨w.heap.size + 1, 2, none⟩ (.slice p2 (L - 4) c2) (by simp)
              have HRZ := hid (hrz.other ⟨w.heap.size + 1 + 1, 0, none⟩ (.int .i64 (R : Int)) (by simp))
              have HRN := hid (hrn.store 0 (.int .i64 (R : Int)))
              have hx1 := (hrn.store 0 (.int .i64 (R : Int))).at 0 (by simp)
              simp only [List.set_cons_zero, List.getElem_cons_zero] at hx1
              have HBF := hid ((((HSX.out.2.2.2.2.setCell (p := ⟨w.heap.size + 1, 0, none⟩) (by simp) (.int .u8 (kk.toNat : Int))).setCell (p := ⟨w.heap.size + 1, 1, none⟩) (by simp) (.int .u8 (ff.toNat : Int))).setCell (p := ⟨w.heap.size + 1, 2, none⟩) (by simp) (.slice p2 (L - 4) c2)).setCell (p := ⟨w.heap.size + 1 + 1, 0, none⟩) (by simp; omega) (.int .i64 (R : Int)))
              have HOB := hid (HB2.out.chg (S := fun g => g = w.heap.size + 1 ∨ g = w.heap.size + 1 + 1) (((((Chg.refl _ _).set ⟨w.heap.size + 1, 0, none⟩ (.int .u8 (kk.toNat : Int)) (by simp)).set ⟨w.heap.size + 1, 1, none⟩ (.int .u8 (ff.toNat : Int)) (by simp)).set ⟨w.heap.size + 1, 2, none⟩ (.slice p2 (L - 4) c2) (by simp)).set ⟨w.heap.size + 1 + 1, 0, none⟩ (.int .i64 (R : Int)) (by simp)) (fun k hk => by have := HO2G.out k hk; omega))
              clear hrz hrn
              go_region_held3 (fun w' => w'.cell? ⟨g1, 0, none⟩ = some (.int .u8 (kk.toNat : Int)) ∧ w'.cell? ⟨g1, 1, none⟩ = some (.int .u8 (ff.toNat : Int)) ∧ w'.cell? ⟨w.heap.size + 1 + 1, 0, none⟩ = some (.int .i64 (R : Int))) (go_keep) (fail)
              all_goals
                go_wp2_with fail
                refine cread_ret (.int .u8 (kk.toNat : Int)) (.int .u8 (ff.toNat : Int)) (.slice p2 (L - 4) c2) (R : Int) 0 rfl rfl rfl rfl (by first | exact HRZ.out | exact HRZ.out.drew) (by first | exact HRN.out | exact HRN.out.drew) ⟨.slice p2 (L - 4) c2, by rw [HT.out], by rw [HT.out]; exact HOB.out.base (by omega), by first | exact HBF.out | exact HBF.out.drew⟩
    · have HT := hid (show chkTells l = (Chk.zero, 0, 7) by
        have h1 : chkOk l = false := by
          rw [Bool.eq_false_iff]
          intro hok
          simp only [chkOk, decide_eq_true_eq, ← HLL.out, ← HRR.out] at hok
          omega
        rw [chkTells, if_neg (by simp [h1])])
      have HW := hid (show withinB l.length (L : Int) (IntKind.i64.wrap ((R : Int) - (L : Int))) = false by rw [HKW.out]; simp only [withinB, decide_eq_false_iff_not]; omega)
      go_region_with ((first | (refine (round_any _ _ (WalkArith.wf_i64 (by omega))).mono ?_; rintro e w' ⟨rfl, rfl⟩; rw [HRI.out]) | (refine (HD2.out.take_no l _ HV.out (by omega) HW.out).mono ?_; rintro e w3 ⟨rfl, hs3, hc3⟩)))
      all_goals
        obtain ⟨cn3, fn3, cf3, ff3⟩ := hs3.cells
        obtain ⟨z0, z1, z2, y0, y1, y2⟩ := hs3.zeros
        have HS3 := hid hs3
        clear hs3 hc3 
        go_wp2_with fail
        simp only [Act.put, List.getElem_toArray, List.getElem_cons_succ, List.getElem_cons_zero, List.setIfInBounds_toArray, List.set_cons_zero, List.set_cons_succ]
        go_loopw [36] (fun y wx => y = .int .i64 0 ∧ wx = w3) (fun _ _ => 0)
        case atStart => exact ⟨rfl, rfl⟩
        case round =>
          obtain ⟨rfl, rfl⟩ := hrel
          go_wp2_with fail
          exact cread_fail HS3.out HT.out
end Go.Proofs.Ytahpklciafpdaaa

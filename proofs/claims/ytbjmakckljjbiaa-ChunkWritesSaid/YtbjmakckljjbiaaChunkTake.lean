/- What chunk.Read's own 'take' answers. Conditions: what comes in reads as bytes; its variables lie in blocks of their own. -/
import Derived.Test.YtbjmakckljjbiaaChunkProg
namespace Go.Proofs.Ytbjmakckljjbiaa
open Go.RowKit Go.FL

set_option maxRecDepth 20000 in
set_option maxHeartbeats 1000000 in
theorem take_ok (gb gn gf : Nat) (hnf : gn ≠ gf) (hbn : gb ≠ gn) (hbf : gb ≠ gf) (v : Value) (l : List UInt8) (i k : Nat) (K : Int) (hK : K = (k : Int)) (fine : Bool) (w : World) (hb : RowV w gb 22 [v]) (hn : RowV w gn 3 [.int .i64 (i : Int)]) (hf : RowV w gf 4 [.bool fine])
    (hv : Rd w v l) (hik : i + k ≤ l.length) (hs : l.length ≤ 140737488355320) :
    Calls Try.prog 26 #[.int .i64 K, .pointer (some ⟨gb, 0, none⟩), .pointer (some ⟨gn, 0, none⟩), .pointer (some ⟨gf, 0, none⟩)] w fun e w' =>
      ∃ v', e = .returned v' ∧ Own w' w.heap.size 5 v' ((l.drop i).take k) ∧ RowV w' gn 3 [.int .i64 ((i + k : Nat) : Int)] ∧ RowV w' gf 4 [.bool fine] ∧ Chg (fun g => g = gn ∨ g = gf) w w' := by
  subst hK
  have cb := hb.at 0 (by simp)
  have cn := hn.at 0 (by simp)
  simp only [List.getElem_cons_zero] at cb cn
  have HV := hid hv
  have HN := hid hn
  have HF := hid hf
  have hpl : ((l.drop i).take k).length = k := by simp; omega
  have HPL := hid hpl
  clear hv hb hn hf hpl
  go_enter Try.func26, Try.ntmps26
  go_wp2_with fail
  refine (cut_at _ l i k _ _ rfl rfl _ HV.out hik hs).mono ?_
  rintro e w1 ⟨v1, rfl, ho1, hb1⟩
  obtain ⟨p1, c1, hv1, _, _, _, _⟩ := ho1.rd
  rename_i k1 k2 k3 k4
  clear k1 k2 k3 k4
  rw [HPL.out] at hv1
  subst hv1
  have hf1 := HF.out.mono hb1
  have hn1 := HN.out.mono hb1
  have cf1 := hf1.at 0 (by simp)
  have ff1 := hf1.frozen 0
  have cn1 := hn1.at 0 (by simp)
  have fn1 := hn1.frozen 0
  simp only [List.getElem_cons_zero] at cf1 cn1
  have hlt : gf < w1.heap.size := hf1.lt
  have hlt2 : gn < w1.heap.size := hn1.lt
  have hfw : gf < w.heap.size := HF.out.lt
  have hnw : gn < w.heap.size := HN.out.lt
  obtain ⟨w2, hw2⟩ : ∃ w2, w2 = w1.setCell ⟨gf, 0, none⟩ (.bool fine) := ⟨_, rfl⟩
  obtain ⟨w3, hw3⟩ : ∃ w3, w3 = w2.setCell ⟨gn, 0, none⟩ (.int .i64 ((i + k : Nat) : Int)) := ⟨_, rfl⟩
  have hn2 : RowV w2 gn 3 [.int .i64 (i : Int)] := by rw [hw2]; exact hn1.other _ _ (by simpa using Ne.symm hnf)
  have hf2 : RowV w2 gf 4 [.bool fine] := by rw [hw2]; exact hf1.store 0 (.bool fine)
  have HN3 := hid (show RowV w3 gn 3 [.int .i64 ((i + k : Nat) : Int)] by rw [hw3]; exact hn2.store 0 _)
  have HF3 := hid (show RowV w3 gf 4 [.bool fine] by rw [hw3]; exact hf2.other _ _ (by simpa using hnf))
  have hc1 : Chg (fun g => g = gn ∨ g = gf) w w1 := Chg.of_gr hb1
  have HC := hid (show Chg (fun g => g = gn ∨ g = gf) w w3 by rw [hw3, hw2]; exact (hc1.set _ _ (.inl (.inr rfl))).set _ _ (.inl (.inl rfl)))
  have hc13 : Chg (fun g => g = gn ∨ g = gf) w1 w3 := by rw [hw3, hw2]; exact ((Chg.refl _ _).set _ _ (.inl (.inr rfl))).set _ _ (.inl (.inl rfl))
  have HO := hid (ho1.chg hc13 (fun q hq => by
    have := ho1.ge q hq
    omega))
  have c2 := hn2.at 0 (by simp)
  have f2 := hn2.frozen 0
  simp only [List.getElem_cons_zero] at c2
  rw [hw2] at c2 f2
  have HW2 := hid hw2
  have HW3 := hid hw3
  have hik64 : (i : Int) + (k : Int) ≤ 9223372036854775807 := by omega
  have hsum : ((i + k : Nat) : Int) = (i : Int) + (k : Int) := by omega
  cases fine
  all_goals
    clear ho1 hb1 hf1 hn1 hn2 hf2 hc1 hc13 hw2 hw3 HF HN
    rw [hsum] at HN3 HW3
    clear hsum
    go_wp2_with fail
    go_ret
    refine ⟨_, rfl, ?_⟩
    rw [← HW2.out, ← HW3.out]
    exact ⟨HO.out, by have := HN3.out; simpa using this, HF3.out, HC.out⟩

set_option maxRecDepth 20000 in
set_option maxHeartbeats 1000000 in
theorem take_no (gb gn gf : Nat) (hnf : gn ≠ gf) (v : Value) (l : List UInt8) (i : Nat) (K : Int) (fine : Bool) (w : World) (hb : RowV w gb 22 [v]) (hn : RowV w gn 3 [.int .i64 (i : Int)]) (hf : RowV w gf 4 [.bool fine])
    (hv : Rd w v l) (hi : i ≤ 140737488355320) (hno : withinB l.length (i : Int) K = false) :
    Calls Try.prog 26 #[.int .i64 K, .pointer (some ⟨gb, 0, none⟩), .pointer (some ⟨gn, 0, none⟩), .pointer (some ⟨gf, 0, none⟩)] w fun e w' =>
      e = .returned (.slice none 0 0) ∧ RowV w' gn 3 [.int .i64 (i : Int)] ∧ RowV w' gf 4 [.bool false] ∧ Chg (fun g => g = gn ∨ g = gf) w w' := by
  have cb := hb.at 0 (by simp)
  have cn := hn.at 0 (by simp)
  have cf := hf.at 0 (by simp)
  have ff := hf.frozen 0
  have fn := hn.frozen 0
  simp only [List.getElem_cons_zero] at cb cn cf
  have HV := hid hv
  have HNO := hid hno
  have c2 : (w.setCell ⟨gf, 0, none⟩ (.bool false)).cell? ⟨gn, 0, none⟩ = some (.int .i64 (i : Int)) := by
    have := (hn.other ⟨gf, 0, none⟩ (.bool false) (by simpa using Ne.symm hnf)).at 0 (by simp)
    simpa using this
  have f2 : (w.setCell ⟨gf, 0, none⟩ (.bool false)).frozen? ⟨gn, 0, none⟩ = false := (hn.other ⟨gf, 0, none⟩ (.bool false) (by simpa using Ne.symm hnf)).frozen 0
  have HN3 := hid (show RowV ((w.setCell ⟨gf, 0, none⟩ (.bool false)).setCell ⟨gn, 0, none⟩ (.int .i64 (i : Int))) gn 3 [.int .i64 (i : Int)] from (hn.other ⟨gf, 0, none⟩ (.bool false) (by simpa using Ne.symm hnf)).store 0 _)
  have HF3 := hid (show RowV ((w.setCell ⟨gf, 0, none⟩ (.bool false)).setCell ⟨gn, 0, none⟩ (.int .i64 (i : Int))) gf 4 [.bool false] from (hf.store 0 (.bool false)).other _ _ (by simpa using hnf))
  have HC := hid (show Chg (fun g => g = gn ∨ g = gf) w ((w.setCell ⟨gf, 0, none⟩ (.bool false)).setCell ⟨gn, 0, none⟩ (.int .i64 (i : Int))) from ((Chg.refl _ _).set _ _ (.inl (.inr rfl))).set _ _ (.inl (.inl rfl)))
  clear hv hb hn hf hno
  cases fine
  all_goals
    go_enter Try.func26, Try.ntmps26
    go_wp2_with fail
    refine (cut_no _ l i K _ HV.out HNO.out).mono ?_
    rintro e w1 ⟨rfl, rfl⟩
    go_wp2_with fail
    go_ret
    exact ⟨rfl, HN3.out, HF3.out, HC.out⟩
end Go.Proofs.Ytbjmakckljjbiaa

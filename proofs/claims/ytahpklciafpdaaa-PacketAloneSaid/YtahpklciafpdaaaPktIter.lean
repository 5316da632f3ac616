/- packet.chunks: the iterator's word. Conditions: what comes in reads as it should. -/
import Derived.Test.YtahpklciafpdaaaRange
import Derived.Test.YtahpklciafpdaaaPktWrite
import Derived.Test.YtahpklciafpdaaaBaseF
import Derived.Shelf.Abstract
import Derived.WalkKit
import Derived.OwnWalkIn
import Derived.TacticsInMore
import Derived.LoopNIn
import Derived.LoopIn
set_option linter.unusedSimpArgs false
set_option linter.unusedVariables false
namespace Go.FL
open Go.RowKit
/-- What is handed on: a chunk, its value, what is said of it. -/
abbrev ChkIt := Chk × Value × Int
def ChkIt.encs (x : ChkIt) : Array Value := #[x.2.1, .int .i64 x.2.2]
def ChkOwn (n₀ e : Nat) (W : World) (v : Value) (c : Chk) : Prop := ∃ s, v = .agg #[.int .u8 (c.k.toNat : Int), .int .u8 (c.f.toNat : Int), s] ∧ Own W n₀ e s c.b
/-- The body's slice in a chunk's value. -/
def thirdOf (x : ChkIt) : Value := match x.2.1 with
  | .agg cs => cs.toList.getD 2 undef
  | _ => undef
def AscV (a b : Value) : Prop := ∀ k k', a.ownBlock = some k → b.ownBlock = some k' → k < k'
def ItGd (n₀ e : Nat) (l : List UInt8) (pre : List ChkIt) (x : ChkIt) (W : World) : Prop :=
  pre.length < l.length ∧ (∀ y ∈ pre, AscV (thirdOf y) (thirdOf x)) ∧ ChkOwn n₀ e W x.2.1 x.1 ∧ (x.2.2 = 0 ∨ (x.2.2 = 7 ∧ (chunksOf l).2 = false))
def ItS (l : List UInt8) (xs : List ChkIt) : Prop := (∃ x ∈ xs, x.2.2 ≠ 0) ∨ ((chunksOf l).1 = xs.map (·.1) ∧ (chunksOf l).2 = true)
def lenAt (W : World) (B : Nat) : Nat := match W.cell? ⟨B, 0, none⟩ with
  | some (.slice _ n _) => n
  | _ => 0
theorem lenAt_of {W : World} {B n : Nat} {p : Option Addr} {c : Nat} (h : W.cell? ⟨B, 0, none⟩ = some (.slice p n c)) : lenAt W B = n := by simp [lenAt, h]
theorem RowV.same {w w' : World} {g e : Nat} {l : List Value} (h : RowV w g e l) (k : w'.heap[g]? = w.heap[g]?) : RowV w' g e l := by
  unfold RowV at *
  rw [k, h]
theorem gb_setCell (w : World) (g i : Nat) (u : Value) : w.grownBy (w.setCell ⟨g, i, none⟩ u) (some g) :=
  ⟨rfl, rfl, rfl, by simp [World.setCell], fun k _ hk => Below.heap_setCell w ⟨g, i, none⟩ u k (fun e => hk (by simp at e; rw [e]))⟩
end Go.FL
namespace Go.Proofs.Ytahpklciafpdaaa
open Go.RowKit Go.FL Go.Shelf
attribute [local go_sem] Oper.semAt_some

set_option maxRecDepth 100000 in
set_option maxHeartbeats 2000000 in
theorem chunks1_seq (B : Nat) (w0 w : World) (l : List UInt8) (v : Value) (hl : l.length ≤ 140737488355320) (hv : Rd w0 v l) (hb : Below w0.heap.size w0 w) (hB : RowV w B 29 [v]) (hBn : w0.heap.size ≤ B) :
    SeqB Try.prog 60 #[.pointer (some ⟨B, 0, none⟩)] ChkIt.encs B w0.heap.size (ItGd w.heap.size 5 l) (ItS l) w := by
  intro lab J Jx W hW hJ hJx hY h0
  have HW := hid (hb.trans (hW.mono hb.size))
  have HBW := hid (hB.mono hW)
  have HV := hid hv
  have HJ := hid hJ
  have HY := hid hY
  have H0 := hid h0
  have HSZ := hid hW.size
  clear hb hB hv hW hJ hJx hY h0
  refine callsIn_of_wp Try.func60 rfl trivial ?_ rfl
  simp only [Try.ntmps60, List.size_toArray, List.length_cons, List.length_nil, Nat.reduceAdd, Nat.reduceSub, Array.replicate_succ, Array.replicate_zero, List.push_toArray, List.append_toArray, List.nil_append, List.cons_append]
  gi_wp2
  gi_loopw [4] (fun _ wr => ∃ (pre : List ChkIt) (r : List UInt8) (v : Value), Hid (RowV wr B 29 [v]) ∧ Hid (Rd w0 v r) ∧ Hid (Below w0.heap.size w0 wr) ∧ Hid (chunksOf l = (pre.map (·.1) ++ (chunksOf r).1, (chunksOf r).2)) ∧ pre.length + r.length ≤ l.length ∧ Hid (J pre wr ∧ w.heap.size ≤ wr.heap.size) ∧ Hid (∀ y ∈ pre, ∀ k, (thirdOf y).ownBlock = some k → k < wr.heap.size)) (fun _ wr => lenAt wr B)
  case atStart => exact ⟨[], l, v, HBW, HV, HW, hid (by simp), by simp, hid ⟨H0.out, HSZ.out⟩, hid (fun y hy => absurd hy (by simp))⟩
  case round =>
    clear HBW HV HW H0
    obtain ⟨pre, r, v, HR, HV, HB, HC, hrl, HP0, HLO⟩ := hrel
    have HP := hid HP0.out.1
    have HSW := hid HP0.out.2
    clear HP0 HSZ
    obtain ⟨p, c, rfl, hlc, hcm, -, -⟩ := id HV.out
    unfold maxLen at hcm
    have c0 := HR.out.at 0 (by simp)
    simp only [List.getElem_cons_zero] at c0
    have HM := hid (lenAt_of c0)
    by_cases h0 : r.length = 0
    · have hr : r = [] := List.length_eq_zero_iff.1 h0
      subst hr
      have HC2 := hid (show ItS l pre from .inr (by rw [HC.out]; simp [chunksOf_nil]))
      gi_wp2
      go_end0
      exact ⟨⟨_, rfl⟩, .inl ⟨pre, HC2.out, HP.out⟩⟩
    · have hne : r ≠ [] := fun e => h0 (by rw [e]; rfl)
      have HVR := hid (HV.out.mono HB.out)
      have hpos : (0 : Int) < (r.length : Int) := by omega
      obtain ⟨n, hn⟩ : ∃ n, n = r.length := ⟨_, rfl⟩
      have HN := hid hn
      have HPL := hid (show pre.length < l.length by omega)
      rw [← hn] at c0 HM HVR HV HR hpos hlc h0
      by_cases hok : chkOk r = true
      · have hsz := chkSize_pos r hok
        have HT := hid (show chkTells r = (chkOf r, chkSize r, 0) by rw [chkTells, if_pos hok])
        have HC2 := hid (show chunksOf l = ((pre.map (·.1) ++ [chkOf r]) ++ (chunksOf (r.drop (chkSize r))).1, (chunksOf (r.drop (chkSize r))).2) by rw [HC.out, chunksOf_ok r hne hok]; simp)
        obtain ⟨cx, hcx⟩ : ∃ x, x = chkOf r := ⟨_, rfl⟩
        obtain ⟨sz, hsz2⟩ : ∃ x, x = chkSize r := ⟨_, rfl⟩
        rw [← hcx, ← hsz2] at HC2 HT
        rw [← hsz2, ← hn] at hsz
        have hcut := (id HV.out).cut sz r.length (by omega) (Nat.le_refl _)
        rw [List.take_of_length_le (by simp), ← hn] at hcut
        obtain ⟨V4, hV4⟩ : ∃ x, x = Value.slice (if c = sz then p else Option.map (fun x => x.add sz) p) (n - sz) (c - sz) := ⟨_, rfl⟩
        have hs2 : sliced p sz n c 1 = V4 := by
          rw [hV4]
          unfold sliced
          split
          · rename_i he
            simp [he]
          · simp
        rw [hs2] at hcut
        have HCUT := hid hcut
        have HV4 := hid hV4
        have hle : sz ≤ n := hsz.2
        have HLN := hid (show (r.drop sz).length = n - sz ∧ n - sz < n by rw [List.length_drop, ← hn]; exact ⟨rfl, by omega⟩)
        obtain ⟨kk, ff, b⟩ := cx
        have HLEN := hid (show r.length ≤ 140737488355320 by omega)
        clear hcx hsz2 hcut hs2 hn hsz hok hne hV4
        gi_wp2_with (refine ⟨trivial, rfl, ?_⟩; gi_at_call 61; refine (callsIn_wide.2 (cread_any _ r _ HVR.out HLEN.out)).mono ?_; clear HVR; rw [HT.out]; rintro e w1 ⟨s, rfl, ho, hb1⟩; obtain ⟨ps, ns, cps, rfl⟩ : ∃ a b c, s = Value.slice a b c := (let ⟨a, c, h⟩ := RdF.form ho.rd; ⟨a, _, c, h⟩); have HB1 := hid ((HB.out.trans (hb1.mono HB.out.size)).alloc (Nat.le_trans HB.out.size hb1.size) (.cells #[.int .u8 (kk.toNat : Int), .int .u8 (ff.toNat : Int), .slice ps ns cps] 41 (0, 0))); have HR1 := hid ((HR.out.mono hb1).alloc (.cells #[.int .u8 (kk.toNat : Int), .int .u8 (ff.toNat : Int), .slice ps ns cps] 41 (0, 0))); have hj1 := HJ.out _ _ _ (HJ.out _ _ _ HP.out (gb_of_gr hb1 _)) (gb_of_gr ((Below.refl w1.heap.size w1).alloc (Nat.le_refl _) (.cells #[.int .u8 (kk.toNat : Int), .int .u8 (ff.toNat : Int), .slice ps ns cps] 41 (0, 0))) (some B)); obtain ⟨fn, tmps, assign, body, hy, hR⟩ := HY.out pre (⟨kk, ff, b⟩, .agg #[.int .u8 (kk.toNat : Int), .int .u8 (ff.toNat : Int), .slice ps ns cps], 0) _ hj1 ⟨HPL.out, fun y hy k k' hk hk' => Nat.lt_of_lt_of_le (HLO.out y hy k hk) (ho.ge k' hk'), ⟨_, rfl, (ho.alloc _).base HSW.out⟩, .inl rfl⟩; simp only [ChkIt.encs] at hy; have HZ := hid (show w.heap.size ≤ (w1.alloc (.cells #[.int .u8 (kk.toNat : Int), .int .u8 (ff.toNat : Int), .slice ps ns cps] 41 (0, 0))).heap.size from Nat.le_trans HSW.out (Nat.le_trans hb1.size (by simp))); have HNB := hid (fun k (hk : (Value.slice ps ns cps).ownBlock = some k) => Nat.lt_of_lt_of_le (ho.lt k hk) (show w1.heap.size ≤ (w1.alloc (.cells #[.int .u8 (kk.toNat : Int), .int .u8 (ff.toNat : Int), .slice ps ns cps] 41 (0, 0))).heap.size by simp)); have HSZ1 := hid (show wr.heap.size ≤ (w1.alloc (.cells #[.int .u8 (kk.toNat : Int), .int .u8 (ff.toNat : Int), .slice ps ns cps] 41 (0, 0))).heap.size from Nat.le_trans hb1.size (by simp)); clear ho hb1 HT c0 hj1)
        refine ⟨rfl, hR.mono ?_⟩
        rintro e W3 (⟨rfl, hJ3, hk3⟩ | ⟨rfl, hJx3⟩)
        · have HJ3 := hid hJ3
          have HR3 := hid (HR1.out.same hk3.2)
          have HB3 := hid (HB1.out.trans hk3.1)
          have HZ3 := hid (Nat.le_trans HZ.out hk3.1.size)
          have HSK1 := hid hk3.1.size
          have HSK := hid (Nat.le_trans HSZ1.out hk3.1.size)
          have c3 := HR3.out.at 0 (by simp)
          simp only [List.getElem_cons_zero] at c3
          have f3 := HR3.out.frozen 0
          clear hR hy hJ3 hk3
          gi_wp2
          rw [← HV4.out]
          have HR4 := hid (HR3.out.store 0 V4)
          simp only [List.set_cons_zero] at HR4
          have GB := hid (gb_setCell W3 B 0 V4)
          have HB4 := hid (gb_below GB.out hBn HB3.out.size)
          have HB5 := hid (HB3.out.trans HB4.out)
          have c4 := HR4.out.at 0 (by simp)
          simp only [List.getElem_cons_zero] at c4
          have HJ4 := hid (HJ.out _ _ _ HJ3.out GB.out)
          have HLO5 := hid (show ∀ y ∈ pre ++ [((⟨kk, ff, b⟩ : Chk), Value.agg #[.int .u8 (kk.toNat : Int), .int .u8 (ff.toNat : Int), .slice ps ns cps], (0 : Int))], ∀ k, (thirdOf y).ownBlock = some k → k < (W3.setCell ⟨B, 0, none⟩ V4).heap.size from fun y hy k hk => by
            have hs3 : (W3.setCell ⟨B, 0, none⟩ V4).heap.size = W3.heap.size := by simp [World.setCell]
            rw [hs3]
            simp only [List.mem_append, List.mem_singleton] at hy
            rcases hy with hy | rfl
            · exact Nat.lt_of_lt_of_le (HLO.out y hy k hk) HSK.out
            · exact Nat.lt_of_lt_of_le (HNB.out k hk) HSK1.out)
          go_roundw
          case rel => exact ⟨pre ++ [(⟨kk, ff, b⟩, .agg #[.int .u8 (kk.toNat : Int), .int .u8 (ff.toNat : Int), .slice ps ns cps], 0)], r.drop sz, V4, HR4, HCUT, HB5, hid (by rw [HC2.out]; simp), by have := HLN.out; have := HN.out; rw [List.length_append, List.length_singleton]; omega, hid ⟨HJ4.out, by simp [World.setCell]; exact HZ3.out⟩, HLO5⟩
          case measure => rw [HV4.out] at c4 ⊢; rw [lenAt_of c4, HM.out]; exact HLN.out.2
        · gi_wp2
          refine bodyPost_ret (results_none rfl _ _ _) rfl ?_
          exact ⟨⟨_, rfl⟩, .inr ⟨_, hJx3⟩⟩
      · have HT := hid (show chkTells r = (Chk.zero, 0, 7) by rw [chkTells, if_neg hok])
        have HF := hid (show (chunksOf l).2 = false by rw [HC.out, chunksOf_bad r hne hok])
        have HLEN := hid (show r.length ≤ 140737488355320 by omega)
        clear hn hok hne
        gi_wp2_with (refine ⟨trivial, rfl, ?_⟩; gi_at_call 61; refine (callsIn_wide.2 (cread_any _ r _ HVR.out HLEN.out)).mono ?_; clear HVR; rw [HT.out]; rintro e w1 ⟨s, rfl, ho, hb1⟩; obtain ⟨ps, ns, cps, rfl⟩ : ∃ a b c, s = Value.slice a b c := (let ⟨a, c, h⟩ := RdF.form ho.rd; ⟨a, _, c, h⟩); have HB1 := hid ((HB.out.trans (hb1.mono HB.out.size)).alloc (Nat.le_trans HB.out.size hb1.size) (.cells #[.int .u8 (Chk.zero.k.toNat : Int), .int .u8 (Chk.zero.f.toNat : Int), .slice ps ns cps] 41 (0, 0))); have HR1 := hid ((HR.out.mono hb1).alloc (.cells #[.int .u8 (Chk.zero.k.toNat : Int), .int .u8 (Chk.zero.f.toNat : Int), .slice ps ns cps] 41 (0, 0))); have hj1 := HJ.out _ _ _ (HJ.out _ _ _ HP.out (gb_of_gr hb1 _)) (gb_of_gr ((Below.refl w1.heap.size w1).alloc (Nat.le_refl _) (.cells #[.int .u8 (Chk.zero.k.toNat : Int), .int .u8 (Chk.zero.f.toNat : Int), .slice ps ns cps] 41 (0, 0))) (some B)); obtain ⟨fn, tmps, assign, body, hy, hR⟩ := HY.out pre (Chk.zero, .agg #[.int .u8 (Chk.zero.k.toNat : Int), .int .u8 (Chk.zero.f.toNat : Int), .slice ps ns cps], 7) _ hj1 ⟨HPL.out, fun y hy k k' hk hk' => Nat.lt_of_lt_of_le (HLO.out y hy k hk) (ho.ge k' hk'), ⟨_, rfl, (ho.alloc _).base HSW.out⟩, .inr ⟨rfl, HF.out⟩⟩; simp only [ChkIt.encs] at hy; have HZ := hid (show w.heap.size ≤ (w1.alloc (.cells #[.int .u8 (Chk.zero.k.toNat : Int), .int .u8 (Chk.zero.f.toNat : Int), .slice ps ns cps] 41 (0, 0))).heap.size from Nat.le_trans HSW.out (Nat.le_trans hb1.size (by simp))); have HNB := hid (fun k (hk : (Value.slice ps ns cps).ownBlock = some k) => Nat.lt_of_lt_of_le (ho.lt k hk) (show w1.heap.size ≤ (w1.alloc (.cells #[.int .u8 (Chk.zero.k.toNat : Int), .int .u8 (Chk.zero.f.toNat : Int), .slice ps ns cps] 41 (0, 0))).heap.size by simp)); have HSZ1 := hid (show wr.heap.size ≤ (w1.alloc (.cells #[.int .u8 (Chk.zero.k.toNat : Int), .int .u8 (Chk.zero.f.toNat : Int), .slice ps ns cps] 41 (0, 0))).heap.size from Nat.le_trans hb1.size (by simp)); clear ho hb1 HT c0 hj1)
        refine ⟨rfl, hR.mono ?_⟩
        rintro e W3 (⟨rfl, hJ3, hk3⟩ | ⟨rfl, hJx3⟩)
        · have HIS := hid (show ItS l (pre ++ [(Chk.zero, .agg #[.int .u8 (Chk.zero.k.toNat : Int), .int .u8 (Chk.zero.f.toNat : Int), .slice ps ns cps], 7)]) from .inl ⟨_, List.mem_append_right _ (List.mem_singleton.2 rfl), by simp⟩)
          have HJ3 := hid hJ3
          clear hR hy hJ3 hk3
          gi_wp2
          refine bodyPost_ret (results_none rfl _ _ _) rfl ?_
          exact ⟨⟨_, rfl⟩, .inl ⟨_, HIS.out, HJ3.out⟩⟩
        · gi_wp2
          refine bodyPost_ret (results_none rfl _ _ _) rfl ?_
          exact ⟨⟨_, rfl⟩, .inr ⟨_, hJx3⟩⟩
set_option maxRecDepth 20000 in
theorem chunks_any (p : Option Addr) (n c : Nat) (w : World) :
    Calls Try.prog 44 #[.slice p n c] w fun e w' => e = .returned (.func (.func 60) #[] #[.pointer (some ⟨w.heap.size, 0, none⟩)]) ∧ w' = w.alloc (.cells #[.slice p n c] 29 (0, 0)) := by
  go_enter Try.func44, Try.ntmps44
  go_wp2_with fail
  go_ret
  exact ⟨rfl, rfl⟩
end Go.Proofs.Ytahpklciafpdaaa

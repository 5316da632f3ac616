/- Joined: ShaWords, ShaProg, ShaState, ShaWrite, ShaSum, ShaRef, ShaRefW, ShaRef3, ShaCut. -/
import Derived.Test.YtiimlanbbfhkjaaDoorBaseC
import Derived.Test.YtiimlanbbfhkjaaDoorBaseB
import Derived.Test.YtiimlanbbfhkjaaDoorRows
import Derived.BigQuiet
import Derived.Deep.QuietTactic
import Derived.StillTailTactics
import Derived.RegionTactic
import Derived.BigRegion
import Derived.Deep.RegionHeld3
import Derived.Laws.CopyOwn
import Derived.Deep.RegionLaw
import Derived.Laws.MakeOwn
import Derived.Deep.MidRow
import Derived.Test.YtiimlanbbfhkjaaDoorBaseD
import Derived.Test.YtiimlanbbfhkjaaDoorBaseF
set_option linter.unusedSimpArgs false
set_option linter.unusedVariables false



namespace Go.FL

open Go.RowKit

def u32v (x : BitVec 32) : Value := .int .u32 (x.toNat : Int)
def wordsV (l : List (BitVec 32)) : List Value := l.map u32v
def stV (begun : Bool) (s : List (BitVec 32)) (blk : List UInt8) (n : Nat) : List Value := .bool begun :: (wordsV s ++ (bytesV blk ++ [.int .u64 (n : Int)]))

theorem wordsV_length (l : List (BitVec 32)) : (wordsV l).length = l.length := by simp [wordsV]
theorem wordsV_append (l m : List (BitVec 32)) : wordsV (l ++ m) = wordsV l ++ wordsV m := by simp [wordsV]
/-- A row of words, written up to a place. -/
theorem rowT_here {w : World} {g e t : Nat} {ws : List (BitVec 32)} {v : Value} {r : List Value} (h : RowV w g e (wordsV ws ++ (v :: r))) (hl : ws.length = t) : w.cell? ⟨g, t, none⟩ = some v := by
  rw [h.cell, List.getElem?_append_right (by rw [wordsV_length]; omega), wordsV_length, hl, Nat.sub_self]
  rfl
theorem rowT_store {w : World} {g e t : Nat} {ws : List (BitVec 32)} {v : Value} {r : List Value} (h : RowV w g e (wordsV ws ++ (v :: r))) (hl : ws.length = t) (u : Value) : RowV (w.setCell ⟨g, t, none⟩ u) g e (wordsV ws ++ (u :: r)) := by
  have := h.store t u
  rwa [List.set_append, wordsV_length, if_neg (by omega), hl, Nat.sub_self, List.set_cons_zero] at this
theorem rowT_low {w : World} {g e : Nat} {ws : List (BitVec 32)} {r : List Value} (h : RowV w g e (wordsV ws ++ r)) (i : Nat) (hi : i < ws.length) : w.cell? ⟨g, i, none⟩ = some (.int .u32 ((ws.getD i 0#32).toNat : Int)) := by
  rw [h.cell, List.getElem?_append_left (by rw [wordsV_length]; exact hi)]
  simp [wordsV, u32v, hi]
theorem rowT_next (ws : List (BitVec 32)) (x : BitVec 32) (v : Value) (r : List Value) (hv : v = u32v x) : wordsV ws ++ (v :: r) = wordsV (ws ++ [x]) ++ r := by
  rw [wordsV_append, List.append_assoc, hv]
  rfl
theorem rest_next (t : Nat) (h : t < 64) : List.replicate (64 - t) (u32v 0#32) = u32v 0#32 :: List.replicate (64 - (t + 1)) (u32v 0#32) := by
  obtain ⟨m, h1, h2⟩ : ∃ m, 64 - t = m + 1 ∧ 64 - (t + 1) = m := ⟨_, by omega, rfl⟩
  rw [h1, h2]
  rfl
theorem stV_length (b : Bool) (s : List (BitVec 32)) (blk : List UInt8) (n : Nat) : (stV b s blk n).length = s.length + blk.length + 2 := by simp [stV, wordsV, bytesV]; omega
theorem stV_word (b : Bool) (s : List (BitVec 32)) (blk : List UInt8) (n i : Nat) (h : i < s.length) : (stV b s blk n)[1 + i]? = some (u32v s[i]) := by
  rw [stV, Nat.add_comm, List.getElem?_cons_succ, List.getElem?_append_left (by rw [wordsV_length]; exact h)]
  simp [wordsV, h]
theorem stV_byte (b : Bool) (s : List (BitVec 32)) (blk : List UInt8) (n i : Nat) (hs : s.length = 8) (h : i < blk.length) : (stV b s blk n)[9 + i]? = some (.int .u8 (blk[i].toNat : Int)) := by
  rw [stV, show 9 + i = (8 + i) + 1 by omega, List.getElem?_cons_succ, List.getElem?_append_right (by rw [wordsV_length]; omega), wordsV_length, hs, Nat.add_sub_cancel_left, List.getElem?_append_left (by rw [bytesV_length]; exact h)]
  simp [bytesV, h]
theorem stV_n (b : Bool) (s : List (BitVec 32)) (blk : List UInt8) (n : Nat) (hs : s.length = 8) (h : blk.length = 64) : (stV b s blk n)[73]? = some (.int .u64 (n : Int)) := by
  rw [stV, List.getElem?_cons_succ, List.getElem?_append_right (by rw [wordsV_length]; omega), wordsV_length, hs, List.getElem?_append_right (by rw [bytesV_length]; omega), bytesV_length, h]
  rfl
theorem stV_setWord (b : Bool) (s : List (BitVec 32)) (blk : List UInt8) (n i : Nat) (h : i < s.length) (x : BitVec 32) : (stV b s blk n).set (1 + i) (u32v x) = stV b (s.set i x) blk n := by
  rw [stV, Nat.add_comm, List.set_cons_succ, List.set_append, wordsV_length, if_pos h, stV]
  simp [wordsV, List.map_set]
theorem sha_list_length (s : Sha) : s.list.length = 8 := rfl
/-- The sums, the first i of them with what a block adds. -/
def shaMixed (s r : Sha) (i : Nat) : List (BitVec 32) := (s.add r).list.take i ++ s.list.drop i
theorem shaMixed_length (s r : Sha) (i : Nat) (h : i ≤ 8) : (shaMixed s r i).length = 8 := by simp [shaMixed, sha_list_length]; omega
theorem shaMixed_get (s r : Sha) (i : Nat) (h : i < 8) : (shaMixed s r i)[i]? = some (s.list.getD i 0#32) := by
  rcases i with _ | _ | _ | _ | _ | _ | _ | _ | i <;> first | rfl | omega
theorem shaMixed_set (s r : Sha) (i : Nat) (h : i < 8) : (shaMixed s r i).set i (s.list.getD i 0#32 + r.list.getD i 0#32) = shaMixed s r (i + 1) := by
  rcases i with _ | _ | _ | _ | _ | _ | _ | _ | i <;> first | rfl | omega
theorem shaMixed_zero (s r : Sha) : shaMixed s r 0 = s.list := rfl
theorem shaMixed_all (s r : Sha) : shaMixed s r 8 = (s.add r).list := rfl

theorem cell_off {w : World} {g i j : Nat} (u : Value) (h : i ≠ j) : (w.setCell ⟨g, i, none⟩ u).cell? ⟨g, j, none⟩ = w.cell? ⟨g, j, none⟩ :=
  World.cell?_setCell_other _ _ _ _ (by simp)
theorem sigA_val (x : BitVec 32) : bits .xor .u32 (bits .xor .u32 ((rr x 7).toNat : Int) ((rr x 18).toNat : Int)) ((x.toNat : Int) / 8) = ((sigA x).toNat : Int) := by
  rw [show (x.toNat : Int) / (8 : Int) = ((x >>> 3).toNat : Int) from shr32 x 3, bits_xor32, bits_xor32]
  rfl
theorem sigB_val (x : BitVec 32) : bits .xor .u32 (bits .xor .u32 ((rr x 17).toNat : Int) ((rr x 19).toNat : Int)) ((x.toNat : Int) / 1024) = ((sigB x).toNat : Int) := by
  rw [show (x.toNat : Int) / (1024 : Int) = ((x >>> 10).toNat : Int) from shr32 x 10, bits_xor32, bits_xor32]
  rfl
theorem sumE_val (x : BitVec 32) : bits .xor .u32 (bits .xor .u32 ((rr x 6).toNat : Int) ((rr x 11).toNat : Int)) ((rr x 25).toNat : Int) = ((sumE x).toNat : Int) := by
  rw [bits_xor32, bits_xor32]
  rfl
theorem sumA_val (x : BitVec 32) : bits .xor .u32 (bits .xor .u32 ((rr x 2).toNat : Int) ((rr x 13).toNat : Int)) ((rr x 22).toNat : Int) = ((sumA x).toNat : Int) := by
  rw [bits_xor32, bits_xor32]
  rfl
theorem ch_val (e f g : BitVec 32) : bits .or .u32 (bits .and .u32 (e.toNat : Int) (f.toNat : Int)) (bits .and .u32 (bits .xor .u32 IntKind.u32.max (e.toNat : Int)) (g.toNat : Int)) = ((shaCh e f g).toNat : Int) := by
  rw [not32, bits_and32, bits_and32, bits_or32]
  rfl
theorem maj_val (a b c : BitVec 32) : bits .or .u32 (bits .and .u32 (a.toNat : Int) (b.toNat : Int)) (bits .and .u32 (c.toNat : Int) (bits .or .u32 (a.toNat : Int) (b.toNat : Int))) = ((shaMaj a b c).toNat : Int) := by
  rw [bits_or32, bits_and32, bits_and32, bits_or32]
  rfl
theorem wordsV_get (l : List (BitVec 32)) (i : Nat) (h : i < l.length) : (wordsV l)[i]? = some (.int .u32 ((l.getD i 0#32).toNat : Int)) := by simp [wordsV, u32v, h]
theorem stV_wordD (b : Bool) (s : List (BitVec 32)) (blk : List UInt8) (n i : Nat) (x : BitVec 32) (h : s[i]? = some x) : (stV b s blk n)[1 + i]? = some (.int .u32 (x.toNat : Int)) := by
  obtain ⟨hi, rfl⟩ := List.getElem?_eq_some_iff.1 h
  exact stV_word b s blk n i hi
theorem list8 {α : Type} {l : List α} (h : l.length = 8) : ∃ a b c d e f g i, l = [a, b, c, d, e, f, g, i] := by
  match l, h with
  | [a, b, c, d, e, f, g, i], _ => exact ⟨a, b, c, d, e, f, g, i, rfl⟩
end Go.FL










namespace Go.Proofs.YtiimlanbbfhkjaaDoor

open Go.RowKit Go.FL

theorem rotl_val (x : BitVec 32) (n : Nat) : bits .or .u32 ((x.toNat : Int) * 2 ^ (32 - n) % 4294967296) ((x.toNat : Int) / 2 ^ n) = ((rr x n).toNat : Int) := by
  rw [shl32, shr32, bits_or32, rr]
  congr 2
  apply BitVec.eq_of_getLsbD_eq
  intro i _
  simp only [BitVec.getLsbD_or, Bool.or_comm]

theorem and31 (n : Nat) (h0 : 0 < n) (h : n < 32) : bits .and .u64 (18446744073709551616 - (n : Int)) 31 = ((32 - n : Nat) : Int) := by
  have key : ∀ n : Nat, n < 32 → 0 < n → bits .and .u64 (18446744073709551616 - (n : Int)) 31 = ((32 - n : Nat) : Int) := by decide +kernel
  exact key n h h0

theorem rotl_any (x : BitVec 32) (n : Nat) (h0 : 0 < n) (h : n < 32) (w : World) :
    Calls Tryd.prog 93 #[.int .u32 (x.toNat : Int), .int .i64 (-(n : Int))] w fun e w' => e = .returned (.int .u32 ((rr x n).toNat : Int)) ∧ w = w' := by
  have hc : IntKind.u64.wrap (-(n : Int)) = 18446744073709551616 - (n : Int) := by rw [IntKind.wrap_u64]; omega
  have ha : bits .and .u64 (18446744073709551616 - (n : Int)) 31 = ((32 - n : Nat) : Int) := and31 n h0 h
  have hb : ((32 - n : Nat) : Int) ≤ 31 := by omega
  have hd : (32 : Int) - ((32 - n : Nat) : Int) = (n : Int) := by omega
  go_enter Tryd.func93, Tryd.ntmps93
  go_wp2
  go_ret
  exact ⟨by rw [← rotl_val x n]; rfl, rfl⟩

theorem rotl_at (x : BitVec 32) (n : Nat) (k : Int) (h0 : 0 < n) (h : n < 32) (hk : k = -(n : Int)) (w : World) :
    Calls Tryd.prog 93 #[.int .u32 (x.toNat : Int), .int .i64 k] w fun e w' => e = .returned (.int .u32 ((rr x n).toNat : Int)) ∧ w = w' := by
  subst hk
  exact rotl_any x n h0 h w
theorem rotl_k (x : BitVec 32) (k : Int) (h : -32 < k ∧ k < 0) (w : World) :
    Calls Tryd.prog 93 #[.int .u32 (x.toNat : Int), .int .i64 k] w fun e w' => e = .returned (.int .u32 ((rr x (-k).toNat).toNat : Int)) ∧ w' = w :=
  (rotl_at x (-k).toNat k (by omega) (by omega) (by omega) w).mono fun _ _ ⟨h1, h2⟩ => ⟨h1, h2.symm⟩
/-- The package's two tables. -/
def ShaLaid (w : World) : Prop := (∀ i (h : i < shaH.list.length), w.cell? ⟨0, i, none⟩ = some (u32v shaH.list[i])) ∧ (∀ i (h : i < shaK.length), w.cell? ⟨1, i, none⟩ = some (u32v shaK[i]))
theorem ShaLaid.mono {w w' : World} (h : ShaLaid w) (hb : Below w.heap.size w w') : ShaLaid w' :=
  ⟨fun i hi => cell?_of_below hb (h.1 i hi), fun i hi => cell?_of_below hb (h.2 i hi)⟩
theorem ShaLaid.grown {w w' : World} {g e : Nat} {b : Bool} {l : List Value} (h : ShaLaid w) (hr : RowV w g e (.bool b :: l)) (hb : w.grownBy w' (some g)) : ShaLaid w' := by
  have h0 := hr.at 0 (by simp)
  have n0 : g ≠ 0 := by
    rintro rfl
    rw [h.1 0 (by decide)] at h0
    cases h0
  have n1 : g ≠ 1 := by
    rintro rfl
    rw [h.2 0 (by decide)] at h0
    cases h0
  exact ⟨fun i hi => hb.cell (h.1 i hi) (by simp; omega), fun i hi => hb.cell (h.2 i hi) (by simp; omega)⟩

set_option maxRecDepth 100000 in
set_option maxHeartbeats 8000000 in
theorem take_any (g : Nat) (begun : Bool) (s0 : List (BitVec 32)) (s : Sha) (blk : List UInt8) (n : Nat) (w : World)
    (hrow : RowV w g 148 (stV begun s0 blk n)) (hbl : blk.length = 64) (hs0 : s0.length = 8) (hst : (begun = true ∧ s0 = s.list) ∨ (begun = false ∧ s = shaH)) (hlaid : ShaLaid w) :
    Calls Tryd.prog 92 #[.pointer (some ⟨g, 0, none⟩)] w fun e w' => e = .returned (.tuple #[]) ∧ RowV w' g 148 (stV true (shaBlock s blk).list blk n) ∧ w.grownBy w' (some g) := by
  have HR := hid hrow
  have HL := hid hlaid
  have HBL := hid hbl
  have c0 : w.cell? ⟨g, 0, none⟩ = some (.bool begun) := hrow.at 0 (by simp [stV])
  have f0 := hrow.frozen
  rcases hst with hst | hst
  case' inl =>
    obtain ⟨rfl, rfl⟩ := hst
    clear hlaid hbl
    have HG := hid (gb_refl w (some g))
    go_enter Tryd.func92, Tryd.ntmps92
    go_wp2
    obtain ⟨wa, hwa⟩ : ∃ wa : World, wa = w := ⟨_, rfl⟩
    rw [← hwa] at HL HR ⊢
    have HG : Hid (w.grownBy wa (some g)) := by rw [hwa]; exact HG
    clear hwa c0 f0 hrow hs0
  case' inr =>
    obtain ⟨rfl, hsH⟩ := hst
    have k0 : w.cell? ⟨0, 0, none⟩ = some (.int .u32 1779033703) := hlaid.1 0 (by decide)
    have k1 : w.cell? ⟨0, 1, none⟩ = some (.int .u32 3144134277) := hlaid.1 1 (by decide)
    have k2 : w.cell? ⟨0, 2, none⟩ = some (.int .u32 1013904242) := hlaid.1 2 (by decide)
    have k3 : w.cell? ⟨0, 3, none⟩ = some (.int .u32 2773480762) := hlaid.1 3 (by decide)
    have k4 : w.cell? ⟨0, 4, none⟩ = some (.int .u32 1359893119) := hlaid.1 4 (by decide)
    have k5 : w.cell? ⟨0, 5, none⟩ = some (.int .u32 2600822924) := hlaid.1 5 (by decide)
    have k6 : w.cell? ⟨0, 6, none⟩ = some (.int .u32 528734635) := hlaid.1 6 (by decide)
    have k7 : w.cell? ⟨0, 7, none⟩ = some (.int .u32 1541459225) := hlaid.1 7 (by decide)
    obtain ⟨x0, x1, x2, x3, x4, x5, x6, x7, rfl⟩ := list8 hs0
    have g1 : w.cell? ⟨g, 1, none⟩ = some (u32v x0) := hrow.at 1 (by simp [stV, wordsV])
    have g2 : w.cell? ⟨g, 2, none⟩ = some (u32v x1) := hrow.at 2 (by simp [stV, wordsV])
    have g3 : w.cell? ⟨g, 3, none⟩ = some (u32v x2) := hrow.at 3 (by simp [stV, wordsV])
    have g4 : w.cell? ⟨g, 4, none⟩ = some (u32v x3) := hrow.at 4 (by simp [stV, wordsV])
    have g5 : w.cell? ⟨g, 5, none⟩ = some (u32v x4) := hrow.at 5 (by simp [stV, wordsV])
    have g6 : w.cell? ⟨g, 6, none⟩ = some (u32v x5) := hrow.at 6 (by simp [stV, wordsV])
    have g7 : w.cell? ⟨g, 7, none⟩ = some (u32v x6) := hrow.at 7 (by simp [stV, wordsV])
    have g8 : w.cell? ⟨g, 8, none⟩ = some (u32v x7) := hrow.at 8 (by simp [stV, wordsV])
    have HR := hid (show RowV (((((((((w.setCell ⟨g, 0, none⟩ (.bool true)).setCell ⟨g, 1, none⟩ (.int .u32 1779033703)).setCell ⟨g, 2, none⟩ (.int .u32 3144134277)).setCell ⟨g, 3, none⟩ (.int .u32 1013904242)).setCell ⟨g, 4, none⟩ (.int .u32 2773480762)).setCell ⟨g, 5, none⟩ (.int .u32 1359893119)).setCell ⟨g, 6, none⟩ (.int .u32 2600822924)).setCell ⟨g, 7, none⟩ (.int .u32 528734635)).setCell ⟨g, 8, none⟩ (.int .u32 1541459225)) g 148 (stV true s.list blk n) from by rw [hsH]; exact ((((((((hrow.store 0 (.bool true)).store 1 (.int .u32 1779033703)).store 2 (.int .u32 3144134277)).store 3 (.int .u32 1013904242)).store 4 (.int .u32 2773480762)).store 5 (.int .u32 1359893119)).store 6 (.int .u32 2600822924)).store 7 (.int .u32 528734635)).store 8 (.int .u32 1541459225))
    have HG := hid (gb_set (gb_set (gb_set (gb_set (gb_set (gb_set (gb_set (gb_set (gb_set (gb_refl w (some g)) 0 (.bool true)) 1 (.int .u32 1779033703)) 2 (.int .u32 3144134277)) 3 (.int .u32 1013904242)) 4 (.int .u32 2773480762)) 5 (.int .u32 1359893119)) 6 (.int .u32 2600822924)) 7 (.int .u32 528734635)) 8 (.int .u32 1541459225))
    have HL := hid (hlaid.grown hrow HG.out)
    clear hlaid hbl hsH
    go_enter Tryd.func92, Tryd.ntmps92
    go_wp2
    clear k0 k1 k2 k3 k4 k5 k6 k7 g1 g2 g3 g4 g5 g6 g7 g8 c0 f0 hrow hs0
    obtain ⟨wa, hwa⟩ : ∃ wa : World, wa = ((((((((w.setCell ⟨g, 0, none⟩ (.bool true)).setCell ⟨g, 1, none⟩ (.int .u32 1779033703)).setCell ⟨g, 2, none⟩ (.int .u32 3144134277)).setCell ⟨g, 3, none⟩ (.int .u32 1013904242)).setCell ⟨g, 4, none⟩ (.int .u32 2773480762)).setCell ⟨g, 5, none⟩ (.int .u32 1359893119)).setCell ⟨g, 6, none⟩ (.int .u32 2600822924)).setCell ⟨g, 7, none⟩ (.int .u32 528734635)).setCell ⟨g, 8, none⟩ (.int .u32 1541459225) := ⟨_, rfl⟩
    have hwz : w.heap.size = wa.heap.size := by rw [hwa]; simp
    rw [← hwa] at HL HR HG ⊢
    rw [hwz]
    clear hwa hwz
  all_goals
    have HX := hid (Below.refl wa.heap.size wa)
    go_loopw [36] (fun y wr => ∃ t : Nat, t ≤ 64 ∧ y = .int .i64 (t : Int) ∧ Hid (RowV wr wa.heap.size 149 (wordsV (shaSched blk t) ++ List.replicate (64 - t) (u32v 0#32))) ∧ Hid (Below wa.heap.size wa wr)) (fun y _ => 64 - (intOf y).toNat)
    case atStart => exact ⟨0, Nat.zero_le _, rfl, RowV.new wa 149 (List.replicate 64 (u32v 0#32)), (Below.refl _ _).alloc (Nat.le_refl _) _⟩
    case round =>
      obtain ⟨t, ht, rfl, hr, hb⟩ := hrel
      by_cases hlt : t < 64
      · have hrt := hr.out
        rw [rest_next t hlt] at hrt
        have hlen := shaSched_length blk t
        by_cases h16 : t < 16
        · have HR1 := hid (HR.out.mono hb.out)
          have hsl := fun wx => run_sliceAt_arr (P := Tryd.prog) 136 5 64 Tryd.underlying136 (by kernel_rfl) g 9 (4 * t) (4 * t + 4) (by omega) (by omega) (by omega) .i64 .i64 (4 * (t : Int)) (4 * (t : Int) + 4) (by omega) (by omega) wx
          rw [show 4 * t + 4 - 4 * t = 4 by omega] at hsl
          have HS := hid (shaSched_low blk t h16)
          have HRT := hid hrt
          have HB := hid hb.out
          have HLN := hid hlen
          clear hr hb hrt hlen
          go_wp2
          clear hsl
          go_loopw [51] (fun y wx => ∃ j : Nat, j ≤ 4 ∧ y = .int .i64 (j : Int) ∧ Hid (RowV wx wa.heap.size 149 (wordsV (shaSched blk t) ++ (.int .u32 ((beVal ((blk.drop (4 * t)).take j) : Nat) : Int) :: List.replicate (64 - (t + 1)) (u32v 0#32)))) ∧ Hid (Below wa.heap.size wa wx)) (fun y _ => 4 - (intOf y).toNat)
          case atStart => exact ⟨0, Nat.zero_le _, rfl, HRT.out, HB.out⟩
          case round =>
            clear HRT HB
            obtain ⟨j, hj, rfl, hr, hb⟩ := hrel
            by_cases hlj : j < 4
            · have hbl := HBL.out
              have hcb : wr.cell? ⟨g, 9 + 4 * t + j, none⟩ = some (.int .u8 (blk[4 * t + j].toNat : Int)) := by
                rw [(HR.out.mono hb.out).cell, Nat.add_assoc, stV_byte true s.list blk n (4 * t + j) rfl (by omega)]
              have hcw := rowT_here hr.out HLN.out
              have hfw := hr.out.frozen t
              have hst := rowT_store hr.out HLN.out (.int .u32 ((beVal ((blk.drop (4 * t)).take (j + 1)) : Nat) : Int))
              have hbv : beVal ((blk.drop (4 * t)).take (j + 1)) = beVal ((blk.drop (4 * t)).take j) * 256 + blk[4 * t + j].toNat := by
                rw [List.take_succ_eq_append_getElem (by simp; omega), beVal_snoc]
                simp
              have hx : beVal ((blk.drop (4 * t)).take j) < 16777216 := by
                have h1 := beVal_lt ((blk.drop (4 * t)).take j)
                have h2 : 256 ^ ((blk.drop (4 * t)).take j).length ≤ 256 ^ 3 := Nat.pow_le_pow_right (by decide) (by simp; omega)
                omega
              rw [hbv] at hst
              have HBV := hid hbv
              generalize beVal ((blk.drop (4 * t)).take j) = x at *
              have HST := hid hst
              have HB := hid (hb.out.setCell (p := ⟨wa.heap.size, t, none⟩) (Nat.le_refl _) (.int .u32 ((x * 256 + blk[4 * t + j].toNat : Nat) : Int)))
              have hbb := byte_lt blk[4 * t + j]
              have hob := word_byte x blk[4 * t + j] hx
              generalize blk[4 * t + j] = c at *
              clear hr hb hst hbv hbl
              go_wp2
              go_roundw
              case rel => exact ⟨j + 1, by omega, by go_num, by rw [HBV.out]; exact HST.out, HB.out⟩
              case measure => simp [intOf]; omega
            · obtain rfl : j = 4 := by omega
              have hnx := rowT_next (shaSched blk t) (shaWord blk t) (.int .u32 ((beVal ((blk.drop (4 * t)).take 4) : Nat) : Int)) (List.replicate (64 - (t + 1)) (u32v 0#32)) (by
                have h1 := beVal_lt ((blk.drop (4 * t)).take 4)
                have h2 : 256 ^ ((blk.drop (4 * t)).take 4).length ≤ 256 ^ 4 := Nat.pow_le_pow_right (by decide) (by simp; omega)
                simp only [u32v, shaWord, BitVec.toNat_ofNat]
                rw [Nat.mod_eq_of_lt (by omega)])
              rw [hnx, ← HS.out] at hr
              have HRN := hid hr.out
              have HB := hid hb.out
              clear hr hb hnx
              go_wp2
              go_roundw
              case rel => exact ⟨t + 1, by omega, by go_num, HRN.out, HB.out⟩
              case measure => simp [intOf]; omega
        · have HS := hid (shaSched_high blk t (by omega))
          have p16 := rowT_low hrt (t - 16) (by omega)
          have p15 := rowT_low hrt (t - 15) (by omega)
          have p7 := rowT_low hrt (t - 7) (by omega)
          have p2 := rowT_low hrt (t - 2) (by omega)
          have hmix : shaMix (shaSched blk t) = (shaSched blk t).getD (t - 16) 0#32 + sigA ((shaSched blk t).getD (t - 15) 0#32) + (shaSched blk t).getD (t - 7) 0#32 + sigB ((shaSched blk t).getD (t - 2) 0#32) := by rw [shaMix, hlen]
          have hfw := hr.out.frozen t
          have phere := rowT_here hrt hlen
          have hst := rowT_store hrt hlen (u32v (shaMix (shaSched blk t)))
          rw [rowT_next _ _ _ _ rfl, ← HS.out] at hst
          generalize (shaSched blk t).getD (t - 16) 0#32 = x16 at *
          generalize (shaSched blk t).getD (t - 15) 0#32 = x15 at *
          generalize (shaSched blk t).getD (t - 7) 0#32 = x7 at *
          generalize (shaSched blk t).getD (t - 2) 0#32 = x2 at *
          generalize shaMix (shaSched blk t) = xm at *
          have HST := hid hst
          have HMX := hid hmix
          have HB := hid hb.out
          have e16 : ((t : Int) - 16).toNat = t - 16 := by omega
          have e15 : ((t : Int) - 15).toNat = t - 15 := by omega
          have e7 : ((t : Int) - 7).toNat = t - 7 := by omega
          have e2 : ((t : Int) - 2).toNat = t - 2 := by omega
          have i16 : (0 : Int) ≤ (t : Int) - 16 := by omega
          have i15 : (0 : Int) ≤ (t : Int) - 15 := by omega
          have i7 : (0 : Int) ≤ (t : Int) - 7 := by omega
          have i2 : (0 : Int) ≤ (t : Int) - 2 := by omega
          have j16 : (t : Int) - 16 < 64 := by omega
          have j15 : (t : Int) - 15 < 64 := by omega
          have j7 : (t : Int) - 7 < 64 := by omega
          have j2 : (t : Int) - 2 < 64 := by omega
          clear hst hmix hr hb hrt hlen
          go_wp2_with fail
          go_quiet (fail)
          go_wp2_with fail
          refine (rotl_at x15 7 (-7) (by decide) (by decide) rfl _).mono ?_
          rintro e w1 ⟨rfl, rfl⟩
          go_wp2_with fail
          refine (rotl_at x15 18 (-18) (by decide) (by decide) rfl _).mono ?_
          rintro e w1 ⟨rfl, rfl⟩
          go_wp2_with fail
          refine (rotl_at x2 17 (-17) (by decide) (by decide) rfl _).mono ?_
          rintro e w1 ⟨rfl, rfl⟩
          go_wp2_with fail
          refine (rotl_at x2 19 (-19) (by decide) (by decide) rfl _).mono ?_
          rintro e w1 ⟨rfl, rfl⟩
          go_wp2_with fail
          have w16 : IntKind.i64.wrap ((t : Int) - 16) = (t : Int) - 16 := by rw [IntKind.wrap_i64]; omega
          have w7 : IntKind.i64.wrap ((t : Int) - 7) = (t : Int) - 7 := by rw [IntKind.wrap_i64]; omega
          have it : (0 : Int) ≤ (t : Int) := by omega
          have k16 : (16 : Int) ≤ (t : Int) := by omega
          have k7 : (7 : Int) ≤ (t : Int) := by omega
          rw [sigA_val, sigB_val]
          generalize sigA x15 = sa at *
          generalize sigB x2 = sb at *
          have jt : (t : Int) < 64 := by omega
          go_region_held3 (fun w' => w'.cell? ⟨wa.heap.size, t - 16, none⟩ = some (.int .u32 (x16.toNat : Int)) ∧ w'.cell? ⟨wa.heap.size, t - 7, none⟩ = some (.int .u32 (x7.toNat : Int))) (first | go_keep | exact ⟨(cell_off _ (by omega)).trans p16, (cell_off _ (by omega)).trans p7⟩) (fail)
          go_wp2
          go_roundw
          case rel => exact ⟨t + 1, by omega, by go_num, by rw [add32, add32, add32, ← HMX.out]; exact HST.out, (below_drewN' HB.out _).setCell (p := ⟨wa.heap.size, t, none⟩) (Nat.le_refl _) _⟩
          case measure => simp [intOf]; omega
      · obtain rfl : t = 64 := by omega
        have hrow := hr.out
        rw [show List.replicate (64 - 64) (u32v 0#32) = [] from rfl, List.append_nil] at hrow
        have HRW := hid hrow
        have HB := hid hb.out
        have HRS := hid (HR.out.mono hb.out)
        have HLS := hid (HL.out.mono hb.out)
        have q0 : wr.cell? ⟨g, 1, none⟩ = some (.int .u32 (s.a.toNat : Int)) := HRS.out.at 1 (by simp [stV, wordsV, Sha.list])
        have q1 : wr.cell? ⟨g, 2, none⟩ = some (.int .u32 (s.b.toNat : Int)) := HRS.out.at 2 (by simp [stV, wordsV, Sha.list])
        have q2 : wr.cell? ⟨g, 3, none⟩ = some (.int .u32 (s.c.toNat : Int)) := HRS.out.at 3 (by simp [stV, wordsV, Sha.list])
        have q3 : wr.cell? ⟨g, 4, none⟩ = some (.int .u32 (s.d.toNat : Int)) := HRS.out.at 4 (by simp [stV, wordsV, Sha.list])
        have q4 : wr.cell? ⟨g, 5, none⟩ = some (.int .u32 (s.e.toNat : Int)) := HRS.out.at 5 (by simp [stV, wordsV, Sha.list])
        have q5 : wr.cell? ⟨g, 6, none⟩ = some (.int .u32 (s.f.toNat : Int)) := HRS.out.at 6 (by simp [stV, wordsV, Sha.list])
        have q6 : wr.cell? ⟨g, 7, none⟩ = some (.int .u32 (s.g.toNat : Int)) := HRS.out.at 7 (by simp [stV, wordsV, Sha.list])
        have q7 : wr.cell? ⟨g, 8, none⟩ = some (.int .u32 (s.h.toNat : Int)) := HRS.out.at 8 (by simp [stV, wordsV, Sha.list])
        clear hr hb hrow
        go_wp2_with fail
        go_quiet (fail)
        clear q0 q1 q2 q3 q4 q5 q6 q7
        have hsz : (wordsV (shaSched blk 64)).toArray.size = 64 := by rw [List.size_toArray, wordsV_length, shaSched_length]
        go_wp2_with (refine wpList_load_row rfl 149 (.tmp 2) rfl wa.heap.size rfl 149 (wordsV (shaSched blk 64)).toArray (0, 0) _ HRW.out Tryd.underlying149 rfl ?hi ?_)
        case hi => rw [hsz]; kernel_rfl
        go_wp2
        have HIX := hid (fun (t : Nat) (ht : t < 64) => run_index_row (P := Tryd.prog) 149 22 64 Tryd.underlying149 .u32 Tryd.underlying22 (by kernel_rfl) (wordsV (shaSched blk 64)) t (.int .u32 (((shaSched blk 64).getD t 0#32).toNat : Int)) ht (by simp [wordsV, u32v, shaSched_length, ht]))
        have HK := hid (fun (t : Nat) (ht : t < 64) => show wr.cell? ⟨1, t, none⟩ = some (.int .u32 ((shaK.getD t 0#32).toNat : Int)) by
          have h1 := HLS.out.2 t (by simpa [shaK] using ht)
          rw [h1, List.getD_eq_getElem?_getD, List.getElem?_eq_getElem (by simpa [shaK] using ht)]
          rfl)
        clear hsz
        have HBK := hid (show shaBlock s blk = s.add (shaRounds (shaSched blk 64) s 64) from rfl)
        clear HRW
        generalize shaSched blk 64 = ws at *
        go_loopw [10, 11, 12, 13, 14, 15, 16, 17, 146] (fun va vb vc vd ve vf vg vh y wx => ∃ t : Nat, t ≤ 64 ∧ y = .int .i64 (t : Int) ∧ va = .int .u32 ((shaRounds ws s t).a.toNat : Int) ∧ vb = .int .u32 ((shaRounds ws s t).b.toNat : Int) ∧ vc = .int .u32 ((shaRounds ws s t).c.toNat : Int) ∧ vd = .int .u32 ((shaRounds ws s t).d.toNat : Int) ∧ ve = .int .u32 ((shaRounds ws s t).e.toNat : Int) ∧ vf = .int .u32 ((shaRounds ws s t).f.toNat : Int) ∧ vg = .int .u32 ((shaRounds ws s t).g.toNat : Int) ∧ vh = .int .u32 ((shaRounds ws s t).h.toNat : Int) ∧ ∃ m, wx = wr.drewN m) (fun _ _ _ _ _ _ _ _ y _ => 64 - (intOf y).toNat)
        case atStart => exact ⟨0, Nat.zero_le _, rfl, rfl, rfl, rfl, rfl, rfl, rfl, rfl, rfl, _, rfl⟩
        case round =>
          obtain ⟨t, ht, rfl, rfl, rfl, rfl, rfl, rfl, rfl, rfl, rfl, m, rfl⟩ := hrel
          by_cases hlt : t < 64
          · have hix := HIX.out t hlt
            have hk := HK.out t hlt
            have HS := hid (show shaRounds ws s (t + 1) = shaStep (shaRounds ws s t) (shaK.getD t 0#32) (ws.getD t 0#32) from rfl)
            generalize shaRounds ws s t = S at *
            generalize shaK.getD t 0#32 = kt at *
            generalize ws.getD t 0#32 = wt at *
            have it : (0 : Int) ≤ (t : Int) := by omega
            have jt : (t : Int) < 64 := by omega
            have hk' : (wr.drewN m).cell? ⟨1, t, none⟩ = some (.int .u32 (kt.toNat : Int)) := hk
            have HM := hid (show ∃ d, wr.drewN m = wr.drewN d from ⟨m, rfl⟩)
            clear hk
            generalize wr.drewN m = wz at *
            go_wp2_with fail
            go_quiet (exact Calls.quiet_of_same (rotl_k _ _ (by decide) _))
            go_wp2_with fail
            refine (rotl_at S.a 2 (-2) (by decide) (by decide) rfl _).mono ?_
            rintro e w1 ⟨rfl, rfl⟩
            go_wp2_with fail
            refine (rotl_at S.a 13 (-13) (by decide) (by decide) rfl _).mono ?_
            rintro e w1 ⟨rfl, rfl⟩
            go_wp2_with fail
            refine (rotl_at S.a 22 (-22) (by decide) (by decide) rfl _).mono ?_
            rintro e w1 ⟨rfl, rfl⟩
            go_wp2
            go_roundw
            case rel =>
              refine ⟨t + 1, by omega, by go_num, ?_⟩
              rw [HS.out, sumE_val, ch_val, sumA_val, maj_val]
              clear HIX HBK HRS HLS HB HR HL HG HX HBL HS hix hk'
              refine ⟨?_, rfl, rfl, rfl, ?_, rfl, rfl, rfl, ?_⟩
              · refine congrArg (Value.int .u32) ?_
                simp only [shaStep, BitVec.toNat_add]
                omega
              · refine congrArg (Value.int .u32) ?_
                simp only [shaStep, BitVec.toNat_add]
                omega
              · obtain ⟨d, hd⟩ := HM.out
                exact ⟨_, by rw [hd, World.drewN_drewN]⟩
            case measure => simp [intOf]; omega
          · obtain rfl : t = 64 := by omega
            generalize shaRounds ws s 64 = r at *
            have HRM := hid (show RowV (wr.drewN m) g 148 (stV true (shaMixed s r 0) blk n) from HRS.out)
            have HBM := hid (show Below wa.heap.size wa (wr.drewN m) from below_drewN' HB.out m)
            have HIR := hid (fun (t : Nat) (ht : t < 8) => run_index_row (P := Tryd.prog) 146 22 8 Tryd.underlying146 .u32 Tryd.underlying22 (by kernel_rfl) (wordsV r.list) t (.int .u32 ((r.list.getD t 0#32).toNat : Int)) ht (wordsV_get r.list t ht))
            have HARR := hid (show wordsV r.list = [.int .u32 (r.a.toNat : Int), .int .u32 (r.b.toNat : Int), .int .u32 (r.c.toNat : Int), .int .u32 (r.d.toNat : Int), .int .u32 (r.e.toNat : Int), .int .u32 (r.f.toNat : Int), .int .u32 (r.g.toNat : Int), .int .u32 (r.h.toNat : Int)] from rfl)
            have HARR2 := hid (congrArg List.toArray HARR.out)
            clear HIX HRS HLS HB
            generalize wr.drewN m = wz at *
            go_wp2_with fail
            rw [← HARR2.out]
            go_loopw [215] (fun y wx => ∃ i : Nat, i ≤ 8 ∧ y = .int .i64 (i : Int) ∧ Hid (RowV wx g 148 (stV true (shaMixed s r i) blk n)) ∧ Hid (wz.grownBy wx (some g))) (fun y _ => 8 - (intOf y).toNat)
            case atStart => exact ⟨0, Nat.zero_le _, rfl, HRM.out, gb_refl _ _⟩
            case round =>
              clear HRM
              obtain ⟨i, hi, rfl, hr, hb⟩ := hrel
              by_cases hlt : i < 8
              · have hix := HIR.out i hlt
                have hml := shaMixed_length s r i hi
                have hc : wr.cell? ⟨g, 1 + i, none⟩ = some (.int .u32 ((s.list.getD i 0#32).toNat : Int)) := by rw [hr.out.cell, stV_wordD true _ blk n i _ (shaMixed_get s r i hlt)]
                have hf := hr.out.frozen (1 + i)
                have hst := hr.out.store (1 + i) (u32v (s.list.getD i 0#32 + r.list.getD i 0#32))
                rw [stV_setWord true _ blk n i (by omega), shaMixed_set s r i hlt] at hst
                have HST := hid hst
                have HB := hid hb.out
                have it : (0 : Int) ≤ (i : Int) := by omega
                have jt : (i : Int) < 8 := by omega
                generalize s.list.getD i 0#32 = x at *
                generalize r.list.getD i 0#32 = y at *
                clear hst hr hb hml
                go_wp2_with fail
                go_region
                go_wp2
                go_roundw
                case rel => exact ⟨i + 1, by omega, by go_num, by rw [add32]; exact HST.out, gb_set (gb_drewN HB.out _) _ _⟩
                case measure => simp [intOf]; omega
              · obtain rfl : i = 8 := by omega
                have HEND := hid (show RowV wr g 148 (stV true (shaBlock s blk).list blk n) from by rw [HBK.out, ← shaMixed_all]; exact hr.out)
                have HGE := hid (gb_trans HG.out (gb_trans (gb_of_gr HBM.out (some g)) hb.out))
                clear hr hb
                go_wp2
                go_end0
                exact ⟨rfl, HEND.out, HGE.out⟩
end Go.Proofs.YtiimlanbbfhkjaaDoor






namespace Go.FL

open Go.RowKit

/-- What a state holds behind the bytes m. -/
def StOk (m : List UInt8) (bg : Bool) (s0 : List (BitVec 32)) (blk : List UInt8) : Prop :=
  blk.length = 64 ∧ s0.length = 8 ∧ bg = decide (64 ≤ m.length) ∧ (64 ≤ m.length → s0 = (shaChain m (m.length / 64)).list) ∧ blk.take (m.length % 64) = m.drop (64 * (m.length / 64))

theorem stOk_zero : StOk [] false (List.replicate 8 0#32) (List.replicate 64 0) := ⟨rfl, rfl, by decide, fun h => by simp at h, rfl⟩
theorem splice_take {α : Type} (L : List α) (off : Nat) (cs : List α) (h : off + cs.length ≤ L.length) : (splice L off cs).take (off + cs.length) = L.take off ++ cs := by
  have h1 : (L.take off).length = off := by simp; omega
  rw [splice, ← List.append_assoc]
  exact List.take_left' (by simp; omega)
theorem div_same {a b : Nat} (h : a % 64 + b < 64) : (a + b) / 64 = a / 64 ∧ (a + b) % 64 = a % 64 + b := by omega
theorem div_next {a b : Nat} (h : a % 64 + b = 64) : (a + b) / 64 = a / 64 + 1 ∧ (a + b) % 64 = 0 := by omega

theorem stOk_put {m b : List UInt8} {bg : Bool} {s0 : List (BitVec 32)} {blk : List UInt8} (h : StOk m bg s0 blk) (hb : m.length % 64 + b.length < 64) : StOk (m ++ b) bg s0 (splice blk (m.length % 64) b) := by
  obtain ⟨h1, h2, h3, h4, h5⟩ := h
  have hl : (m ++ b).length = m.length + b.length := by simp
  obtain ⟨e1, e2⟩ := div_same hb
  have hle : 64 * (m.length / 64) ≤ m.length := by omega
  refine ⟨?_, h2, ?_, ?_, ?_⟩
  · rw [length_splice _ _ _ (by omega), h1]
  · rw [h3, hl]
    have : (64 ≤ m.length) ↔ (64 ≤ m.length + b.length) := by omega
    simp [this]
  · intro h64
    rw [hl] at h64
    rw [h4 (by omega), hl, e1, shaChain_append m b _ hle]
  · rw [hl, e1, e2, splice_take _ _ _ (by omega), h5, List.drop_append_of_le_length hle]
theorem stOk_full {m b : List UInt8} {bg : Bool} {s0 : List (BitVec 32)} {blk : List UInt8} (h : StOk m bg s0 blk) (hb : m.length % 64 + b.length = 64) :
    ∃ s : Sha, ((bg = true ∧ s0 = s.list) ∨ (bg = false ∧ s = shaH)) ∧ (splice blk (m.length % 64) b).length = 64 ∧ StOk (m ++ b) true (shaBlock s (splice blk (m.length % 64) b)).list (splice blk (m.length % 64) b) := by
  obtain ⟨h1, h2, h3, h4, h5⟩ := h
  have hl : (m ++ b).length = m.length + b.length := by simp
  obtain ⟨e1, e2⟩ := div_next hb
  have hle : 64 * (m.length / 64) ≤ m.length := by omega
  have hsl : (splice blk (m.length % 64) b).length = 64 := by rw [length_splice _ _ _ (by omega), h1]
  have hblk : splice blk (m.length % 64) b = ((m ++ b).drop (64 * (m.length / 64))).take 64 := by
    have ht := splice_take blk (m.length % 64) b (by omega)
    rw [hb, h5] at ht
    have hd : (m ++ b).drop (64 * (m.length / 64)) = m.drop (64 * (m.length / 64)) ++ b := List.drop_append_of_le_length hle
    have hdl : (m.drop (64 * (m.length / 64)) ++ b).length = 64 := by simp; omega
    rw [hd, List.take_of_length_le (by omega), ← ht, List.take_of_length_le (by omega)]
  refine ⟨shaChain m (m.length / 64), ?_, hsl, hsl, rfl, ?_, ?_, ?_⟩
  · by_cases h64 : 64 ≤ m.length
    · exact .inl ⟨by simp [h3, h64], h4 h64⟩
    · refine .inr ⟨by simp [h3]; omega, ?_⟩
      rw [show m.length / 64 = 0 by omega]
      rfl
  · have : 64 ≤ m.length + b.length := by omega
    simp [hl, this]
  · intro _
    rw [hl, e1, shaChain, shaChain_append m b _ hle, ← hblk]
  · rw [hl, e2, e1, List.take_zero, List.drop_eq_nil_of_le]
    rw [hl]
    omega
/-- A state that holds whole blocks alone. -/
theorem stOk_whole {m : List UInt8} {bg : Bool} {s0 : List (BitVec 32)} {blk : List UInt8} (h : StOk m bg s0 blk) (h64 : 64 ≤ m.length) : s0 = (shaChain m (m.length / 64)).list := h.2.2.2.1 h64

/-- A state lies in block g, behind the bytes m. -/
def ShaSt (w : World) (g e : Nat) (m : List UInt8) : Prop := ∃ bg s0 blk, RowV w g e (stV bg s0 blk m.length) ∧ StOk m bg s0 blk
theorem ShaSt.mono {w w' : World} {g e : Nat} {m : List UInt8} (h : ShaSt w g e m) (hb : Below w.heap.size w w') : ShaSt w' g e m := by
  obtain ⟨bg, s0, blk, h1, h2⟩ := h
  exact ⟨bg, s0, blk, h1.mono hb, h2⟩
theorem ShaSt.grown {w w' : World} {g e : Nat} {m : List UInt8} {r : Option Nat} (h : ShaSt w g e m) (hb : w.grownBy w' r) (hg : r ≠ some g) : ShaSt w' g e m := by
  obtain ⟨bg, s0, blk, h1, h2⟩ := h
  exact ⟨bg, s0, blk, h1.grown hb hg, h2⟩
theorem ShaSt.lt {w : World} {g e : Nat} {m : List UInt8} (h : ShaSt w g e m) : g < w.heap.size := by
  obtain ⟨bg, s0, blk, h1, h2⟩ := h
  exact h1.lt

/-- The padding of a text: what Sum writes behind it. -/
def shaTail (m : List UInt8) (j : Nat) : List UInt8 := (128 :: List.replicate ((119 - m.length % 64) % 64) 0) ++ bePart 8 (8 * m.length) j
theorem shaTail_pad (m : List UInt8) : m ++ shaTail m 8 = shaPad m := by simp [shaTail, shaPad, beBytes]
theorem shaTail_succ (m : List UInt8) (j : Nat) : shaTail m (j + 1) = shaTail m j ++ [UInt8.ofNat (8 * m.length / 2 ^ (8 * (8 - 1 - j)))] := by
  rw [shaTail, bePart_succ, ← List.append_assoc]
  rfl
theorem shaTail_length (m : List UInt8) (j : Nat) : (shaTail m j).length = 1 + (119 - m.length % 64) % 64 + j := by
  simp [shaTail, bePart_length]
  omega
theorem shaSum_get (m : List UInt8) (i : Nat) (h : i < 32) : (shaSum m)[i]'(by rw [shaSum_length]; exact h) = shaByte (shaChain (shaPad m) ((m.length + 72) / 64)).list i := by
  simp [shaSum, shaBytes]
def zeros72 : List UInt8 := List.replicate 72 0
theorem pad_row (n : Nat) (h : n ≤ 64) : (zeros72.set 0 128) = (128 :: List.replicate n 0) ++ List.replicate (71 - n) 0 := by
  rw [List.cons_append, List.replicate_append_replicate, show n + (71 - n) = 71 by omega]
  rfl
theorem shaTail_own (w1 : World) (e z : Nat) (m : List UInt8) (hz : z = (119 - m.length % 64) % 64) :
    Own (w1.alloc (.cells ((bytesV zeros72).set 0 (.int .u8 128)).toArray e (0, 0))) w1.heap.size e (.slice (some ⟨w1.heap.size, 0, none⟩) (1 + z) 72) (shaTail m 0) := by
  have hl : (shaTail m 0).length = 1 + z := by rw [shaTail_length, ← hz, Nat.add_zero]
  have hz64 : z < 64 := by omega
  refine .inr ⟨w1.heap.size, List.replicate (71 - z) 0, Nat.le_refl _, ?_, ?_, ?_⟩
  · rw [hl, List.length_replicate]
    rw [show 1 + z + (71 - z) = 72 by omega]
  · have e : shaTail m 0 ++ List.replicate (71 - z) 0 = zeros72.set 0 128 := by
      rw [pad_row z (by omega), shaTail, ← hz]
      simp [bePart]
    rw [e]
    have e2 : (bytesV zeros72).set 0 (.int .u8 128) = bytesV (zeros72.set 0 128) := by simp [bytesV, List.map_set]
    rw [e2]
    exact Row.new w1 _ (zeros72.set 0 128)
  · rw [hl]; unfold maxLen; simp; omega
/-- The sums of a state behind a padded text. -/
theorem stOk_pad {m : List UInt8} {bg : Bool} {s0 : List (BitVec 32)} {blk : List UInt8} (h : StOk (shaPad m) bg s0 blk) : s0 = (shaChain (shaPad m) ((m.length + 72) / 64)).list := by
  have hl := shaPad_length m
  have h1 := stOk_whole h (by rw [hl]; omega)
  rwa [hl, Nat.mul_div_cancel_left _ (by decide)] at h1
theorem out_step (l : List UInt8) (i : Nat) (h : i < l.length) : (l.take i ++ List.replicate (l.length - i) 0).set i l[i] = l.take (i + 1) ++ List.replicate (l.length - (i + 1)) 0 := by
  obtain ⟨m, h1, h2⟩ : ∃ m, l.length - i = m + 1 ∧ l.length - (i + 1) = m := ⟨_, by omega, rfl⟩
  have h3 : (l.take i).length = i := by simp; omega
  rw [h1, h2, List.replicate_succ, List.set_append, h3, if_neg (Nat.lt_irrefl i), Nat.sub_self, List.set_cons_zero, List.take_succ_eq_append_getElem h, List.append_assoc]
  rfl
theorem out_here (l : List UInt8) (i : Nat) (h : i < l.length) : (l.take i ++ List.replicate (l.length - i) 0).length = l.length := by simp; omega
theorem bytesV_splice (l c : List UInt8) (off : Nat) : bytesV (splice l off c) = splice (bytesV l) off (bytesV c) := by
  simp [splice, bytesV]
theorem stV_splice (bg : Bool) (s0 : List (BitVec 32)) (blk c : List UInt8) (n r : Nat) (hs : s0.length = 8) (hr : r + c.length ≤ blk.length) : splice (stV bg s0 blk n) (9 + r) (bytesV c) = stV bg s0 (splice blk r c) n := by
  have e0 : (wordsV s0).length = 8 := by rw [wordsV_length, hs]
  have e1 : (bytesV blk).length = blk.length := bytesV_length blk
  have e2 : (bytesV c).length = c.length := bytesV_length c
  have hA : (Value.bool bg :: wordsV s0).length = 9 := by simp [e0]
  have hst : ∀ b n, stV bg s0 b n = (Value.bool bg :: wordsV s0) ++ (bytesV b ++ [.int .u64 (n : Int)]) := fun b n => by simp [stV]
  rw [hst, hst, bytesV_splice]
  simp only [splice]
  rw [e2, List.take_append, hA, List.drop_append, hA, List.take_of_length_le (by omega), List.drop_eq_nil_of_le (by rw [hA]; omega), Nat.add_sub_cancel_left, List.take_append_of_le_length (by omega), show 9 + r + c.length - 9 = r + c.length by omega, List.drop_append_of_le_length (by omega)]
  simp [List.append_assoc]
theorem stV_setN (bg : Bool) (s0 : List (BitVec 32)) (blk : List UInt8) (n n' : Nat) (hs : s0.length = 8) (hb : blk.length = 64) : (stV bg s0 blk n).set 73 (.int .u64 (n' : Int)) = stV bg s0 blk n' := by
  have hst : ∀ n, stV bg s0 blk n = (Value.bool bg :: (wordsV s0 ++ bytesV blk)) ++ [.int .u64 (n : Int)] := fun n => by simp [stV]
  have hA : (Value.bool bg :: (wordsV s0 ++ bytesV blk)).length = 73 := by simp [wordsV_length, bytesV_length, hs, hb]
  rw [hst, hst, List.set_append, hA, if_neg (by omega), Nat.sub_self]
  rfl
theorem stV_oneCell (bg : Bool) (s0 : List (BitVec 32)) (blk : List UInt8) (n : Nat) : ∀ v ∈ stV bg s0 blk n, v.oneCell' = true := by
  intro v hv
  simp only [stV, List.mem_cons, List.mem_append, List.not_mem_nil, or_false] at hv
  rcases hv with rfl | hv | hv | rfl
  · rfl
  · simp [wordsV] at hv
    obtain ⟨x, _, rfl⟩ := hv
    rfl
  · exact bytesV_oneCell _ v hv
  · rfl

/-- 'copy' into the midst of a row, as one step of a region that draws its order. -/
theorem step_copy_row {P : Program} {ops : Array Oper} {o : Oper} {a : Act} {w : World} {K : Act → World → Prop} {Q : Exit → Act → World → Prop} {E : Prop} (hgd : o.guard = none) (d s : Operand) (dT sT : TypeId)
    (ho : o.op = .call { callee := .builtin .copy, args := #[d, s], argTypes := #[dT, sT] }) (elem : TypeId) (hu : P.underlying dT = some (.slice elem)) (hsz : (P.info? elem).map (·.size) = some 1)
    (g off dLen dCap : Nat) (hd : a.eval d = .slice (some ⟨g, off, none⟩) dLen dCap) (v : Value) (l : List UInt8) (hs : a.eval s = v) (hv : Rd w v l) (hl : 0 < l.length) (k : Nat) (hk : k = Nat.min l.length dLen)
    (cur : List Value) (t : TypeId) (hg : RowV w g t cur) (hfit : off + k ≤ cur.length)
    (h : ∀ w', Hid (RowV w' g t (splice cur off (bytesV (l.take k)))) → Hid (w.grownBy w' (some g)) → K (a.put o.dst (goInt k)) w') :
    if Region.wanted o (yielded ops a.tmps) = true then Oper.wp P o a w K Q else E := by
  have hw : Region.wanted o (yielded ops a.tmps) = true := by simp [Region.wanted, hgd]
  rw [if_pos hw]
  obtain ⟨b, off', c, rfl, _, _, hcell⟩ := hv.at hl
  have hkl : (bytesV (l.take k)).length = k := by
    have : k ≤ l.length := by rw [hk]; exact Nat.min_le_left _ _
    rw [bytesV_length]; simp; omega
  have hrun := run_copy_row (P := P) w dT sT o.type elem g off dLen dCap ⟨b, off', none⟩ l.length c cur.toArray t (bytesV (l.take k)) hu hsz hg (by rw [hkl, hk]) (fun j u hj => by
    obtain ⟨hj', rfl⟩ := bytesV_get _ j u hj
    rw [Addr.add_lit]
    simp at hj'
    rw [hcell j (by omega)]
    simp) (by simp [hkl]; omega) (bytesV_oneCell _)
  rw [hkl] at hrun
  unfold Oper.wp
  simp [execOp, ho, resolve, invoke, builtin, hd, hs, hrun, Result.andThen]
  refine h _ ?_ ⟨rfl, rfl, rfl, by simp [World.setRow], fun i _ hi => setRow_other w g i _ (fun e => hi (by rw [e]))⟩
  show (w.setRow g _).heap[g]? = some (.cells (splice cur off (bytesV (l.take k))).toArray t (0, 0))
  rw [splice, hkl]
  exact setRow_heap w g _ _ t _ hg

/-- 'make([]byte, n, 72)'. -/
theorem run_make_u8c {P : Program} (t e : TypeId) (ht : P.underlying t = some (.slice e)) (hi : (P.info? e).map (fun i => (i.zero, i.size, i.bytes)) = some (some (.int .u8 0), 1, 1)) (kl kc : IntKind) (n : Nat) (hn : n ≤ 72) (N : Int) (hN : N = (n : Int)) (w : World) :
    (Instr.makeSlice t (.int kl N) (.int kc 72)).run P w = .ok (.slice (some ⟨w.heap.size, 0, none⟩) n 72) (w.alloc (.cells (bytesV zeros72).toArray e (0, 0))) := by
  subst hN
  obtain ⟨i, h1, h2, h3, h4⟩ := info_parts hi
  have := run_make (P := P) w t e i _ ht h1 h2 kl kc (n : Int) 72 (by omega) (by omega) (by rw [h4]; omega) (by omega)
  rw [this, h3]
  simp only [Int.toNat_natCast]
  have hz := madeCells_u8 72
  rw [show (72 : Int).toNat = 72 from rfl, hz]
  rfl
/-- A whole row stored. -/
theorem wpList_store_rowV {P : Program} {ops : Array Oper} {rest : List Oper} {o : Oper} {a : Act} {w : World} {Q : Exit → Act → World → Prop} (hgd : o.guard = none) (ty : TypeId) (x y : Operand) (ho : o.op = .store ty x y)
    (g : Nat) (cells old : List Value) (t : TypeId) (hx : a.eval x = .pointer (some ⟨g, 0, none⟩)) (hy : a.eval y = .agg cells.toArray)
    (hg : RowV w g t old) (hi : (P.info? ty).map (·.size) = some cells.length) (hold : old.length = cells.length) (h1 : ∀ v ∈ cells, v.oneCell' = true)
    (h : ∀ w', Hid (RowV w' g t cells) → Hid (w.grownBy w' (some g)) → wpList P ops Q rest (a.put o.dst undef) w') : wpList P ops Q (o :: rest) a w := by
  refine wpList_store_row hgd ty x y ho g cells.toArray hx hy t old.toArray hg (by simpa using hi) (by simpa using hold) (Array.all_eq_true_iff_forall_mem.2 (fun v hv => h1 v (by simpa using hv))) (h _ ?_ ?_)
  · exact setRow_heap w g _ _ t _ hg
  · exact ⟨rfl, rfl, rfl, by simp [World.setRow], fun i _ hi => setRow_other w g i _ (fun e => hi (by rw [e]))⟩
/-- A whole row read. -/
theorem wpList_load_rowV {P : Program} {ops : Array Oper} {rest : List Oper} {o : Oper} {a : Act} {w : World} {Q : Exit → Act → World → Prop} (hgd : o.guard = none) (ty : TypeId) (x : Operand) (ho : o.op = .load ty x)
    (g : Nat) (cells : List Value) (t : TypeId) (hx : a.eval x = .pointer (some ⟨g, 0, none⟩)) (d : TypeDesc) (hg : RowV w g t cells)
    (hu : P.underlying ty = some d) (hd : (match d with | .struct _ | .array _ _ => true | _ => false) = true) (hi : (P.info? ty).map (·.size) = some cells.length)
    (h : wpList P ops Q rest (a.put o.dst (.agg cells.toArray)) w) : wpList P ops Q (o :: rest) a w :=
  wpList_load_row hgd ty x ho g hx t cells.toArray (0, 0) d hg hu hd (by simpa using hi) h
/-- 'b[i:]'. -/
theorem run_slice_from {P : Program} (t e : TypeId) (ht : P.underlying t = some (.slice e)) (hz : (P.info? e).map (·.size) = some 1) (p : Option Addr) (n c i : Nat) (hi : i ≤ n) (k : IntKind) (w : World) :
    (Instr.slice t (.slice p n c) (some (.int k (i : Int))) none none).run P w = .ok (sliced p i n c 1) w := by
  cases hq : P.info? e with
  | none => simp [hq] at hz
  | some inf =>
    have hs : inf.size = 1 := by simpa [hq] using hz
    simp [Instr.slice, run_underlying ht, Instr.sliceBounds, run_sliceBound, sizeOf, typeInfo, hq, hs, hi, sliced]
theorem sliced_own {p : Option Addr} {i n c k : Nat} (h : (sliced p i n c 1).ownBlock = some k) : ∃ a, p = some a ∧ a.block = k := by
  unfold sliced at h
  cases p with
  | none => simp [Value.ownBlock] at h
  | some a =>
    refine ⟨a, rfl, ?_⟩
    by_cases e : c = i
    · simp [e, Value.ownBlock] at h
      exact h
    · simp only [if_neg e, Option.map_some, Value.ownBlock] at h
      have hb : (a.add (i * 1)).block = a.block := by unfold Addr.add; split <;> rfl
      rw [hb] at h
      simpa using h
end Go.FL




namespace Go.Proofs.YtiimlanbbfhkjaaDoor

open Go.RowKit Go.FL

set_option maxRecDepth 100000 in
set_option maxHeartbeats 4000000 in
theorem write_any (g : Nat) (m l : List UInt8) (v : Value) (w : World) (hst : ShaSt w g 148 m) (hv : Rd w v l) (hown : ∀ k, v.ownBlock = some k → k ≠ g) (hlaid : ShaLaid w) (hlen : m.length + l.length < 1152921504606846976) :
    Calls Tryd.prog 89 #[.pointer (some ⟨g, 0, none⟩), v] w fun e w' => e = .returned (.tuple #[]) ∧ ShaSt w' g 148 (m ++ l) ∧ w.grownBy w' (some g) := by
  have HS := hid hst
  have HV := hid hv
  have HO := hid hown
  have HL := hid hlaid
  clear hst hv hown hlaid
  go_enter Tryd.func89, Tryd.ntmps89
  go_wp2
  go_loopw [1] (fun u wr => ∃ j : Nat, j ≤ l.length ∧ (∃ p c, u = .slice p (l.length - j) c) ∧ Hid (Rd wr u (l.drop j)) ∧ Hid (∀ k, u.ownBlock = some k → k ≠ g) ∧ Hid (ShaSt wr g 148 (m ++ l.take j)) ∧ Hid (w.grownBy wr (some g)) ∧ Hid (ShaLaid wr)) (fun u _ => match u with | .slice _ n _ => n | _ => 0)
  case atStart =>
    refine ⟨0, Nat.zero_le _, ?_, HV.out, HO.out, ?_, gb_refl _ _, HL.out⟩
    · obtain ⟨p, c, e, _⟩ := HV.out
      exact ⟨p, c, e⟩
    · simpa [Hid] using HS.out
  case round =>
    clear HS HV HO HL
    obtain ⟨j, hj, ⟨p, c, rfl⟩, hv, ho, hs, hg, hl⟩ := hrel
    by_cases hlt : j < l.length
    · obtain ⟨b, hb⟩ : ∃ b, b = l.drop j := ⟨_, rfl⟩
      obtain ⟨q, hq⟩ : ∃ q, q = m ++ l.take j := ⟨_, rfl⟩
      have hbl : b.length = l.length - j := by rw [hb]; simp
      have hql : q.length = m.length + j := by rw [hq]; simp; omega
      have hqb : q ++ b = m ++ l := by rw [hq, hb, List.append_assoc, List.take_append_drop]
      rw [← hb, ← hbl] at hv
      rw [← hbl] at ho ⊢
      rw [← hq] at hs
      obtain ⟨bg, s0, blk, hrow, hok⟩ := hs.out
      obtain ⟨k, hk⟩ : ∃ k, k = Nat.min b.length (64 - q.length % 64) := ⟨_, rfl⟩
      have hk1 : k ≤ b.length := by rw [hk]; exact Nat.min_le_left _ _
      have hk2 : k ≤ 64 - q.length % 64 := by rw [hk]; exact Nat.min_le_right _ _
      have hr : q.length % 64 < 64 := Nat.mod_lt _ (by decide)
      have hk0 : 0 < k := by rw [hk]; exact Nat.lt_min.2 ⟨by omega, by omega⟩
      have htk : (b.take k).length = k := by simp; omega
      have hsl := fun wx => run_sliceAt_from (P := Tryd.prog) 136 5 64 Tryd.underlying136 (by kernel_rfl) g 9 (q.length % 64) hr .u64 ((q.length : Int) % 64) (by omega) wx
      have hslT := fun wx => run_sliceAt_from (P := Tryd.prog) 136 5 64 Tryd.underlying136 (by kernel_rfl) g 9 (q.length % 64) hr .u64 ((q.length : Int).tmod 64) (by rw [Int.tmod_eq_emod_of_nonneg (by omega)]; omega) wx
      have hs2 := fun wx => run_slice_from (P := Tryd.prog) 25 5 Tryd.underlying25 (by kernel_rfl) p b.length c k hk1 .i64 wx
      have hcut := hv.out.cut k b.length hk1 (Nat.le_refl _)
      have hown2 : ∀ i, (sliced p k b.length c 1).ownBlock = some i → i ≠ g := by
        intro i hi
        obtain ⟨a, ha, hab⟩ := sliced_own hi
        exact ho.out i (by rw [ha]; simp [Value.ownBlock, hab])
      have hform : ∃ p2 c2, sliced p k b.length c 1 = .slice p2 (b.length - k) c2 := ⟨_, _, rfl⟩
      have hdrop : (b.drop k).take (b.length - k) = l.drop (j + k) := by
        rw [List.take_of_length_le (by simp), hb, List.drop_drop]
      have htake : q ++ b.take k = m ++ l.take (j + k) := by
        rw [hq, hb, List.append_assoc, List.take_add]
      rw [hdrop] at hcut
      generalize sliced p k b.length c 1 = v3 at *
      obtain ⟨p3, c3, rfl⟩ := hform
      have c73 : wr.cell? ⟨g, 73, none⟩ = some (.int .u64 (q.length : Int)) := by rw [hrow.cell, stV_n bg s0 blk _ hok.2.1 hok.1]
      have HRO := hid hrow
      have HOK := hid hok
      have HV := hid hv.out
      have HO := hid ho.out
      have HL := hid hl.out
      have HG := hid hg.out
      have HC := hid hcut
      have HO2 := hid hown2
      have HTK := hid htake
      have HKL := hid htk
      have HK := hid hk
      have hbp : 0 < b.length := by omega
      have hq60 : q.length + k < 1152921504606846976 := by omega
      have hjk : l.length - (j + k) = b.length - k := by omega
      have HJK := hid hjk
      have hjl : j + k ≤ l.length := by omega
      have hcur : 9 + q.length % 64 + k ≤ (stV bg s0 blk q.length).length := by rw [stV_length, hok.1, hok.2.1]; omega
      clear hrow hok hv ho hl hg hs hcut hown2 hdrop htake hk htk hjk hq hb hbl hql hqb
      go_wp2_with fail
      go_region_law ((refine step_copy_row rfl (.tmp 18) (.tmp 19) 25 25 rfl 5 Tryd.underlying25 (by kernel_rfl) g (9 + q.length % 64) (64 - q.length % 64) (64 - q.length % 64) (by rfl) _ b (by rfl) HV.out hbp k HK.out (stV bg s0 blk q.length) 148 HRO.out hcur ?_; intro w2 hr2 hg2))
      have hok := HOK.out
      have hspl : q.length % 64 + (b.take k).length ≤ blk.length := by rw [HKL.out, hok.1]; omega
      have hr2' := hr2.out
      rw [stV_splice bg s0 blk (b.take k) q.length (q.length % 64) hok.2.1 hspl] at hr2'
      have hbl2 : (splice blk (q.length % 64) (b.take k)).length = 64 := by rw [length_splice _ _ _ hspl, hok.1]
      have c73 : w2.cell? ⟨g, 73, none⟩ = some (.int .u64 (q.length : Int)) := by rw [hr2'.cell, stV_n bg s0 _ _ hok.2.1 hbl2]
      have f73 := hr2'.frozen 73
      have hst3 := hr2'.store 73 (.int .u64 ((q.length + k : Nat) : Int))
      rw [stV_setN bg s0 _ q.length (q.length + k) hok.2.1 hbl2] at hst3
      have hg3 := gb_set hg2.out 73 (.int .u64 ((q.length + k : Nat) : Int))
      have hg4 : wr.grownBy (w2.setCell ⟨g, 73, none⟩ (.int .u64 ((q.length + k : Nat) : Int))) (some g) := ⟨hg3.os, hg3.tape, hg3.output, hg3.size, hg3.block⟩
      have hec : ((q.length + k : Nat) : Int) = (q.length : Int) + (k : Int) := by omega
      have HL3 := hid (HL.out.grown HRO.out hg4)
      have HG3 := hid (gb_trans HG.out hg4)
      have HC3 := hid (HC.out.grown hg4 (fun i hi e => HO2.out i hi (by simpa using e.symm)))
      have hqk : (q ++ b.take k).length = q.length + k := by rw [List.length_append, HKL.out]
      by_cases hfull : q.length % 64 + k = 64
      · obtain ⟨s, hcase, hb64, hok2⟩ := stOk_full hok (b := b.take k) (by rw [HKL.out]; exact hfull)
        have HCA := hid hcase
        have HB64 := hid hb64
        have HOK2 := hid hok2
        have HS3 := hid hst3
        rw [hec] at HS3 HL3 HG3 HC3
        have HQK := hid hqk
        have HEC := hid hec
        have hz : (((q.length : Int) + (k : Int)) % 64 == 0) = true := by simp; omega
        have HS0 := hid hok.2.1
        clear hr2 hr2' hg2 hst3 hg3 hg4 hec hcase hb64 hok2 hok hspl hqk hbl2 hsl hslT hcur
        generalize splice blk (q.length % 64) (b.take k) = blk2 at *
        go_wp2_with fail
        refine (take_any g bg s0 s blk2 (q.length + k) _ HS3.out HB64.out HS0.out HCA.out HL3.out).mono ?_
        rintro e w4 ⟨rfl, hr4, hg4⟩
        have HR4 := hid hr4
        have HG4 := hid hg4
        clear hr4 hg4 hs2
        go_wp2
        go_roundw
        case rel =>
          refine ⟨j + k, hjl, ⟨p3, c3, by rw [HJK.out]⟩, HC3.out.grown HG4.out (fun i hi e => HO2.out i hi (by simpa using e.symm)), HO2.out, ?_, gb_trans HG3.out HG4.out, HL3.out.grown HS3.out HG4.out⟩
          rw [← HTK.out]
          exact ⟨true, _, _, by rw [HQK.out]; exact HR4.out, HOK2.out⟩
        case measure => show b.length - k < b.length; omega
      · have hlt64 : q.length % 64 + k < 64 := by omega
        have hok2 := stOk_put hok (b := b.take k) (by rw [HKL.out]; exact hlt64)
        have HOK2 := hid hok2
        have HS3 := hid hst3
        rw [hec] at HS3 HL3 HG3 HC3
        have HQK := hid hqk
        have HEC := hid hec
        have hz : (((q.length : Int) + (k : Int)) % 64 == 0) = false := by simp; omega
        clear hr2 hr2' hg2 hst3 hg3 hg4 hec hok2 hok hspl hqk hbl2 hsl hslT hcur
        generalize splice blk (q.length % 64) (b.take k) = blk2 at *
        go_wp2
        go_roundw
        case rel =>
          refine ⟨j + k, hjl, ⟨p3, c3, by rw [HJK.out]⟩, HC3.out, HO2.out, ?_, HG3.out, HL3.out⟩
          rw [← HTK.out]
          exact ⟨bg, _, _, by rw [HQK.out]; exact HS3.out, HOK2.out⟩
        case measure => show b.length - k < b.length; omega
    · obtain rfl : j = l.length := by omega
      have HS := hid hs.out
      have HG := hid hg.out
      clear hv ho hs hg hl
      rw [Nat.sub_self]
      go_wp2
      go_end0
      exact ⟨rfl, by simpa using HS.out, HG.out⟩

theorem write_empty (g : Nat) (p : Option Addr) (c : Nat) (w : World) :
    Calls Tryd.prog 89 #[.pointer (some ⟨g, 0, none⟩), .slice p 0 c] w fun e w' => e = .returned (.tuple #[]) ∧ w = w' := by
  go_enter Tryd.func89, Tryd.ntmps89
  go_wp2
  go_loop [1] (fun u => u = .slice p 0 c) (fun _ => 0)
  case atStart => exact rfl
  case round =>
    subst hrel
    go_wp2
    go_end0
    exact ⟨rfl, rfl⟩
theorem write_all (g : Nat) (m l : List UInt8) (v : Value) (w : World) (hst : ShaSt w g 148 m) (hv : Rd w v l) (hown : l = [] ∨ ∀ k, v.ownBlock = some k → k ≠ g) (hlaid : ShaLaid w) (hlen : m.length + l.length < 1152921504606846976) :
    Calls Tryd.prog 89 #[.pointer (some ⟨g, 0, none⟩), v] w fun e w' => e = .returned (.tuple #[]) ∧ ShaSt w' g 148 (m ++ l) ∧ w.grownBy w' (some g) := by
  rcases hown with rfl | hown
  · obtain ⟨p, c, rfl, _⟩ := hv.empty rfl
    exact (write_empty g p c w).mono fun e w' ⟨h1, h2⟩ => ⟨h1, by subst h2; simpa using hst, by subst h2; exact gb_refl _ _⟩
  · exact write_any g m l v w hst hv hown hlaid hlen
/-- Where the bytes lie: in a block that was there. -/
theorem rd_old {w : World} {v : Value} {l : List UInt8} (hv : Rd w v l) (B : Nat) (hB : w.heap.size ≤ B) : l = [] ∨ ∀ k, v.ownBlock = some k → k ≠ B := by
  by_cases h0 : l = []
  · exact .inl h0
  · refine .inr fun k hk => ?_
    obtain ⟨b, off, c, rfl, _, _, hc⟩ := hv.at (List.length_pos_iff.2 h0)
    simp [Value.ownBlock] at hk
    subst hk
    have := World.block_lt_of_cell? _ _ (hc 0 (List.length_pos_iff.2 h0))
    simp at this
    omega
end Go.Proofs.YtiimlanbbfhkjaaDoor




namespace Go.Proofs.YtiimlanbbfhkjaaDoor

open Go.RowKit Go.FL

theorem infoU8s : (Tryd.prog.info? 5).map (fun i => (i.zero, i.size, i.bytes)) = some (some (.int .u8 0), 1, 1) := by kernel_rfl

def zeros32 : List Value := bytesV (List.replicate 32 0)
theorem zeroOut (w : World) : (zeroValue 124).run Tryd.prog w = .ok (.agg zeros32.toArray) w := by kernel_rfl
def zeroStL : List Value := stV false (List.replicate 8 0#32) (List.replicate 64 0) 0
theorem zeroState (w : World) : (zeroValue 148).run Tryd.prog w = .ok (.agg zeroStL.toArray) w := by kernel_rfl
theorem zeroStL_length : zeroStL.length = 74 := by decide +kernel
theorem zeros32_length : zeros32.length = 32 := by decide +kernel


set_option maxRecDepth 100000 in
set_option maxHeartbeats 4000000 in
theorem shaSum_any (g : Nat) (m : List UInt8) (w : World) (hst : ShaSt w g 148 m) (hlaid : ShaLaid w) (hlen : m.length < 576460752303423488) :
    Calls Tryd.prog 90 #[.pointer (some ⟨g, 0, none⟩)] w fun e w' => e = .returned (.agg (bytesV (shaSum m)).toArray) ∧ Below w.heap.size w w' := by
  obtain ⟨d, hd⟩ : ∃ d, d = shaSum m := ⟨_, rfl⟩
  rw [← hd]
  have HML := hid (show d.length = 32 from by rw [hd]; exact shaSum_length m)
  have HGET := hid (show ∀ i (_ : i < 32) (h2 : i < d.length), d[i] = shaByte (shaChain (shaPad m) ((m.length + 72) / 64)).list i from by subst hd; exact fun i h _ => shaSum_get m i h)
  clear hd
  obtain ⟨bg, s0, blk, hrow, hok⟩ := hst
  have HOK := hid hok
  have HRO := hid hrow
  have HL := hid hlaid
  have hsz : (stV bg s0 blk m.length).length = 74 := by rw [stV_length, hok.1, hok.2.1]
  have c73 : w.cell? ⟨g, 73, none⟩ = some (.int .u64 (m.length : Int)) := by rw [hrow.cell, stV_n bg s0 _ _ hok.2.1 hok.1]
  have HR1 := hid (fun o => hrow.alloc o)
  have HSZ := hid hsz
  have hglt := hrow.lt
  clear hok hrow hlaid hsz
  have hzs := zeroState
  have hzo := zeroOut
  go_enter Tryd.func90, Tryd.ntmps90
  go_wp2_with (first | (refine wpList_load_rowV rfl 148 (.tmp 11) rfl g (stV bg s0 blk m.length) 148 rfl _ (HR1.out _) Tryd.underlying148 rfl ?hi ?_) | (refine wpList_store_rowV rfl 148 (.tmp 3) (.tmp 12) rfl (w.heap.size + 1) (stV bg s0 blk m.length) zeroStL 148 rfl rfl ?hg ?hi2 ?ho (stV_oneCell _ _ _ _) ?_))
  case hi => rw [HSZ.out]; kernel_rfl
  case hg => simpa using RowV.new (w.alloc (.cells zeros32.toArray 124)) 148 zeroStL
  case hi2 => rw [HSZ.out]; kernel_rfl
  case ho => rw [HSZ.out, zeroStL_length]
  intro w1 hr1 hg1
  have HOUT := hid (show RowV w1 w.heap.size 124 zeros32 from (((RowV.new w 124 zeros32).alloc _).grown hg1.out (by simp)))
  have HB1 := hid (show Below w.heap.size w w1 from gb_below (gb_trans (gb_alloc (gb_alloc (gb_refl w (some (w.heap.size + 1))) _) _) hg1.out) (by omega) (Nat.le_refl _))
  have c73 : w1.cell? ⟨g, 73, none⟩ = some (.int .u64 (m.length : Int)) := cell?_of_below HB1.out c73
  have hsz1 : w.heap.size + 2 ≤ w1.heap.size := by have := hg1.out.size; simpa using this
  clear hg1 hzs hzo
  have hlt64 : m.length % 64 < 64 := Nat.mod_lt _ (by decide)
  have hmk := fun wx => run_make_u8c (P := Tryd.prog) 25 5 Tryd.underlying25 infoU8s .u64 .i64 (1 + (119 - m.length % 64) % 64) (by omega) (1 + (119 - (m.length : Int)) % 64) (by omega) wx
  obtain ⟨z, hz⟩ : ∃ z, z = (119 - m.length % 64) % 64 := ⟨_, rfl⟩
  rw [← hz] at hmk
  have hz64 : z < 64 := by omega
  have HZ := hid hz
  clear hz hlt64
  have hrz := Row.new w1 5 zeros72
  have cz : (w1.alloc (.cells (bytesV zeros72).toArray 5 (0, 0))).cell? ⟨w1.heap.size, 0, none⟩ = some (.int .u8 0) := hrz.cell 0 (by decide)
  have fz := hrz.frozen 0
  have HOZ := hid (shaTail_own w1 5 z m HZ.out)
  have HBZ := hid (show Below w1.heap.size w1 (w1.alloc (.cells ((bytesV zeros72).set 0 (.int .u8 128)).toArray 5 (0, 0))) from (Below.refl _ _).alloc (Nat.le_refl _) _)
  clear hrz
  go_wp2
  clear cz fz hmk
  rw [show (119 - (m.length : Int) % 64) % 64 = (119 - (m.length : Int)) % 64 from by omega]
  go_loopw [4, 5] (fun o y wr => ∃ j : Nat, j ≤ 8 ∧ y = .int .i64 (56 - 8 * (j : Int)) ∧ Hid (Own wr w1.heap.size 5 o (shaTail m j)) ∧ Hid (Below w1.heap.size w1 wr)) (fun _ y _ => (intOf y + 8).toNat)
  case atStart => exact ⟨0, Nat.zero_le _, by go_num, HOZ.out, HBZ.out⟩
  case round =>
    clear HOZ HBZ
    obtain ⟨j, hj, rfl, ho, hb⟩ := hrel
    by_cases hlt : j < 8
    · obtain ⟨q, hq⟩ : ∃ q : Nat, q = 8 - 1 - j := ⟨_, rfl⟩
      have eq : (56 : Int) - 8 * (j : Int) = ((8 * q : Nat) : Int) := by omega
      have HS := hid (shaTail_succ m j)
      rw [← hq] at HS
      have hsb := hid (shr_byte (8 * m.length) (8 * q))
      have HQ := hid eq
      rw [eq]
      have hs56 : 8 * q ≤ 56 := by omega
      have hlen2 := shaTail_length m j
      have hlen3 : (shaTail m j).length ≤ 80 := by omega
      have HB := hid hb.out
      have HO := hid ho.out
      have c73 := cell?_of_below HB.out c73
      have e8 : ((8 * m.length : Nat) : Int) = 8 * (m.length : Int) := by omega
      rw [e8] at hsb
      clear hb ho eq hq hlen2 e8
      generalize 8 * q = sh at *
      go_wp2_with (at_builtin; refine wpList_append_Own rfl (.tmp 28) (.tmp 37) 25 rfl w1.heap.size 5 Tryd.underlying25 infoU8s _ _ (shaTail m j) [UInt8.ofNat (8 * m.length / 2 ^ sh)] rfl (HO.out.alloc _) rfl ?hrd ?hlen ?hbase ?_)
      case hrd => exact rd_new wr 5 _ 1 _ rfl (by simp [bytesV]) (by unfold maxLen; omega)
      case hlen => simp; omega
      case hbase => have := HB.out.size; simp; omega
      intro v3 w3 ho3 hg3
      have HO3 := hid ho3
      have HB3 := hid ((HB.out.alloc HB.out.size (.cells #[.int .u8 (8 * (m.length : Int) / 2 ^ sh % 256)] 5 (0, 0))).grown hg3 (by have := HB.out.size; simp; omega) HO.out.ge)
      clear ho3 hg3 HO HB
      go_wp2
      go_roundw
      case rel => exact ⟨j + 1, by omega, by have := HQ.out; go_num, by rw [HS.out]; exact HO3.out, HB3.out⟩
      case measure => simp [intOf]; omega
    · obtain rfl : j = 8 := by omega
      have HB := hid hb.out
      have HO := hid ho.out
      have hst8 : ShaSt wr (w.heap.size + 1) 148 m := ⟨bg, s0, blk, hr1.out.mono HB.out, HOK.out⟩
      have hlw : ShaLaid wr := HL.out.mono (gr_trans HB1.out HB.out)
      have hln := shaTail_length m 8
      clear hb ho c73
      go_wp2_with fail
      refine (write_any (w.heap.size + 1) m (shaTail m 8) _ _ hst8 HO.out.rd (fun i hi => by have := HO.out.ge i hi; omega) hlw (by omega)).mono ?_
      rintro e w5 ⟨rfl, hs5, hg5⟩
      rw [shaTail_pad] at hs5
      obtain ⟨bg5, s5, blk5, hr5, hok5⟩ := hs5
      have hs5 := stOk_pad hok5
      have HR5 := hid hr5
      have HOK5 := hid hok5
      have hsl : s5.length = 8 := hok5.2.1
      have HS5 := hid hs5
      have hbw : Below w.heap.size w wr := HB1.out.trans (HB.out.mono HB1.out.size)
      have HB5 := hid (show Below w.heap.size w w5 from hbw.trans (gb_below hg5 (by omega) hbw.size))
      have HO5 := hid (show Row w5 w.heap.size 124 (d.take 0 ++ List.replicate (d.length - 0) 0) from by
        rw [HML.out]
        exact ((HOUT.out.mono HB.out).grown hg5 (by simp)).to_row)
      rw [← HS5.out] at HGET
      clear hr5 hok5 hs5 hg5 hst8 hlw hln hbw HB HO HOUT hr1 HOK HRO HR1 HSZ HS5
      go_wp2_with fail
      go_loopw [41] (fun y wr => ∃ i : Nat, i ≤ 32 ∧ y = .int .i64 (i : Int) ∧ Hid (Row wr w.heap.size 124 (d.take i ++ List.replicate (d.length - i) 0)) ∧ Hid (w5.grownBy wr (some w.heap.size))) (fun y _ => 32 - (intOf y).toNat)
      case atStart => exact ⟨0, Nat.zero_le _, rfl, HO5.out, gb_refl _ _⟩
      case round =>
        clear HO5
        obtain ⟨i, hi, rfl, hr, hg⟩ := hrel
        by_cases hlt : i < 32
        · have hil : i < d.length := by rw [HML.out]; exact hlt
          have hcd := hr.out.cell i (by rw [out_here d i hil]; exact hil)
          have hcf := hr.out.frozen i
          have hst := hr.out.store i d[i]
          rw [out_step d i hil] at hst
          have hx : s5.getD (i / 4) 0#32 = s5[i / 4] := by simp [List.getD, show i / 4 < s5.length by omega]
          have hcw : wr.cell? ⟨w.heap.size + 1, 1 + i / 4, none⟩ = some (.int .u32 ((s5.getD (i / 4) 0#32).toNat : Int)) := by
            have h1 := (HR5.out.grown hg.out (by simp)).cell (1 + i / 4)
            rw [h1, stV_wordD bg5 s5 blk5 _ (i / 4) (s5.getD (i / 4) 0#32) (by rw [hx, List.getElem?_eq_getElem])]
          have hgd : d[i] = shaByte s5 i := HGET.out i hlt hil
          have hby := shr_byte (s5.getD (i / 4) 0#32).toNat (24 - 8 * (i % 4))
          rw [show UInt8.ofNat ((s5.getD (i / 4) 0#32).toNat / 2 ^ (24 - 8 * (i % 4))) = d[i] from hgd.symm] at hby
          have hsh : (24 : Int) - 8 * ((i : Int) % 4) = ((24 - 8 * (i % 4) : Nat) : Int) := by omega
          have hsh24 : ((24 - 8 * (i % 4) : Nat) : Int) ≤ 24 := by omega
          have hix : ((i : Int) / 4).toNat = i / 4 := by omega
          have i0 : (0 : Int) ≤ (i : Int) / 4 := by omega
          have i8 : (i : Int) / 4 < 8 := by omega
          have HST := hid hst
          have HG := hid hg.out
          have HBY := hid hby
          generalize s5.getD (i / 4) 0#32 = x at *
          generalize d[i] = di at *
          generalize 24 - 8 * (i % 4) = sh at *
          clear hst hr hg hx hgd hby
          go_wp2
          go_roundw
          case rel => exact ⟨i + 1, by omega, by go_num, by rw [HBY.out]; exact HST.out, by rw [HBY.out]; exact gb_set HG.out _ _⟩
          case measure => simp [intOf]; omega
        · obtain rfl : i = 32 := by omega
          have hr2 := hr.out
          rw [List.take_of_length_le (by rw [HML.out]; exact Nat.le_refl _), show List.replicate (d.length - 32) (0 : UInt8) = [] by rw [HML.out]; rfl, List.append_nil] at hr2
          have HR := hid (RowV.of_row hr2)
          have HBE := hid (show Below w.heap.size w wr from HB5.out.trans (gb_below hg.out (Nat.le_refl _) HB5.out.size))
          have hdl : (bytesV d).length = 32 := by rw [bytesV_length, HML.out]
          have HDL := hid hdl
          clear hr hg hr2 hdl
          go_wp2_with (first | (refine wpList_load_rowV rfl 124 (.tmp 2) rfl w.heap.size (bytesV d) 124 rfl _ HR.out Tryd.underlying124 rfl ?hi ?_) | (refine wpList_store_rowV rfl 124 (.tmp 2) (.tmp 58) rfl w.heap.size (bytesV d) (bytesV d) 124 rfl rfl HR.out ?hi2 rfl (bytesV_oneCell d) ?_))
          case hi => rw [HDL.out]; kernel_rfl
          case hi2 => rw [HDL.out]; kernel_rfl
          intro w7 hr7 hg7
          have HBF := hid (show Below w.heap.size w w7 from HBE.out.trans (gb_below hg7.out (Nat.le_refl _) HBE.out.size))
          go_wp2
          exact bodyPost_ret (v := .agg (bytesV d).toArray) (results_cell_row Tryd.results90 _ _ w.heap.size 124 (bytesV d).toArray (0, 0) _ rfl hr7.out Tryd.underlying124 rfl (by rw [List.size_toArray, HDL.out]; kernel_rfl)) rfl ⟨rfl, HBF.out⟩

set_option maxRecDepth 100000 in
set_option maxHeartbeats 1000000 in
theorem shaSum_nil (w : World) : Calls Tryd.prog 90 #[.pointer none] w fun e w' => e = .returned (.agg zeros32.toArray) ∧ Below w.heap.size w w' := by
  have hzo := zeroOut
  have HR := hid (RowV.new w 124 zeros32)
  have HB := hid ((Below.refl w.heap.size w).alloc (Nat.le_refl _) (.cells zeros32.toArray 124 (0, 0)))
  go_enter Tryd.func90, Tryd.ntmps90
  go_wp2_with (first | (refine wpList_load_rowV rfl 124 (.tmp 2) rfl w.heap.size zeros32 124 rfl _ HR.out Tryd.underlying124 rfl ?hi ?_) | (refine wpList_store_rowV rfl 124 (.tmp 2) (.tmp 9) rfl w.heap.size zeros32 zeros32 124 rfl rfl HR.out ?hi2 rfl (bytesV_oneCell _) ?_))
  case hi => rw [zeros32_length]; kernel_rfl
  case hi2 => rw [zeros32_length]; kernel_rfl
  intro w7 hr7 hg7
  have HBF := hid (show Below w.heap.size w w7 from HB.out.trans (gb_below hg7.out (Nat.le_refl _) HB.out.size))
  go_wp2
  exact bodyPost_ret (v := .agg zeros32.toArray) (results_cell_row Tryd.results90 _ _ w.heap.size 124 zeros32.toArray (0, 0) _ rfl hr7.out Tryd.underlying124 rfl (by rw [List.size_toArray, zeros32_length]; kernel_rfl)) rfl ⟨rfl, HBF.out⟩

theorem write_nil (v : Value) (w : World) : Calls Tryd.prog 89 #[.pointer none, v] w fun e w' => e = .returned (.tuple #[]) ∧ w = w' := by
  go_enter Tryd.func89, Tryd.ntmps89
  go_wp2
  exact bodyPost_ret (results_none rfl _ _ _) rfl ⟨rfl, rfl⟩

theorem new_any (w : World) : Calls Tryd.prog 88 #[] w fun e w' => e = .returned (.pointer (some ⟨w.heap.size, 0, none⟩)) ∧ ShaSt w' w.heap.size 148 [] ∧ Below w.heap.size w w' := by
  have hzs := zeroState
  go_enter Tryd.func88, Tryd.ntmps88
  go_wp2
  go_ret
  exact ⟨rfl, ⟨false, _, _, RowV.new w 148 zeroStL, stOk_zero⟩, (Below.refl _ _).alloc (Nat.le_refl _) _⟩

set_option maxRecDepth 100000 in
set_option maxHeartbeats 1000000 in
theorem shaOf_any (v : Value) (l : List UInt8) (w : World) (hv : Rd w v l) (hlaid : ShaLaid w) (hlen : l.length < 576460752303423488) :
    Calls Tryd.prog 86 #[v] w fun e w' => e = .returned (.agg (bytesV (shaSum l)).toArray) ∧ Below w.heap.size w w' := by
  obtain ⟨d, hd⟩ : ∃ d, d = shaSum l := ⟨_, rfl⟩
  rw [← hd]
  have HD := hid hd
  have hdl : (bytesV d).length = 32 := by rw [bytesV_length, hd, shaSum_length]
  have HDL := hid hdl
  clear hd hdl
  have hzo := zeroOut
  have HV := hid hv
  have HL := hid hlaid
  have HR := hid (RowV.new w 124 zeros32)
  have GA := hid (show Below w.heap.size w (w.alloc (.cells zeros32.toArray 124 (0, 0))) from (Below.refl w.heap.size w).alloc (Nat.le_refl _) _)
  have HOW := hid (rd_old hv (w.heap.size + 1) (by omega))
  clear hv hlaid
  go_enter Tryd.func86, Tryd.ntmps86
  go_wp2_with fail
  refine (new_any _).mono ?_
  rintro e w1 ⟨rfl, hs1, hb1⟩
  have HS1 := hid hs1
  have G1 := hid (gr_trans GA.out hb1)
  have HR1 := hid (HR.out.mono hb1)
  clear hs1 hb1
  have hgs : (w.alloc (.cells zeros32.toArray 124 (0, 0))).heap.size = w.heap.size + 1 := by simp
  rw [hgs] at HS1 ⊢
  clear hgs
  go_wp2_with fail
  refine (write_all (w.heap.size + 1) [] l v _ HS1.out (HV.out.mono G1.out) HOW.out (HL.out.mono G1.out) (by simpa using (by omega : l.length < 1152921504606846976))).mono ?_
  rintro e w2 ⟨rfl, hs2, hg2⟩
  have HS2 := hid hs2
  rw [List.nil_append] at HS2
  have HB2 := hid (show Below w.heap.size w w2 from G1.out.trans (gb_below hg2 (by omega) G1.out.size))
  have HR2 := hid (HR1.out.grown hg2 (by simp))
  have HL2 := hid (HL.out.mono HB2.out)
  clear hs2 hg2
  go_wp2_with fail
  refine (shaSum_any (w.heap.size + 1) l _ HS2.out HL2.out hlen).mono ?_
  rw [← HD.out]
  rintro e w3 ⟨rfl, hb3⟩
  have HR3 := hid (HR2.out.mono hb3)
  have HB3 := hid (gr_trans HB2.out hb3)
  clear hb3
  go_wp2_with (refine wpList_store_rowV rfl 124 (.tmp 2) (.tmp 9) rfl w.heap.size (bytesV d) zeros32 124 rfl rfl HR3.out ?hi ?ho (bytesV_oneCell d) ?_)
  case hi => rw [HDL.out]; kernel_rfl
  case ho => rw [HDL.out, zeros32_length]
  intro w7 hr7 hg7
  have HBF := hid (show Below w.heap.size w w7 from HB3.out.trans (gb_below hg7.out (Nat.le_refl _) HB3.out.size))
  go_wp2
  exact bodyPost_ret (v := .agg (bytesV d).toArray) (results_cell_row Tryd.results86 _ _ w.heap.size 124 (bytesV d).toArray (0, 0) _ rfl hr7.out Tryd.underlying124 rfl (by rw [List.size_toArray, HDL.out]; kernel_rfl)) rfl ⟨rfl, HBF.out⟩
end Go.Proofs.YtiimlanbbfhkjaaDoor






namespace Go.Proofs.YtiimlanbbfhkjaaDoor

open Go.RowKit Go.FL

end Go.Proofs.YtiimlanbbfhkjaaDoor



namespace Go.FL

open Go.RowKit

theorem info_parts4 {P : Program} {e : TypeId} {z : Value} {b : Nat} (h : (P.info? e).map (fun i => (i.zero, i.size, i.bytes)) = some (some z, 1, b)) : ∃ i, P.info? e = some i ∧ i.zero = some z ∧ i.size = 1 ∧ i.bytes = b := by
  cases hq : P.info? e with
  | none => simp [hq] at h
  | some i => simp [hq] at h; exact ⟨i, rfl, h.1, h.2.1, h.2.2⟩
theorem opOk_skip {P : Program} {o : Oper} {ρ : Operand → Value} {w w' : World} {post : Value → World → Prop} (h : (execOp ρ o).run P w = .ok .skip w') (hp : post undef w') : opOk P o ρ w post := by
  unfold opOk
  rw [h]
  exact hp
/-- A row that is one or the other; once the other, it stays so. -/
def RowR (B G e : Nat) (rA rB : List Value) (a b : World) : Prop := Below B a b ∧ (RowV a G e rB → RowV b G e rB) ∧ (RowV a G e rA → RowV b G e rA ∨ RowV b G e rB)
theorem RowR.refl {B G e : Nat} {rA rB : List Value} (a : World) : RowR B G e rA rB a a := ⟨Below.refl _ _, id, .inl⟩
theorem RowR.trans {B G e : Nat} {rA rB : List Value} {a b c : World} (h : RowR B G e rA rB a b) (k : RowR B G e rA rB b c) : RowR B G e rA rB a c :=
  ⟨h.1.trans k.1, fun x => k.2.1 (h.2.1 x), fun x => (h.2.2 x).elim k.2.2 (fun y => .inr (k.2.1 y))⟩
theorem RowR.drew {B G e : Nat} {rA rB : List Value} (a : World) : RowR B G e rA rB a a.drew := ⟨(Below.refl _ _).drew, id, .inl⟩
/-- A word out of four bytes, as sums. -/
theorem word_sum (l : List UInt8) (t : Nat) (h : 4 * t + 4 ≤ l.length) :
    (l[4 * t].toNat : Int) * 16777216 + (l[4 * t + 1].toNat : Int) * 65536 + (l[4 * t + 2].toNat : Int) * 256 + (l[4 * t + 3].toNat : Int) = (((shaWord l t).toNat : Nat) : Int) := by
  have h0 := l[4 * t].toNat_lt
  have h1 := l[4 * t + 1].toNat_lt
  have h2 := l[4 * t + 2].toNat_lt
  have h3 := l[4 * t + 3].toNat_lt
  have e : (l.drop (4 * t)).take 4 = [l[4 * t], l[4 * t + 1], l[4 * t + 2], l[4 * t + 3]] := by
    rw [List.drop_eq_getElem_cons (by omega), List.take_succ_cons, List.drop_eq_getElem_cons (by omega), List.take_succ_cons, List.drop_eq_getElem_cons (by omega), List.take_succ_cons, List.drop_eq_getElem_cons (by omega), List.take_succ_cons, List.take_zero]
  rw [shaWord, e, BitVec.toNat_ofNat]
  simp only [beVal, List.foldl]
  omega
theorem run_make_u32 {P : Program} (t e : TypeId) (ht : P.underlying t = some (.slice e)) (hi : (P.info? e).map (fun i => (i.zero, i.size, i.bytes)) = some (some (.int .u32 0), 1, 4)) (kl kc : IntKind) (n : Nat) (hn : n ≤ 72) (N : Int) (hN : N = (n : Int)) (w : World) :
    (Instr.makeSlice t (.int kl N) (.int kc N)).run P w = .ok (.slice (some ⟨w.heap.size, 0, none⟩) n n) (w.alloc (.cells (List.replicate n (u32v 0#32)).toArray e (0, 0))) := by
  subst hN
  obtain ⟨i, h1, h2, h3, h4⟩ := info_parts4 hi
  have := run_make (P := P) w t e i _ ht h1 h2 kl kc (n : Int) (n : Int) (by omega) (Int.le_refl _) (by rw [h4]; omega) (by omega)
  rw [this, h3]
  simp only [Int.toNat_natCast]
  have hz : madeCells (Value.int .u32 0).cells (n * 1) = (List.replicate n (u32v 0#32)).toArray := by
    refine Array.ext_getElem? ?_
    intro i
    simp [madeCells, Value.cells, u32v, List.getElem?_replicate]
    by_cases h : i < n <;> simp [h, Nat.mod_one]
  rw [hz]
theorem cell_blk {w : World} {g b i j : Nat} (u : Value) (h : g ≠ b) : (w.setCell ⟨g, i, none⟩ u).cell? ⟨b, j, none⟩ = w.cell? ⟨b, j, none⟩ :=
  World.cell?_setCell_other _ _ _ _ (by simp [h])
end Go.FL

namespace Go.Proofs.YtiimlanbbfhkjaaDoor

open Go.RowKit Go.FL

def wordFacts (G t : Nat) (e : Nat) (rB : List Value) (x16 x15 x7 x2 xm y0 p7 p18 px ps sa y1 q17 q19 qx qs sb : BitVec 32) : List (Value → World → Prop) :=
  let S := Is (.slice (some ⟨G, 0, none⟩) 64 64)
  let T := Is (.int .i64 (t : Int))
  let U : BitVec 32 → Value → World → Prop := fun x => Is (.int .u32 (x.toNat : Int))
  [S, T, S, T, Is (.int .i64 ((t : Int) - 16)), Is (.pointer (some ⟨G, t - 16, none⟩)), U x16, S, T, Is (.int .i64 ((t : Int) - 7)), Is (.pointer (some ⟨G, t - 7, none⟩)), U x7, U y0,
   U x15, U p7, U x15, U p18, U px, U x15, U ps, U sa, U y1,
   U x2, U q17, U x2, U q19, U qx, U x2, U qs, U sb, U xm, Is (.pointer (some ⟨G, t, none⟩)), fun _ w => RowV w G e rB]

end Go.Proofs.YtiimlanbbfhkjaaDoor



namespace Go.FL

open Go.RowKit

/-- A row whose places above i have been moved by one. -/
def shaMoved (s : Sha) (i : Nat) : List (BitVec 32) := s.list.take (i + 1) ++ (s.list.take 7).drop i
theorem shaMoved_seven (s : Sha) : shaMoved s 7 = s.list := rfl
theorem shaMoved_length (s : Sha) (i : Nat) (h : i < 8) : (shaMoved s i).length = 8 := by simp [shaMoved, sha_list_length]; omega
theorem shaMoved_get (s : Sha) (i : Nat) (h : i < 7) : (shaMoved s (i + 1))[i]? = some (s.list.getD i 0#32) := by
  rcases i with _ | _ | _ | _ | _ | _ | _ | i <;> first | rfl | omega
theorem shaMoved_set (s : Sha) (i : Nat) (h : i < 7) : (shaMoved s (i + 1)).set (i + 1) (s.list.getD i 0#32) = shaMoved s i := by
  rcases i with _ | _ | _ | _ | _ | _ | _ | i <;> first | rfl | omega
theorem wordsV_set (l : List (BitVec 32)) (i : Nat) (x : BitVec 32) : (wordsV l).set i (u32v x) = wordsV (l.set i x) := by simp [wordsV, List.map_set]
theorem shaMoved_step (s : Sha) (k w : BitVec 32) : ((shaMoved s 0).set 4 (s.d + (s.h + sumE s.e + shaCh s.e s.f s.g + k + w))).set 0 (s.h + sumE s.e + shaCh s.e s.f s.g + k + w + (sumA s.a + shaMaj s.a s.b s.c)) = (shaStep s k w).list := rfl
theorem wordsV_at (l : List (BitVec 32)) (i : Nat) (x : BitVec 32) (h : l[i]? = some x) : (wordsV l)[i]? = some (.int .u32 (x.toNat : Int)) := by
  simp [wordsV, u32v, h]
theorem ch_doc (e f g : BitVec 32) : bits .xor .u32 (bits .and .u32 (e.toNat : Int) (f.toNat : Int)) (bits .and .u32 (bits .xor .u32 (e.toNat : Int) 4294967295) (g.toNat : Int)) = ((shaCh e f g).toNat : Int) := by
  rw [show (4294967295 : Int) = (((0xffffffff#32 : BitVec 32).toNat : Nat) : Int) from rfl, bits_xor32, bits_and32, bits_and32, bits_xor32, shaCh_xor]
theorem maj_doc (a b c : BitVec 32) : bits .xor .u32 (bits .xor .u32 (bits .and .u32 (a.toNat : Int) (b.toNat : Int)) (bits .and .u32 (a.toNat : Int) (c.toNat : Int))) (bits .and .u32 (b.toNat : Int) (c.toNat : Int)) = ((shaMaj a b c).toNat : Int) := by
  rw [bits_and32, bits_and32, bits_and32, bits_xor32, bits_xor32, shaMaj_xor]
theorem take_eight (s : Sha) (i : Nat) (h : i < 8) : s.list.take i ++ [s.list.getD i 0#32] = s.list.take (i + 1) := by
  rcases i with _ | _ | _ | _ | _ | _ | _ | _ | i <;> first | rfl | omega
theorem rest_next8 (t : Nat) (h : t < 8) : List.replicate (8 - t) (u32v 0#32) = u32v 0#32 :: List.replicate (8 - (t + 1)) (u32v 0#32) := by
  obtain ⟨m, h1, h2⟩ : ∃ m, 8 - t = m + 1 ∧ 8 - (t + 1) = m := ⟨_, by omega, rfl⟩
  rw [h1, h2]
  rfl
end Go.FL

namespace Go.Proofs.YtiimlanbbfhkjaaDoor

open Go.RowKit Go.FL

end Go.Proofs.YtiimlanbbfhkjaaDoor




namespace Go.FL

open Go.RowKit

theorem Own.put {w : World} {base e : Nat} {v : Value} {m : List UInt8} (h : Own w base e v m) (k : Nat) (hk : k < m.length) :
    ∃ gc cap, v = .slice (some ⟨gc, 0, none⟩) m.length cap ∧ base ≤ gc ∧ w.cell? ⟨gc, k, none⟩ = some (.int .u8 (m[k].toNat : Int)) ∧ w.frozen? ⟨gc, k, none⟩ = false ∧
      ∀ b : UInt8, Own (w.setCell ⟨gc, k, none⟩ (.int .u8 (b.toNat : Int))) base e v (m.set k b) ∧ w.grownBy (w.setCell ⟨gc, k, none⟩ (.int .u8 (b.toNat : Int))) v.ownBlock := by
  rcases h with ⟨rfl, rfl⟩ | ⟨g, sp, h1, rfl, h2, h3⟩
  · simp at hk
  · refine ⟨g, _, rfl, h1, ?_, h2.frozen k, fun b => ⟨.inr ⟨g, sp, h1, by simp, ?_, by simpa using h3⟩, gb_set (gb_refl _ _) _ _⟩⟩
    · rw [h2.cell k (by simp; omega), List.getElem_append_left hk]
    · have := h2.store k b
      rwa [List.set_append, if_pos hk] at this
theorem gb_below' {a b : World} {r : Option Nat} {B : Nat} (h : a.grownBy b r) (hg : ∀ g, r = some g → B ≤ g) (hB : B ≤ a.heap.size) : Below B a b := by
  cases r with
  | some g => exact gb_below h (hg g rfl) hB
  | none => exact (gr_of_grown h rfl).mono hB
theorem rd_newF (w : World) (e : Nat) (l : List UInt8) (n : Nat) (cs : Array Value) (fr : Nat × Nat) (hn : n = l.length) (hcs : cs = (bytesV l).toArray) (hm : n ≤ maxLen) : Rd (w.alloc (.cells cs e fr)) (.slice (some ⟨w.heap.size, 0, none⟩) n n) l := by
  subst hn hcs
  refine ⟨_, _, rfl, Nat.le_refl _, hm, by simp, fun j hj => ⟨w.heap.size, 0, rfl, ?_⟩⟩
  rw [Nat.zero_add]
  simp only [World.cell?, heap_alloc_new]
  simp [bytesV, hj]
end Go.FL

namespace Go.Proofs.YtiimlanbbfhkjaaDoor

open Go.RowKit Go.FL

theorem run_slice_mid {P : Program} (t e : TypeId) (ht : P.underlying t = some (.slice e)) (hz : (P.info? e).map (·.size) = some 1) (p : Option Addr) (n c i j : Nat) (hij : i ≤ j) (hj : j ≤ c) (k k' : IntKind) (I J : Int) (hI : I = (i : Int)) (hJ : J = (j : Int)) (w : World) :
    (Instr.slice t (.slice p n c) (some (.int k I)) (some (.int k' J)) none).run P w = .ok (sliced p i j c 1) w := by
  subst hI hJ
  cases hq : P.info? e with
  | none => simp [hq] at hz
  | some inf =>
    have hs : inf.size = 1 := by simpa [hq] using hz
    simp [Instr.slice, run_underlying ht, Instr.sliceBounds, run_sliceBound, sizeOf, typeInfo, hq, hs, hij, hj, sliced]

theorem eqSums (l m : List UInt8) (hl : l.length = 32) (hm : m.length = 32) (w : World) : (Op.equalIn 10000 124 (.agg (bytesV l).toArray) (.agg (bytesV m).toArray)).run Tryd.prog w = .ok (decide (l = m)) w :=
  run_equalIn_bytes Tryd.underlying124 Tryd.underlying5 (by kernel_rfl) (by kernel_rfl) (by kernel_rfl) l m hl hm w
theorem eqSame (m : List UInt8) (w : World) : (Op.equalIn 10000 124 (.agg (bytesV (shaSum m)).toArray) (.agg (bytesV (shaSum m)).toArray)).run Tryd.prog w = .ok true w := by
  rw [eqSums _ _ (shaSum_length m) (shaSum_length m), decide_eq_true (Eq.refl _)]
end Go.Proofs.YtiimlanbbfhkjaaDoor

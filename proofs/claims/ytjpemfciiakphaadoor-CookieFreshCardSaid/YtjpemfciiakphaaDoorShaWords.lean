/- Words and states as rows of values; the values that the rounds reckon. Conditions: none. No program in sight. -/
import Derived.Test.YtjpemfciiakphaaDoorRowV
import Derived.Test.YtjpemfciiakphaaDoorShaMath
namespace Go.FL
open Go.RowKit

def u32v (x : BitVec 32) : Value := .int .u32 (x.toNat : Int)
def wordsV (l : List (BitVec 32)) : List Value := l.map u32v
def stV (begun : Bool) (s : List (BitVec 32)) (blk : List UInt8) (n : Nat) : List Value := .bool begun :: (wordsV s ++ (bytesV blk ++ [.int .u64 (n : Int)]))

theorem wordsV_length (l : List (BitVec 32)) : (wordsV l).length = l.length := by simp [wordsV]
theorem wordsV_append (l m : List (BitVec 32)) : wordsV (l ++ m) = wordsV l ++ wordsV m := by simp [wordsV]
/-- A row of words, written up to a place. -/
theorem rowT_here {w : World} {g e t : Nat} {ws : List (BitVec 32)} {v : Value} {r : List Value} (h : RowV w g e (wordsV ws ++ (v :: r))) (hl : ws.length = t) : w.cell? ⟨g, t, none⟩ = some v := by
  rw [h.cell, List.getElem?_append_right (by rw [wordsV_length]; omega), wordsV_length, hl, Nat.sub_self]
  rfl
theorem rowT_store {w : World} {g e t : Nat} {ws : List (BitVec 32)} {v : Value} {r : List Value} (h : RowV w g e (wordsV ws ++ (v :: r))) (hl : ws.length = t) (u : Value) : RowV (w.setCell ⟨g, t, none⟩ u) g e (wordsV ws ++ (u :: r)) := by
  have := h.store t u
  rwa [List.set_append, wordsV_length, if_neg (by omega), hl, Nat.sub_self, List.set_cons_zero] at this
theorem rowT_low {w : World} {g e : Nat} {ws : List (BitVec 32)} {r : List Value} (h : RowV w g e (wordsV ws ++ r)) (i : Nat) (hi : i < ws.length) : w.cell? ⟨g, i, none⟩ = some (.int .u32 ((ws.getD i 0#32).toNat : Int)) := by
  rw [h.cell, List.getElem?_append_left (by rw [wordsV_length]; exact hi)]
  simp [wordsV, u32v, hi]
theorem rowT_next (ws : List (BitVec 32)) (x : BitVec 32) (v : Value) (r : List Value) (hv : v = u32v x) : wordsV ws ++ (v :: r) = wordsV (ws ++ [x]) ++ r := by
  rw [wordsV_append, List.append_assoc, hv]
  rfl
theorem rest_next (t : Nat) (h : t < 64) : List.replicate (64 - t) (u32v 0#32) = u32v 0#32 :: List.replicate (64 - (t + 1)) (u32v 0#32) := by
  obtain ⟨m, h1, h2⟩ : ∃ m, 64 - t = m + 1 ∧ 64 - (t + 1) = m := ⟨_, by omega, rfl⟩
  rw [h1, h2]
  rfl
theorem stV_length (b : Bool) (s : List (BitVec 32)) (blk : List UInt8) (n : Nat) : (stV b s blk n).length = s.length + blk.length + 2 := by simp [stV, wordsV, bytesV]; omega
theorem stV_word (b : Bool) (s : List (BitVec 32)) (blk : List UInt8) (n i : Nat) (h : i < s.length) : (stV b s blk n)[1 + i]? = some (u32v s[i]) := by
  rw [stV, Nat.add_comm, List.getElem?_cons_succ, List.getElem?_append_left (by rw [wordsV_length]; exact h)]
  simp [wordsV, h]
theorem stV_byte (b : Bool) (s : List (BitVec 32)) (blk : List UInt8) (n i : Nat) (hs : s.length = 8) (h : i < blk.length) : (stV b s blk n)[9 + i]? = some (.int .u8 (blk[i].toNat : Int)) := by
  rw [stV, show 9 + i = (8 + i) + 1 by omega, List.getElem?_cons_succ, List.getElem?_append_right (by rw [wordsV_length]; omega), wordsV_length, hs, Nat.add_sub_cancel_left, List.getElem?_append_left (by rw [bytesV_length]; exact h)]
  simp [bytesV, h]
theorem stV_n (b : Bool) (s : List (BitVec 32)) (blk : List UInt8) (n : Nat) (hs : s.length = 8) (h : blk.length = 64) : (stV b s blk n)[73]? = some (.int .u64 (n : Int)) := by
  rw [stV, List.getElem?_cons_succ, List.getElem?_append_right (by rw [wordsV_length]; omega), wordsV_length, hs, List.getElem?_append_right (by rw [bytesV_length]; omega), bytesV_length, h]
  rfl
theorem stV_setWord (b : Bool) (s : List (BitVec 32)) (blk : List UInt8) (n i : Nat) (h : i < s.length) (x : BitVec 32) : (stV b s blk n).set (1 + i) (u32v x) = stV b (s.set i x) blk n := by
  rw [stV, Nat.add_comm, List.set_cons_succ, List.set_append, wordsV_length, if_pos h, stV]
  simp [wordsV, List.map_set]
theorem sha_list_length (s : Sha) : s.list.length = 8 := rfl
/-- The sums, the first i of them with what a block adds. -/
def shaMixed (s r : Sha) (i : Nat) : List (BitVec 32) := (s.add r).list.take i ++ s.list.drop i
theorem shaMixed_length (s r : Sha) (i : Nat) (h : i ≤ 8) : (shaMixed s r i).length = 8 := by simp [shaMixed, sha_list_length]; omega
theorem shaMixed_get (s r : Sha) (i : Nat) (h : i < 8) : (shaMixed s r i)[i]? = some (s.list.getD i 0#32) := by
  rcases i with _ | _ | _ | _ | _ | _ | _ | _ | i <;> first | rfl | omega
theorem shaMixed_set (s r : Sha) (i : Nat) (h : i < 8) : (shaMixed s r i).set i (s.list.getD i 0#32 + r.list.getD i 0#32) = shaMixed s r (i + 1) := by
  rcases i with _ | _ | _ | _ | _ | _ | _ | _ | i <;> first | rfl | omega
theorem shaMixed_zero (s r : Sha) : shaMixed s r 0 = s.list := rfl
theorem shaMixed_all (s r : Sha) : shaMixed s r 8 = (s.add r).list := rfl

theorem cell_off {w : World} {g i j : Nat} (u : Value) (h : i ≠ j) : (w.setCell ⟨g, i, none⟩ u).cell? ⟨g, j, none⟩ = w.cell? ⟨g, j, none⟩ :=
  World.cell?_setCell_other _ _ _ _ (by simp)
theorem sigA_val (x : BitVec 32) : bits .xor .u32 (bits .xor .u32 ((rr x 7).toNat : Int) ((rr x 18).toNat : Int)) ((x.toNat : Int) / 8) = ((sigA x).toNat : Int) := by
  rw [show (x.toNat : Int) / (8 : Int) = ((x >>> 3).toNat : Int) from shr32 x 3, bits_xor32, bits_xor32]
  rfl
theorem sigB_val (x : BitVec 32) : bits .xor .u32 (bits .xor .u32 ((rr x 17).toNat : Int) ((rr x 19).toNat : Int)) ((x.toNat : Int) / 1024) = ((sigB x).toNat : Int) := by
  rw [show (x.toNat : Int) / (1024 : Int) = ((x >>> 10).toNat : Int) from shr32 x 10, bits_xor32, bits_xor32]
  rfl
theorem sumE_val (x : BitVec 32) : bits .xor .u32 (bits .xor .u32 ((rr x 6).toNat : Int) ((rr x 11).toNat : Int)) ((rr x 25).toNat : Int) = ((sumE x).toNat : Int) := by
  rw [bits_xor32, bits_xor32]
  rfl
theorem sumA_val (x : BitVec 32) : bits .xor .u32 (bits .xor .u32 ((rr x 2).toNat : Int) ((rr x 13).toNat : Int)) ((rr x 22).toNat : Int) = ((sumA x).toNat : Int) := by
  rw [bits_xor32, bits_xor32]
  rfl
theorem ch_val (e f g : BitVec 32) : bits .or .u32 (bits .and .u32 (e.toNat : Int) (f.toNat : Int)) (bits .and .u32 (bits .xor .u32 IntKind.u32.max (e.toNat : Int)) (g.toNat : Int)) = ((shaCh e f g).toNat : Int) := by
  rw [not32, bits_and32, bits_and32, bits_or32]
  rfl
theorem maj_val (a b c : BitVec 32) : bits .or .u32 (bits .and .u32 (a.toNat : Int) (b.toNat : Int)) (bits .and .u32 (c.toNat : Int) (bits .or .u32 (a.toNat : Int) (b.toNat : Int))) = ((shaMaj a b c).toNat : Int) := by
  rw [bits_or32, bits_and32, bits_and32, bits_or32]
  rfl
theorem wordsV_get (l : List (BitVec 32)) (i : Nat) (h : i < l.length) : (wordsV l)[i]? = some (.int .u32 ((l.getD i 0#32).toNat : Int)) := by simp [wordsV, u32v, h]
theorem stV_wordD (b : Bool) (s : List (BitVec 32)) (blk : List UInt8) (n i : Nat) (x : BitVec 32) (h : s[i]? = some x) : (stV b s blk n)[1 + i]? = some (.int .u32 (x.toNat : Int)) := by
  obtain ⟨hi, rfl⟩ := List.getElem?_eq_some_iff.1 h
  exact stV_word b s blk n i hi
theorem list8 {α : Type} {l : List α} (h : l.length = 8) : ∃ a b c d e f g i, l = [a, b, c, d, e, f, g, i] := by
  match l, h with
  | [a, b, c, d, e, f, g, i], _ => exact ⟨a, b, c, d, e, f, g, i, rfl⟩
end Go.FL

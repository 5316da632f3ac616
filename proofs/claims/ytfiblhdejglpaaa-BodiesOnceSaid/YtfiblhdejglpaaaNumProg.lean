/- Numbers put and got, as the chapters above octet want it said. Conditions: what comes in reads as bytes. -/
import Derived.Test.YtfiblhdejglpaaaOctProg
import Derived.Test.YtfiblhdejglpaaaNumMath
namespace Go.FL
theorem num_size {n : Nat} (hn : n = 1 ∨ n = 2 ∨ n = 4 ∨ n = 8) : sizedB (n : Int) = true := by
  simp [sizedB]
  omega
end Go.FL
namespace Go.Proofs.Ytfiblhdejglpaaa
open Go.RowKit Go.FL

theorem putL_of (l : List UInt8) (x n : Nat) (hn : n = 1 ∨ n = 2 ∨ n = 4 ∨ n = 8) : putL l x (n : Int) = l ++ beBytes n x := by
  rw [putL, if_pos (num_size hn), Int.toNat_natCast]

theorem put_at (v : Value) (l : List UInt8) (x n : Nat) (X N : Int) (hX : X = (x : Int)) (hN : N = (n : Int)) (hn : n = 1 ∨ n = 2 ∨ n = 4 ∨ n = 8) (w : World) (h : Rd w v l) (hs : l.length ≤ 140737488355320) (hx : x < 18446744073709551616) :
    Calls Try.prog 70 #[v, .int .u64 X, .int .i64 N] w (RetOwn w 5 (l ++ beBytes n x)) := by
  subst hX hN
  rw [← putL_of l x n hn]
  exact put_any v l x n w h hs hx
/-- What Get answers, whether it is within or not. -/
def GetsNum (l : List UInt8) (a n : Nat) (w : World) (e : Ending) (w' : World) : Prop :=
  ∃ er : Int, e = .returned (.tuple #[.int .u64 (numAt l a n : Int), .int .i64 er]) ∧ Below w.heap.size w w' ∧ er = if a + n ≤ l.length then 0 else 1
theorem get_at (v : Value) (l : List UInt8) (a n : Nat) (A' N : Int) (hA : A' = (a : Int)) (hN : N = (n : Int)) (hn : n = 1 ∨ n = 2 ∨ n = 4 ∨ n = 8) (w : World) (h : Rd w v l) :
    Calls Try.prog 71 #[v, .int .i64 A', .int .i64 N] w fun e w' => ∃ er : Int, e = .returned (.tuple #[.int .u64 (numAt l a n : Int), .int .i64 er]) ∧ w = w' ∧ er = if a + n ≤ l.length then 0 else 1 := by
  subst hA hN
  by_cases hw : a + n ≤ l.length
  · have hok : getOk l (a : Int) (n : Int) = true := by
      rw [getOk, num_size hn]
      simp [withinB]
      omega
    refine (get_ok v l a n w h hok).mono ?_
    rintro e w' ⟨rfl, rfl⟩
    refine ⟨0, ?_, rfl, by rw [if_pos hw]⟩
    rw [numAt, if_pos hw]
    simp [pieceOf]
  · have hno : getOk l (a : Int) (n : Int) = false := by
      rw [getOk, num_size hn]
      simp [withinB]
      omega
    refine (get_no v l a n w h hno).mono ?_
    rintro e w' ⟨rfl, rfl⟩
    refine ⟨1, ?_, rfl, by rw [if_neg hw]⟩
    rw [numAt, if_neg hw]
    rfl
theorem get_within (v : Value) (l : List UInt8) (a n : Nat) (A' N : Int) (hA : A' = (a : Int)) (hN : N = (n : Int)) (hn : n = 1 ∨ n = 2 ∨ n = 4 ∨ n = 8) (w : World) (h : Rd w v l) (hw : a + n ≤ l.length) :
    Calls Try.prog 71 #[v, .int .i64 A', .int .i64 N] w fun e w' => e = .returned (.tuple #[.int .u64 (numAt l a n : Int), .int .i64 0]) ∧ w = w' := by
  refine (get_at v l a n A' N hA hN hn w h).mono ?_
  rintro e w' ⟨er, h1, h2, h3⟩
  rw [if_pos hw] at h3
  subst h3
  exact ⟨h1, h2⟩
theorem cut_at (v : Value) (l : List UInt8) (i k : Nat) (a n : Int) (ha : a = (i : Int)) (hn : n = (k : Int)) (w : World) (h : Rd w v l) (hik : i + k ≤ l.length) (hs : l.length ≤ 140737488355320) :
    Calls Try.prog 72 #[v, .int .i64 a, .int .i64 n] w fun e w' => ∃ v', e = .returned (.tuple #[v', .bool true]) ∧ Own w' w.heap.size 5 v' ((l.drop i).take k) ∧ Below w.heap.size w w' := by
  subst ha hn
  exact cut_ok v l i k w h hik hs
end Go.Proofs.Ytfiblhdejglpaaa

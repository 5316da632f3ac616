/- Numbers put and got by the document, as the chapters above octet want it said. Conditions: what comes in reads as bytes. -/
import Derived.Test.YtfiblhdejglpaaaOctRef
import Derived.Test.YtfiblhdejglpaaaNumProg
namespace Go.Proofs.Ytfiblhdejglpaaa
open Go.RowKit Go.FL

theorem refPut_at (v : Value) (l : List UInt8) (x n : Nat) (X N : Int) (hX : X = (x : Int)) (hN : N = (n : Int)) (hn : n = 1 ∨ n = 2 ∨ n = 4 ∨ n = 8) (w : World) (h : Rd w v l) (hs : l.length ≤ 140737488355320) (hx : x < 18446744073709551616) :
    Calls Try.prog 57 #[v, .int .u64 X, .int .i64 N] w (RetOwn w 5 (l ++ beBytes n x)) := by
  subst hX hN
  rw [← putL_of l x n hn]
  exact refPut_any v l x n w h hs hx
theorem refGet_at (v : Value) (l : List UInt8) (a n : Nat) (A' N : Int) (hA : A' = (a : Int)) (hN : N = (n : Int)) (hn : n = 1 ∨ n = 2 ∨ n = 4 ∨ n = 8) (w : World) (h : Rd w v l) (hs : l.length ≤ 140737488355320) :
    Calls Try.prog 74 #[v, .int .i64 A', .int .i64 N] w (GetsNum l a n w) := by
  subst hA hN
  by_cases hw : a + n ≤ l.length
  · have hok : getOk l (a : Int) (n : Int) = true := by
      rw [getOk, num_size hn]
      simp [withinB]
      omega
    refine (refGet_ok v l a n w h hok hs).mono ?_
    rintro e w' ⟨rfl, hb⟩
    refine ⟨0, ?_, hb, by rw [if_pos hw]⟩
    rw [numAt, if_pos hw]
    simp [pieceOf]
  · have hno : getOk l (a : Int) (n : Int) = false := by
      rw [getOk, num_size hn]
      simp [withinB]
      omega
    refine (refGet_no v l a n w h hno hs).mono ?_
    rintro e w' ⟨rfl, hb⟩
    refine ⟨1, ?_, hb, by rw [if_neg hw]⟩
    rw [numAt, if_neg hw]
    rfl
end Go.Proofs.Ytfiblhdejglpaaa

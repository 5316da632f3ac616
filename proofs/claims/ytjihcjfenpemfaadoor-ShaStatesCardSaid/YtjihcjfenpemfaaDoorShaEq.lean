/- Two sums by value; rows one behind the other. Conditions: none. -/
import Derived.Test.YtjihcjfenpemfaaDoorShaWorks
import Derived.Test.YtjihcjfenpemfaaDoorEqArr
import Derived.Test.YtjihcjfenpemfaaDoorShaLong
namespace Go.Proofs.YtjihcjfenpemfaaDoor
open Go.RowKit Go.FL

theorem eqSums (l m : List UInt8) (hl : l.length = 32) (hm : m.length = 32) (w : World) : (Op.equalIn 10000 25 (.agg (bytesV l).toArray) (.agg (bytesV m).toArray)).run Tryd.prog w = .ok (decide (l = m)) w :=
  run_equalIn_bytes Tryd.underlying25 Tryd.underlying5 (by kernel_rfl) (by kernel_rfl) (by kernel_rfl) l m hl hm w
theorem eqSame (m : List UInt8) (w : World) : (Op.equalIn 10000 25 (.agg (bytesV (shaSum m)).toArray) (.agg (bytesV (shaSum m)).toArray)).run Tryd.prog w = .ok true w := by
  rw [eqSums _ _ (shaSum_length m) (shaSum_length m), decide_eq_true (Eq.refl _)]
/-- The first i rows, one behind the other. -/
def catN (ls : List (List UInt8)) (i : Nat) : List UInt8 := (ls.take i).flatten
theorem catN_succ (ls : List (List UInt8)) (i : Nat) (h : i < ls.length) : catN ls (i + 1) = catN ls i ++ ls[i] := by
  unfold catN
  rw [List.take_succ_eq_append_getElem h, List.flatten_append]
  simp
theorem catN_le (ls : List (List UInt8)) (hs : ∀ i (hi : i < ls.length), ls[i].length ≤ 1024) : ∀ i, i ≤ ls.length → (catN ls i).length ≤ 1024 * i
  | 0, _ => by simp [catN]
  | i + 1, h => by
    have := catN_le ls hs i (by omega)
    have := hs i (by omega)
    rw [catN_succ ls i (by omega), List.length_append]
    omega
end Go.Proofs.YtjihcjfenpemfaaDoor

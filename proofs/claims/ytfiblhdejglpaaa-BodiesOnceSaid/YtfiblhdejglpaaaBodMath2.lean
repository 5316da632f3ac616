/- What chunks say, more: times, numbers alone; sizes. Conditions: none. No program in sight. -/
import Derived.Test.YtfiblhdejglpaaaBodMath
namespace Go.FL
def timeN (b : Int) : Nat := (b % 18446744073709551616).toNat
def timeI (n : Nat) : Int := if n < 9223372036854775808 then (n : Int) else (n : Int) - 18446744073709551616
theorem timeN_lt (b : Int) : timeN b < 18446744073709551616 := by unfold timeN; omega
theorem timeI_N (b : Int) (h : -9223372036854775808 ≤ b ∧ b < 9223372036854775808) : timeI (timeN b) = b := by
  unfold timeI timeN
  split <;> omega
theorem timeI_bounds (n : Nat) (h : n < 18446744073709551616) : -9223372036854775808 ≤ timeI n ∧ timeI n < 9223372036854775808 := by
  unfold timeI
  split <;> omega
theorem wrap_time (b : Int) : IntKind.u64.wrap b = (timeN b : Int) := by
  simp only [IntKind.wrap, IntKind.signed, IntKind.bits, timeN]
  simp
  omega
theorem wrap_timeI (n : Nat) (h : n < 18446744073709551616) : IntKind.i64.wrap (n : Int) = timeI n := by
  simp only [IntKind.wrap, IntKind.signed, IntKind.bits, timeI]
  simp
  split <;> omega
def timeBody (a : Int) : List UInt8 := beBytes 2 1 ++ (beBytes 2 12 ++ beBytes 8 (timeN a))
theorem timeBody_length (a : Int) : (timeBody a).length = 12 := by simp [timeBody, beBytes_length]
def timeChk (k : UInt8) (a : Int) : Chk := ⟨k, 0, timeBody a⟩
def cumChk (c : Nat) : Chk := ⟨7, 0, beBytes 4 c⟩
end Go.FL

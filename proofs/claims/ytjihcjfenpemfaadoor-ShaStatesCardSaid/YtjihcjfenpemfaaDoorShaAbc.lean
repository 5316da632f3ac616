/- The sum of a known text. Conditions: none. No program in sight. -/
import Derived.Test.YtjihcjfenpemfaaDoorShaMath
namespace Go.FL
theorem sha_abc0 : (shaSum [97, 98, 99])[0]? = some 186 := by decide +kernel
theorem sha_abc1 : (shaSum [97, 98, 99])[1]? = some 120 := by decide +kernel
theorem sha_abc31 : (shaSum [97, 98, 99])[31]? = some 173 := by decide +kernel
end Go.FL

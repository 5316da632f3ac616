/- ShaNil: the walk of the law. Conditions: the package's tables hold what its text says. -/
import Derived.Test.YtjihcjfenpemfaaDoorShaWorks
import Derived.Test.YtjihcjfenpemfaaDoorEqArr
namespace Go.Proofs.YtjihcjfenpemfaaDoor
open Go.RowKit Go.FL

theorem eqSums (l m : List UInt8) (hl : l.length = 32) (hm : m.length = 32) (w : World) : (Op.equalIn 10000 25 (.agg (bytesV l).toArray) (.agg (bytesV m).toArray)).run Tryd.prog w = .ok (decide (l = m)) w :=
  run_equalIn_bytes Tryd.underlying25 Tryd.underlying5 (by kernel_rfl) (by kernel_rfl) (by kernel_rfl) l m hl hm w
def noughts : List UInt8 := List.replicate 32 0

set_option maxRecDepth 20000 in
set_option maxHeartbeats 400000 in
theorem shaNil_walk {w : World} (hlaid : ShaLaid w) {v : Value} (l : List UInt8) (hv : Rd w v l) :
    Calls Tryd.prog 9 #[v] w fun e w' => e = .returned (.bool true) ∧ Below w.heap.size w w' := by
  have HL := hid hlaid
  obtain ⟨p, c, rfl, hlc, hcm, hpn, hcell⟩ := hv
  unfold maxLen at hcm
  clear hcell hlaid
  by_cases hbig : 65536 < l.length
  · go_enter Tryd.func9, Tryd.ntmps9
    go_wp2_with fail
    refine (works_any _ HL.out).mono ?_
    rintro e w' ⟨rfl, hb⟩
    go_wp2_with fail
    go_ret
    exact ⟨rfl, hb⟩
  · go_enter Tryd.func9, Tryd.ntmps9
    go_wp2_with fail
    refine (write_nil _ _).mono ?_
    rintro e w1 ⟨rfl, rfl⟩
    go_wp2_with fail
    refine (shaSum_nil _).mono ?_
    rintro e w1 ⟨rfl, hb1⟩
    have G1 := hid hb1
    clear hb1
    have heq : ∀ wx, (Op.equalIn 10000 25 (.agg zeros32.toArray) (.agg #[.int .u8 0, .int .u8 0, .int .u8 0, .int .u8 0, .int .u8 0, .int .u8 0, .int .u8 0, .int .u8 0, .int .u8 0, .int .u8 0, .int .u8 0, .int .u8 0, .int .u8 0, .int .u8 0, .int .u8 0, .int .u8 0, .int .u8 0, .int .u8 0, .int .u8 0, .int .u8 0, .int .u8 0, .int .u8 0, .int .u8 0, .int .u8 0, .int .u8 0, .int .u8 0, .int .u8 0, .int .u8 0, .int .u8 0, .int .u8 0, .int .u8 0, .int .u8 0])).run Tryd.prog wx = .ok true wx := fun wx => by
      have := eqSums noughts noughts (by decide) (by decide) wx
      rw [show decide (noughts = noughts) = true by decide] at this
      exact this
    go_wp2_with fail
    refine (works_any _ (HL.out.mono G1.out)).mono ?_
    rintro e w' ⟨rfl, hb⟩
    go_wp2_with fail
    go_ret
    exact ⟨rfl, gr_trans G1.out hb⟩
end Go.Proofs.YtjihcjfenpemfaaDoor

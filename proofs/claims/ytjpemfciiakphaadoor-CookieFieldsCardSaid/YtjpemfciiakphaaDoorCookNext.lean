/- cookie.Read's reader of numbers. Conditions: what it captured holds what it should. -/
import Derived.Test.YtjpemfciiakphaaDoorCookSmall
namespace Go.Proofs.YtjpemfciiakphaaDoor
open Go.RowKit Go.FL

set_option maxRecDepth 20000 in
theorem next_any (gs gn : Nat) (v : Value) (l : List UInt8) (a n : Nat) (N : Int) (hN : N = (n : Int)) (hn : n = 1 ∨ n = 2 ∨ n = 4 ∨ n = 8) (w : World) (hc : w.cell? ⟨gs, 0, none⟩ = some v) (hv : Rd w v l) (hr : RowV w gn 3 [.int .i64 (a : Int)]) (hl : a + n ≤ l.length) (hm : l.length ≤ 1000000) :
    Calls Tryd.prog 26 #[.int .i64 N, .pointer (some ⟨gs, 0, none⟩), .pointer (some ⟨gn, 0, none⟩)] w fun e w' => e = .returned (.int .u64 (numAt l a n : Int)) ∧ RowV w' gn 3 [.int .i64 ((a + n : Nat) : Int)] ∧ w.grownBy w' (some gn) := by
  subst hN
  have HV := hid hv
  have HR := hid hr
  have HN := hid hn
  obtain ⟨p, c, rfl, hlc, hcm, hpn, hcell⟩ := hv
  unfold maxLen at hcm
  clear hcell hn
  have c0 : w.cell? ⟨gn, 0, none⟩ = some (.int .i64 (a : Int)) := hr.at 0 (by simp)
  have f0 := hr.frozen 0
  clear hr
  go_enter Tryd.func26, Tryd.ntmps26
  go_wp2_with fail
  refine (get_within _ l a n _ _ rfl rfl HN.out _ HV.out hl).mono ?_
  rintro e w1 ⟨rfl, rfl⟩
  go_wp2_with fail
  go_ret
  refine ⟨rfl, ?_, gb_set (gb_refl _ _) 0 _⟩
  rw [Int.natCast_add]
  exact HR.out.store 0 _
end Go.Proofs.YtjpemfciiakphaaDoor

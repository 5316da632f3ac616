/- 'copy' of bytes into the midst of a row: an equation on the operation. Conditions: none. No program in sight. -/
import Derived.Test.YtjpemfciiakphaaDoorRowV
import Derived.Laws.CopyOwn
namespace Go.FL
open Go.RowKit
/-- A new block, written whole. -/
theorem gr_boxed {w1 w2 : World} {o : Obj} {r : Option Nat} (h : (w1.alloc o).grownBy w2 r) (hr : r = some w1.heap.size) : Below w1.heap.size w1 w2 := by
  subst hr
  exact ((Below.refl _ _).alloc (Nat.le_refl _) _).trans (gb_below h (Nat.le_refl _) (by simp))
theorem run_copy_rd {P : Program} (w : World) (dT sT ty elem : TypeId) (hu : P.underlying dT = some (.slice elem)) (hsz : (P.info? elem).map (·.size) = some 1)
    (g off dLen dCap : Nat) (v : Value) (l : List UInt8) (hv : Rd w v l) (k : Nat) (hk : k = Nat.min l.length dLen) (cur : List Value) (t : TypeId) (hg : RowV w g t cur) (hfit : off + k ≤ cur.length) :
    ∃ w', (Builtin.copy_ #[dT, sT] ty #[.slice (some ⟨g, off, none⟩) dLen dCap, v]).run P w = .ok (.int .i64 (k : Int)) w' ∧ RowV w' g t (splice cur off (bytesV (l.take k))) ∧ w.grownBy w' (some g) := by
  by_cases h0 : l.length = 0
  · obtain ⟨p, c, rfl, _, _⟩ := hv.empty (List.length_eq_zero_iff.1 h0)
    have hk0 : k = 0 := by
      have h1 : k ≤ l.length := by rw [hk]; exact Nat.min_le_left _ _
      omega
    subst hk0
    have hrun := run_copy_none (P := P) w dT sT ty elem (some ⟨g, off, none⟩) p dLen dCap 0 c hu hsz (Nat.zero_min _)
    refine ⟨w, hrun, ?_, gb_refl _ _⟩
    have : splice cur off (bytesV (l.take 0)) = cur := by simp [splice, bytesV]
    rw [this]
    exact hg
  · obtain ⟨b, off', c, rfl, _, _, hcell⟩ := hv.at (by omega)
    have hkl : (bytesV (l.take k)).length = k := by
      have : k ≤ l.length := by rw [hk]; exact Nat.min_le_left _ _
      rw [bytesV_length]; simp; omega
    have hrun := run_copy_row (P := P) w dT sT ty elem g off dLen dCap ⟨b, off', none⟩ l.length c cur.toArray t (bytesV (l.take k)) hu hsz hg (by rw [hkl, hk]) (fun j u hj => by
      obtain ⟨hj', rfl⟩ := bytesV_get _ j u hj
      rw [Addr.add_lit]
      simp at hj'
      rw [hcell j (by omega)]
      simp) (by simp [hkl]; omega) (bytesV_oneCell _)
    rw [hkl] at hrun
    refine ⟨_, hrun, ?_, ⟨rfl, rfl, rfl, by simp [World.setRow], fun i _ hi => setRow_other w g i _ (fun e => hi (by rw [e]))⟩⟩
    show (w.setRow g _).heap[g]? = some (.cells (splice cur off (bytesV (l.take k))).toArray t (0, 0))
    rw [splice, hkl]
    rw [← List.append_assoc]
    exact setRow_heap w g _ _ t _ hg
end Go.FL

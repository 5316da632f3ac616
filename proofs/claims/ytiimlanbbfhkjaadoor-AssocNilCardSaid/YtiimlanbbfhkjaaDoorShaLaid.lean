/- From the condition on the package's two tables to their cells; a world that meets the condition. Conditions: none. -/
import Derived.Test.YtiimlanbbfhkjaaDoorShaA
import Derived.ChangeSame
import Derived.ChangeVars
import Derived.OpenShut
import Derived.LaidLaws
import Derived.LaidHandle
set_option linter.unusedSimpArgs false
set_option linter.unusedVariables false







namespace Go.FL

open Go.RowKit

theorem laid_ints {P : Program} {W : World} {name : String} {g t n e : Nat} {k : IntKind} {cs : Array Value} {fuel : Nat} {p : List MemPlace} {ds : DataW Unit} (hg : P.globalNamed name = some g) (ht : P.underlying t = some (.array n e)) (he : P.underlying e = some (.int k)) (hc : P.cellsOf e = 1) (hn : P.cellsOf t = n)
    (hvar : W.var? P name = some cs) (hd : DataW.trod (fun _ => ()) P W 0 (fun _ => true) false fuel t cs.toList = some (ds, p)) (xs : List Int) (hds : ds = .agg (xs.map fun x => .lit (.int k x))) :
    ∀ i (h : i < xs.length), W.cell? ⟨g, i, none⟩ = some (.int k xs[i]) := by
  intro i hi
  obtain ⟨ys, m, _, hx, hl, hyl, hel⟩ := DataW.trod_array ht hd
  have h1 : ds = .agg (ys.map (·.1)) := congrArg Prod.fst hx
  rw [hds] at h1
  have h2 : xs.map (fun x => DataW.lit (Lit.int k x)) = ys.map (·.1) := by simpa using h1
  have hxl : xs.length = n := by
    have := congrArg List.length h2
    simp at this
    omega
  have hin : i < n := by omega
  have h3 := hel i hin
  rw [hc, Nat.mul_one] at h3
  have hyi : i < ys.length := by omega
  rw [List.getElem?_eq_getElem hyi] at h3
  obtain ⟨z, hz, hz2, _⟩ := DataW.trod_int he h3
  have h4 : (xs.map (fun x => DataW.lit (H := Unit) (Lit.int k x)))[i]? = (ys.map (·.1))[i]? := by rw [h2]
  rw [List.getElem?_map, List.getElem?_map, List.getElem?_eq_getElem hyi, List.getElem?_eq_getElem hi, hz2] at h4
  have hzx : z = xs[i] := by simp at h4; exact h4.symm
  have h5 := World.var?_cell hg hvar i
  rw [h5]
  have h6 : cs.toList[i]? = some (Value.int k z) := by
    have := congrArg (fun l => l[0]?) hz
    simpa [List.getElem?_take, List.getElem?_drop] using this
  rw [← hzx, ← h6]
  simp
end Go.FL

namespace Go.Proofs.YtiimlanbbfhkjaaDoor

open Go.RowKit Go.FL

def shaLaidList : List (String × DataW Unit) := [("fairlead/sha.table", Rows.laid_fairlead_sha_table), ("fairlead/sha.first", Rows.laid_fairlead_sha_first)]
theorem shaLaid_of {W : World} (h : laidMetH Tryd.prog shaLaidList W) : ShaLaid W := by
  have h' : laidMet Tryd.prog shaLaidList W := h
  obtain ⟨ps, hl, _, _⟩ := h'
  obtain ⟨g1, t1, c1, f1, p1, q1, hg1, ht1, hv1, hd1, hr, _⟩ := hl
  obtain ⟨g0, t0, c0, f0, p0, q0, hg0, ht0, hv0, hd0, _, _⟩ := hr
  obtain rfl := Option.some.inj ((show Tryd.prog.globalNamed "fairlead/sha.table" = some 1 by kernel_rfl).symm.trans hg1)
  obtain rfl := Option.some.inj ((show Tryd.prog.globalNamed "fairlead/sha.first" = some 0 by kernel_rfl).symm.trans hg0)
  obtain rfl := Option.some.inj ((show (Tryd.prog.globals[1]?).map (·.type) = some 149 by kernel_rfl).symm.trans ht1)
  obtain rfl := Option.some.inj ((show (Tryd.prog.globals[0]?).map (·.type) = some 146 by kernel_rfl).symm.trans ht0)
  have k1 := laid_ints hg1 Tryd.underlying149 Tryd.underlying22 (by kernel_rfl) (by kernel_rfl) hv1 hd1 (shaK.map fun x => (x.toNat : Int)) rfl
  have k0 := laid_ints hg0 Tryd.underlying146 Tryd.underlying22 (by kernel_rfl) (by kernel_rfl) hv0 hd0 (shaH.list.map fun x => (x.toNat : Int)) rfl
  exact ⟨fun i hi => by have := k0 i (by simpa using hi); simpa [u32v] using this, fun i hi => by have := k1 i (by simpa using hi); simpa [u32v] using this⟩

/-- A world that meets the condition: the settled one, the two tables laid. -/
noncomputable def laidWorld (os : Os) : World :=
  let w0 := World.holding Tryd.prog os ⟨#[], #[], []⟩
  { w0 with heap := (w0.heap.modify 0 fun
      | .cells _ t frozen => .cells (wordsV shaH.list).toArray t frozen
      | o => o).modify 1 fun
      | .cells _ t frozen => .cells (wordsV shaK).toArray t frozen
      | o => o }
set_option maxRecDepth 100000 in
theorem laidWorld_met (os : Os) (args : Array Value) : laidMetH Tryd.prog shaLaidList ((laidWorld os).forCall (fun _ _ => 0) ⟨#[], args, []⟩).memory :=
  laidMetH_of_parts (laidMet_of_run' 8 (by kernel_rfl) (by kernel_rfl)) (by kernel_rfl)
end Go.Proofs.YtiimlanbbfhkjaaDoor

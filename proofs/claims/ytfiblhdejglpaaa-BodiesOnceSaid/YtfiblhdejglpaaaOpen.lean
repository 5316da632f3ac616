/- What an argument reads as: a slice of bytes. Conditions: none. No program in sight. -/
import Derived.Test.YtfiblhdejglpaaaMem
import Derived.OpenShut
namespace Go.FL
open Go.RowKit Go.ChangeShapes Go.WideShapes Go.ChangeAt

theorem rd_of_trod {H : Type} {enc : TypeId × Value → H} {P : Program} {W : World} {spare : Nat → Bool} {held : Bool} {t e : TypeId} {a : Option Addr} {n c : Nat} {d : DataW H} {p : List MemPlace}
    (ht : P.underlying t = some (.slice e)) (he : P.underlying e = some (.int .u8)) (hc : P.cellsOf e = 1) (h : DataW.Trod enc P W 0 spare held t (.slice a n c) d p) :
    ∃ l, Rd W (.slice a n c) l := by
  obtain ⟨fuel, hf⟩ := h
  rcases open_ints ht he hc hf with ⟨hcs, _⟩ | ⟨x, l, c', zs, hcs, _, hl, hm, hz, _, hcell, hwz⟩
  · simp [Value.cells] at hcs
    obtain ⟨rfl, rfl, rfl⟩ := hcs
    exact ⟨[], Rd.nil W⟩
  · simp [Value.cells] at hcs
    obtain ⟨rfl, rfl, rfl⟩ := hcs
    have hzl : n ≤ zs.length := by rw [hz]; split <;> omega
    refine ⟨(zs.take n).map fun z => UInt8.ofNat z.toNat, some x, c, ?_, ?_, hm, by simp, ?_⟩
    · simp [Nat.min_eq_left hzl]
    · simp [Nat.min_eq_left hzl, hl]
    · intro j hj
      simp [Nat.min_eq_left hzl] at hj
      have hj' : j < zs.length := by omega
      have h1 := hcell j hj'
      have hget : zs.getD j 0 = zs[j] := by simp [List.getD, hj']
      rw [hget] at h1
      have hb := bounds_u8 (hwz zs[j] (List.getElem_mem hj'))
      have hs : x.spot = none := by
        have h0 := hcell 0 (by omega)
        have h0' := World.cell?_spot h0
        simpa [Addr.add] using h0'
      refine ⟨x.block, x.off, by cases x; simp_all, ?_⟩
      have hx : x.add j = ⟨x.block, x.off + j, none⟩ := by
        cases x
        simp_all [Addr.add]
      rw [← hx, h1]
      have hv : zs[j] = ((UInt8.ofNat zs[j].toNat).toNat : Int) := by
        simp [UInt8.toNat_ofNat']
        omega
      simp only [List.getElem_map, List.getElem_take]
      rw [← hv]
end Go.FL

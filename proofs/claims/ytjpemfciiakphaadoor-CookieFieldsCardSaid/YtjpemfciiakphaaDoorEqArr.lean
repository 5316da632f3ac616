/- '==' of two arrays of bytes by value. Conditions: none. No program in sight. -/
import Derived.Test.YtjpemfciiakphaaDoorMem
import Derived.DeepKeys
namespace Go.FL
open Go.RowKit

def litsOf (l : List UInt8) : List Lit := l.map fun b => Lit.int .u8 (b.toNat : Int)
theorem litsOf_inj {l m : List UInt8} : litsOf l = litsOf m ↔ l = m := by
  constructor
  · intro h
    have : ∀ a b : UInt8, Lit.int .u8 (a.toNat : Int) = Lit.int .u8 (b.toNat : Int) → a = b := by
      intro a b h
      simp at h
      exact UInt8.toNat_inj.1 (by omega)
    exact (List.map_inj_right (fun a b h => this a b h)).1 h
  · rintro rfl; rfl
theorem wf_byte (b : UInt8) : (Lit.int .u8 (b.toNat : Int)).wf = true := by
  have := b.toNat_lt
  simp [Lit.wf, IntKind.min, IntKind.max, IntKind.signed, IntKind.bits]
  omega
theorem mapM_lits {P : Program} {e : TypeId} (he : P.underlying e = some (.int .u8)) (l : List UInt8) : ∀ is : List Nat, (∀ i ∈ is, i < l.length) →
    is.mapM (fun i => P.keyLits 1 e (((bytesV l).drop (i * 1)).take 1)) = some (is.map fun i => [Lit.int .u8 ((l.getD i 0).toNat : Int)])
  | [], _ => by simp
  | i :: is, h => by
    have hi : i < l.length := h i (by simp)
    have h1 : ((bytesV l).drop (i * 1)).take 1 = [Value.int .u8 ((l.getD i 0).toNat : Int)] := by
      rw [Nat.mul_one, List.drop_eq_getElem_cons (by rw [bytesV_length]; exact hi)]
      simp [bytesV, hi]
    rw [List.mapM_cons, mapM_lits he l is (fun j hj => h j (by simp [hj])), h1]
    simp [Program.keyLits, he, wf_byte]
theorem flat_lits (l : List UInt8) : ((List.range l.length).map fun i => [Lit.int .u8 ((l.getD i 0).toNat : Int)]).flatten = litsOf l := by
  have h1 : ∀ is : List Nat, (is.map fun i => [Lit.int .u8 ((l.getD i 0).toNat : Int)]).flatten = is.map fun i => Lit.int .u8 ((l.getD i 0).toNat : Int) := by
    intro is
    induction is with
    | nil => rfl
    | cons i is ih => simp only [List.map_cons, List.flatten_cons, ih, List.singleton_append]
  rw [h1]
  apply List.ext_getElem
  · simp [litsOf]
  · intro i h2 h3
    simp at h2
    simp [litsOf, h2]
theorem keyLits_bytes {P : Program} {t e : TypeId} {n : Nat} (ht : P.underlying t = some (.array n e)) (he : P.underlying e = some (.int .u8)) (hc : P.cellsOf e = 1) (hct : P.cellsOf t = n) (l : List UInt8) (hl : l.length = n) :
    P.keyLits 2 t (Value.agg (bytesV l).toArray).cells.toList = some (litsOf l) := by
  subst hl
  show P.keyLits 2 t (bytesV l) = _
  unfold Program.keyLits
  simp only [ht, hct, hc, bytesV_length, if_true]
  rw [mapM_lits he l _ (fun i hi => by simpa using hi)]
  simp only [Option.map_some, flat_lits]
theorem run_equalIn_bytes {P : Program} {t e : TypeId} {n : Nat} (ht : P.underlying t = some (.array n e)) (he : P.underlying e = some (.int .u8)) (hc : P.cellsOf e = 1) (hct : P.cellsOf t = n) (hk : P.keyTypeAt 2 t = true) (l m : List UInt8) (hl : l.length = n) (hm : m.length = n) (w : World) :
    (Op.equalIn 10000 t (.agg (bytesV l).toArray) (.agg (bytesV m).toArray)).run P w = .ok (decide (l = m)) w := by
  obtain ⟨r, hr, hiff⟩ := run_equalIn_deep (P := P) 9998 2 t hk w 2 2 (.agg (bytesV l).toArray) (.agg (bytesV m).toArray) (litsOf l) (litsOf m) (by simp [Value.formed, ht, hct, bytesV_length, hl]) (by simp [Value.formed, ht, hct, bytesV_length, hm]) (keyLits_bytes ht he hc hct l hl) (keyLits_bytes ht he hc hct m hm)
  rw [hr]
  rw [litsOf_inj] at hiff
  have : r = decide (l = m) := by
    rw [Bool.eq_iff_iff, hiff]
    simp
  rw [this]
end Go.FL

/- Two rows of bytes, byte for byte. Conditions: none. -/
import Derived.Test.YtjpemfciiakphaaDoorMem
import Derived.Test.YtjpemfciiakphaaDoorBits
import Derived.BigQuiet
import Derived.Deep.QuietTactic
namespace Go.Proofs.YtjpemfciiakphaaDoor
open Go.RowKit Go.FL

theorem alike_step (l m : List UInt8) (k : Nat) (hl : k < l.length) (hm : k < m.length) (u : UInt8) (h : u = 0 ↔ l.take k = m.take k) : (u ||| (l[k] ^^^ m[k])) = 0 ↔ l.take (k + 1) = m.take (k + 1) := by
  rw [or_zero, xor_zero8, h, List.take_succ_eq_append_getElem hl, List.take_succ_eq_append_getElem hm]
  constructor
  · rintro ⟨h1, h2⟩; rw [h1, h2]
  · intro h1
    have := List.append_inj h1 (by simp; omega)
    exact ⟨this.1, by simpa using this.2⟩
end Go.Proofs.YtjpemfciiakphaaDoor

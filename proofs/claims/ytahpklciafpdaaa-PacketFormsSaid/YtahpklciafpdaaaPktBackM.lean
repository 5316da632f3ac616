/- Of which bytes a packet is read. Conditions: none. No program in sight. -/
import Derived.Test.YtahpklciafpdaaaPktMath
set_option linter.unusedSimpArgs false
set_option linter.unusedVariables false
namespace Go.FL
theorem sizeC_mod (c : Chk) : sizeC c % 4 = 0 := by
  unfold sizeC roundN
  omega
theorem sizesN_mod : ∀ (cs : List Chk), sizesN cs % 4 = 0
  | [] => rfl
  | c :: cs => by
    rw [sizesN_cons]
    have := sizeC_mod c
    have := sizesN_mod cs
    omega
theorem Pkt.size_mod (p : Pkt) : p.size % 4 = 0 := by
  have := sizesN_mod p.cs
  unfold Pkt.size
  omega
/-- What Read tells: refused by its form, refused by its sum, or the packet that is written as just these bytes. -/
theorem readP_cases (b : List UInt8) : readP b = (.zero, 7) ∨ readP b = (.zero, 8) ∨ ∃ p, readP b = (p, 0) ∧ p.bytes = b ∧ p.tag < 4294967296 ∧ mayB p.cs = true ∧ p.tag = numAt b 4 4 := by
  unfold readP
  by_cases h1 : b.length < 12
  · rw [if_pos h1]
    exact .inl rfl
  · rw [if_neg h1]
    by_cases h2 : numAt b 8 4 = sumB b
    · rw [if_pos h2]
      by_cases h3 : (chunksOf (b.drop 12)).2 = true ∧ (numAt b 0 2 = 5000 ∧ numAt b 2 2 = 5000) ∧ mayB (chunksOf (b.drop 12)).1 = true
      · rw [if_pos h3]
        refine .inr (.inr ⟨_, rfl, ?_, ?_, h3.2.2, rfl⟩)
        · have hb := (laid_eq b (by omega) ⟨numAt b 4 4, (chunksOf (b.drop 12)).1⟩ rfl (chunksOf_bytes _ h3.1).1).2 h3.2.1
          rw [Pkt.bytes, if_pos h3.2.2]
          have hs : (Pkt.mk (numAt b 4 4) (chunksOf (b.drop 12)).1).sum = numAt b 8 4 := by
            have e := sumB_laid ⟨numAt b 4 4, (chunksOf (b.drop 12)).1⟩ (numAt b 8 4)
            rw [hb] at e
            rw [h2, e]
            rfl
          rw [hs]
          exact hb
        · have := numAt_lt b 4 4
          simpa using this
      · rw [if_neg h3]
        exact .inl rfl
    · rw [if_neg h2]
      exact .inr (.inl rfl)
end Go.FL

/- Bits turned, all within 32 that stand one behind the other, and all ahead of the sum, in it or behind it: what Read tells then. Plain laws of PacketBursts. Conditions: none. No walk. -/
import Derived.Test.YtahpklciafpdaaaPktMath
set_option linter.unusedSimpArgs false
set_option linter.unusedVariables false
namespace Go.FL

def partN (k : Nat) : Nat := if 96 ≤ k then 3 else if 64 ≤ k then 2 else 1
theorem partN_pos (k : Nat) : partN k = 1 ∧ k < 64 ∨ partN k = 2 ∧ 64 ≤ k ∧ k < 96 ∨ partN k = 3 ∧ 96 ≤ k := by
  unfold partN
  by_cases h : 96 ≤ k
  · exact .inr (.inr ⟨by rw [if_pos h], h⟩)
  · by_cases h2 : 64 ≤ k
    · exact .inr (.inl ⟨by rw [if_neg h, if_pos h2], h2, by omega⟩)
    · exact .inl ⟨by rw [if_neg h, if_neg h2], by omega⟩
/-- A byte whose one bit is r. -/
theorem one_bit (r : Nat) (h : r < 8) : ∃ y : UInt8, IntKind.u8.wrap ((2 : Int) ^ r) = (y.toNat : Int) ∧ y.toNat = 2 ^ r := by
  rcases r with _ | _ | _ | _ | _ | _ | _ | _ | r
  · exact ⟨1, by decide, by decide⟩
  · exact ⟨2, by decide, by decide⟩
  · exact ⟨4, by decide, by decide⟩
  · exact ⟨8, by decide, by decide⟩
  · exact ⟨16, by decide, by decide⟩
  · exact ⟨32, by decide, by decide⟩
  · exact ⟨64, by decide, by decide⟩
  · exact ⟨128, by decide, by decide⟩
  · omega
/-- A bit turned. -/
theorem bitAt_flip (m : List UInt8) (k : Nat) (hk : k / 8 < m.length) (x : UInt8) (hx : x.toNat = 2 ^ (k % 8)) (j : Nat) : bitAt (m.set (k / 8) (m[k / 8] ^^^ x)) j = (bitAt m j ^^ decide (j = k)) := by
  unfold bitAt
  by_cases e : j / 8 = k / 8
  · rw [e]
    have h1 : (m.set (k / 8) (m[k / 8] ^^^ x)).getD (k / 8) 0 = m[k / 8] ^^^ x := by simp [List.getD, hk]
    have h2 : m.getD (k / 8) 0 = m[k / 8] := by simp [List.getD, hk]
    rw [h1, h2, UInt8.toNat_xor, Nat.testBit_xor, hx, Nat.testBit_two_pow]
    congr 1
    exact decide_eq_decide.2 ⟨fun h => by omega, fun h => by omega⟩
  · have h1 : (m.set (k / 8) (m[k / 8] ^^^ x)).getD (j / 8) 0 = m.getD (j / 8) 0 := by
      have : ¬ k / 8 = j / 8 := fun h => e h.symm
      simp [List.getD, List.getElem?_set, this]
    rw [h1, decide_eq_false (fun h : j = k => e (by rw [h]))]
    simp
/-- What stands behind i rounds: q is the part whose bits were turned, 0 none yet. -/
structure BurstI (b : List UInt8) (fr i q : Nat) (m : List UInt8) : Prop where
  len : m.length = b.length
  out : ∀ k, bitAt m k ≠ bitAt b k → fr ≤ k ∧ k < fr + i ∧ k < 8 * b.length ∧ partN k = q
  ex : q = 0 ∧ m = b ∨ q ≠ 0 ∧ ∃ f, bitAt m f ≠ bitAt b f ∧ ∀ k, k < f → bitAt m k = bitAt b k
theorem BurstI.start (b : List UInt8) (fr : Nat) : BurstI b fr 0 0 b := ⟨rfl, fun _ h => absurd rfl h, .inl ⟨rfl, rfl⟩⟩
theorem BurstI.keep {b m : List UInt8} {fr i q : Nat} (h : BurstI b fr i q m) : BurstI b fr (i + 1) q m :=
  ⟨h.len, fun k hk => let ⟨a1, a2, a3⟩ := h.out k hk; ⟨a1, by omega, a3⟩, h.ex⟩
theorem BurstI.turn {b m : List UInt8} {fr i q : Nat} (h : BurstI b fr i q m) (hk : fr + i < 8 * b.length) (hq : q = 0 ∨ q = partN (fr + i)) (x : UInt8) (hx : x.toNat = 2 ^ ((fr + i) % 8)) (hl : (fr + i) / 8 < m.length) :
    BurstI b fr (i + 1) (partN (fr + i)) (m.set ((fr + i) / 8) (m[(fr + i) / 8] ^^^ x)) := by
  have hfl := bitAt_flip m (fr + i) hl x hx
  have hsame : bitAt m (fr + i) = bitAt b (fr + i) := by
    by_cases e : bitAt m (fr + i) = bitAt b (fr + i)
    · exact e
    · have := (h.out _ e).2.1
      omega
  have hne0 : partN (fr + i) ≠ 0 := by rcases partN_pos (fr + i) with ⟨h, -⟩ | ⟨h, -⟩ | ⟨h, -⟩ <;> omega
  refine ⟨by rw [List.length_set]; exact h.len, fun k hk' => ?_, .inr ⟨hne0, ?_⟩⟩
  · rw [hfl k] at hk'
    by_cases e : k = fr + i
    · subst e
      exact ⟨by omega, by omega, hk, rfl⟩
    · rw [decide_eq_false e, Bool.xor_false] at hk'
      obtain ⟨a1, a2, a3, a4⟩ := h.out k hk'
      refine ⟨a1, by omega, a3, ?_⟩
      rcases hq with q0 | q0
      · rcases h.ex with ⟨-, e2⟩ | ⟨e2, -⟩
        · rw [e2] at hk'
          exact absurd rfl hk'
        · exact absurd q0 e2
      · rw [a4, q0]
  · rcases h.ex with ⟨e1, e2⟩ | ⟨e1, f, hf, hf2⟩
    · refine ⟨fr + i, ?_, fun k hk' => ?_⟩
      · rw [hfl, hsame]
        simp
      · rw [hfl, decide_eq_false (by omega), Bool.xor_false, e2]
    · have hfr := (h.out f hf).2.1
      refine ⟨f, ?_, fun k hk' => ?_⟩
      · rw [hfl, decide_eq_false (by omega), Bool.xor_false]
        exact hf
      · rw [hfl, decide_eq_false (by omega), Bool.xor_false]
        exact hf2 k hk'
theorem BurstI.q3 {b m : List UInt8} {fr i q : Nat} (h : BurstI b fr i q m) : q = 0 ∨ q = 1 ∨ q = 2 ∨ q = 3 := by
  rcases h.ex with ⟨e, -⟩ | ⟨-, f, hf, -⟩
  · exact .inl e
  · have := (h.out f hf).2.2.2
    rcases partN_pos f with ⟨a, -⟩ | ⟨a, -⟩ | ⟨a, -⟩ <;> omega
/-- Bytes of the same bits. -/
theorem same_byte {m b : List UInt8} (hl : m.length = b.length) (j : Nat) (h : ∀ r, r < 8 → bitAt m (8 * j + r) = bitAt b (8 * j + r)) : m[j]? = b[j]? := by
  have e : m.getD j 0 = b.getD j 0 := by
    apply UInt8.toNat_inj.1
    apply Nat.eq_of_testBit_eq
    intro r
    by_cases hr : r < 8
    · have := h r hr
      unfold bitAt at this
      rwa [show (8 * j + r) / 8 = j by omega, show (8 * j + r) % 8 = r by omega] at this
    · rw [Nat.testBit_lt_two_pow, Nat.testBit_lt_two_pow]
      · exact Nat.lt_of_lt_of_le (UInt8.toNat_lt _) (Nat.pow_le_pow_right (n := 2) (by decide) (show 8 ≤ r by omega))
      · exact Nat.lt_of_lt_of_le (UInt8.toNat_lt _) (Nat.pow_le_pow_right (n := 2) (by decide) (show 8 ≤ r by omega))
  by_cases hj : j < m.length
  · have hj2 : j < b.length := by omega
    simp [List.getD, hj, hj2] at e
    simp [hj, hj2, e]
  · have hj2 : ¬ j < b.length := by omega
    simp [hj, hj2]
theorem bare_getD (b : List UInt8) (h : 12 ≤ b.length) (j : Nat) : (bareB b).getD j 0 = if 8 ≤ j ∧ j < 12 then 0 else b.getD j 0 := by
  have h8 : (b.take 8).length = 8 := by rw [List.length_take]; omega
  unfold bareB
  rw [List.getD_eq_getElem?_getD, List.getElem?_append, h8]
  by_cases c1 : j < 8
  · rw [if_pos c1, if_neg (by omega), List.getElem?_take, if_pos c1, List.getD_eq_getElem?_getD]
  · rw [if_neg c1, List.getElem?_append]
    by_cases c2 : j < 12
    · rw [if_pos (show j - 8 < [(0 : UInt8), 0, 0, 0].length by simp; omega), if_pos ⟨by omega, c2⟩]
      have : j - 8 = 0 ∨ j - 8 = 1 ∨ j - 8 = 2 ∨ j - 8 = 3 := by omega
      rcases this with e | e | e | e <;> rw [e] <;> rfl
    · rw [if_neg (show ¬ j - 8 < [(0 : UInt8), 0, 0, 0].length by simp; omega), if_neg (by omega), List.getElem?_drop, List.getD_eq_getElem?_getD]
      congr 2
      simp
      omega
theorem bare_bits (b : List UInt8) (h : 12 ≤ b.length) (i : Nat) : bitAt (bareB b) i = if 64 ≤ i ∧ i < 96 then false else bitAt b i := by
  unfold bitAt
  rw [bare_getD b h]
  by_cases c : 64 ≤ i ∧ i < 96
  · rw [if_pos c, if_pos (by omega)]
    simp
  · rw [if_neg c, if_neg (by omega)]
theorem bareB_length' (b : List UInt8) (h : 12 ≤ b.length) : (bareB b).length = b.length := by
  simp [bareB]
  omega
theorem slice8_eq {m b : List UInt8} (h : ∀ j, 8 ≤ j → j < 12 → m[j]? = b[j]?) : (m.drop 8).take 4 = (b.drop 8).take 4 := by
  apply List.ext_getElem?
  intro i
  rw [List.getElem?_take, List.getElem?_take]
  by_cases c : i < 4
  · rw [if_pos c, if_pos c, List.getElem?_drop, List.getElem?_drop]
    exact h _ (by omega) (by omega)
  · rw [if_neg c, if_neg c]
/-- Bytes with bits turned so are refused by their sum. -/
theorem burst_read {b m : List UInt8} {fr q : Nat} (h : BurstI b fr 32 q m) (h12 : 12 ≤ b.length) (hs : numAt b 8 4 = sumB b) (hq : q ≠ 0) : readP m = (.zero, 8) := by
  obtain ⟨-, f, hf, hf0⟩ := h.ex.resolve_left (fun e => hq e.1)
  obtain ⟨f1, f2, f3, f4⟩ := h.out f hf
  have hl := h.len
  have hm12 : 12 ≤ m.length := by omega
  have hsm : ∀ j, (∀ r, r < 8 → partN (8 * j + r) ≠ q) → m[j]? = b[j]? := fun j hj => same_byte hl j (fun r hr => by
    by_cases e : bitAt m (8 * j + r) = bitAt b (8 * j + r)
    · exact e
    · exact absurd (h.out _ e).2.2.2 (hj r hr))
  unfold readP
  rw [if_neg (by omega)]
  suffices hne : numAt m 8 4 ≠ sumB m by rw [if_neg hne]
  by_cases q2 : q = 2
  · have hb : bareB m = bareB b := by
      apply List.ext_getElem?
      intro j
      have e1 := bare_getD m hm12 j
      have e2 := bare_getD b h12 j
      have l1 := bareB_length' m hm12
      have l2 := bareB_length' b h12
      have e3 : (bareB m).getD j 0 = (bareB b).getD j 0 := by
        rw [e1, e2]
        by_cases c : 8 ≤ j ∧ j < 12
        · rw [if_pos c, if_pos c]
        · rw [if_neg c, if_neg c, List.getD_eq_getElem?_getD, List.getD_eq_getElem?_getD, hsm j (fun r hr => by
            rcases partN_pos (8 * j + r) with ⟨a, a1⟩ | ⟨a, a1, a2⟩ | ⟨a, a1⟩
            · omega
            · omega
            · omega)]
      by_cases hj : j < (bareB m).length
      · have hj2 : j < (bareB b).length := by omega
        simp [List.getD, hj, hj2] at e3
        simp [hj, hj2, e3]
      · have hj2 : ¬ j < (bareB b).length := by omega
        simp [hj, hj2]
    intro e
    have e4 : sumB m = sumB b := by unfold sumB; rw [hb]
    rw [e4, ← hs] at e
    have s1 := numAt_bytes m 8 4 (by omega)
    have s2 := numAt_bytes b 8 4 (by omega)
    rw [e, s2] at s1
    have hmb : m = b := by
      apply List.ext_getElem?
      intro j
      by_cases c : 8 ≤ j ∧ j < 12
      · have := congrArg (fun l : List UInt8 => l[j - 8]?) s1
        simp only [List.getElem?_take, List.getElem?_drop] at this
        rw [if_pos (by omega), if_pos (by omega), show 8 + (j - 8) = j by omega] at this
        exact this.symm
      · exact hsm j (fun r hr => by
          rcases partN_pos (8 * j + r) with ⟨a, a1⟩ | ⟨a, a1, a2⟩ | ⟨a, a1⟩
          · omega
          · omega
          · omega)
    rw [hmb] at hf
    exact hf rfl
  · have e1 : numAt m 8 4 = numAt b 8 4 := by
      unfold numAt
      rw [if_pos (by omega), if_pos (by omega), slice8_eq (fun j j1 j2 => hsm j (fun r hr => by
        rcases partN_pos (8 * j + r) with ⟨a, a1⟩ | ⟨a, a1, a2⟩ | ⟨a, a1⟩
        · omega
        · omega
        · omega))]
    rw [e1, hs]
    intro e
    have hx : crcExt 0#32 (bareB b) = crcExt 0#32 (bareB m) := BitVec.eq_of_toNat_eq e
    unfold crcExt at hx
    have hx2 : crcReg (~~~0#32) (bareB m) = crcReg (~~~0#32) (bareB b) := by
      have := congrArg (fun x : BitVec 32 => ~~~ x) hx
      simpa using this.symm
    rw [crcReg_all_bits, crcReg_all_bits, bareB_length' m hm12, bareB_length' b h12, hl] at hx2
    have hout : ∀ i, bitAt (bareB m) i ≠ bitAt (bareB b) i → bitAt m i ≠ bitAt b i := by
      intro i hi
      rw [bare_bits m hm12, bare_bits b h12] at hi
      by_cases c : 64 ≤ i ∧ i < 96
      · rw [if_pos c, if_pos c] at hi
        exact absurd rfl hi
      · rwa [if_neg c, if_neg c] at hi
    have hal : ∀ i, ¬ (bitAt m i ≠ bitAt b i) → bitAt (bareB m) i = bitAt (bareB b) i := fun i hi => by
      by_cases e : bitAt (bareB m) i = bitAt (bareB b) i
      · exact e
      · exact absurd (hout i e) hi
    obtain ⟨last, hlast⟩ : ∃ n, n = min (fr + 31) (8 * b.length - 1) := ⟨_, rfl⟩
    refine burst_unlike (bitAt (bareB m)) (bitAt (bareB b)) (~~~0#32) f last (8 * b.length) (fun i hi => hal i (fun hh => hh (hf0 i hi))) ?_ (fun i hi hi2 => hal i (fun hh => ?_)) (by omega) (by omega) (by omega) hx2
    · rw [bare_bits m hm12, bare_bits b h12]
      have hc : ¬ (64 ≤ f ∧ f < 96) := by
        rcases partN_pos f with ⟨a, a1⟩ | ⟨a, a1, a2⟩ | ⟨a, a1⟩
        · omega
        · omega
        · omega
      rw [if_neg hc, if_neg hc]
      exact hf
    · have := h.out i hh
      omega
theorem sum_bytes (p : Pkt) (ht : p.tag < 4294967296) (h : mayB p.cs = true) : numAt p.bytes 8 4 = sumB p.bytes := by
  obtain ⟨n1, n2, n3, n4⟩ := numAt_laid p ht p.sum p.sum_lt
  rw [Pkt.bytes, if_pos h, n4, sumB_laid]
  rfl
end Go.FL

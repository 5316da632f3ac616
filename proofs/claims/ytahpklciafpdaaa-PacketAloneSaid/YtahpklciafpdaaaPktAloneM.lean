/- Chunks of many kinds in a packet: plain laws of PacketAlone; append as an operation of a region, in place or to new memory. Conditions: none. No walk. -/
import Derived.Test.YtahpklciafpdaaaPktFitM
import Derived.Test.YtahpklciafpdaaaPktCopy
set_option linter.unusedSimpArgs false
set_option linter.unusedVariables false
namespace Go.FL
open Go.RowKit

theorem opOk_append_new {P : Program} {o : Oper} {ρ : Operand → Value} {w : World} {post : Value → World → Prop} {s x : Operand} {t : TypeId} (ho : o.op = .call { callee := .builtin .append, args := #[s, x], argTypes := #[t, t] })
    (B : Nat) (e : Nat) (z : Value) (K Bz : Nat) (hz : z.cells.size = K) (hK : 0 < K) (ht : P.underlying t = some (.slice e)) (hi : (P.info? e).map (fun i => (i.zero, i.size, i.bytes)) = some (some z, K, Bz))
    (v : Value) (hv : ρ s = v) (n k : Nat) (l m : List Value) (h1m : ∀ u ∈ m, u.oneCell' = true) (hown : OwnK w B e K v n l) (hx : RdL w K (ρ x) k m) (hlen : (n + k) * Bz ≤ 140737488355328) (hlen2 : n + k ≤ 140737488355328) (hbase : B ≤ w.heap.size)
    (hk : 0 < k) (hnr : ∀ g mm, v = .slice (some ⟨g, 0, none⟩) n (n + mm) → mm < k) (hpost : ∀ v' w', OwnK w' w.heap.size e K v' (n + k) (l ++ m) → GrR w w' → post v' w') : opOk P o ρ w post := by
  subst hv
  obtain ⟨v', w', hr, h1, h2, h3⟩ := run_append_OwnL (P := P) w B t o.type e z K Bz hz hK ht hi (ρ s) (ρ x) n k l m h1m hown hx hlen hlen2 hbase
  rcases h3 with ⟨h4, h5⟩ | ⟨g, mm, sp, h4, h5, -⟩
  · refine opOk_val (v := v') (w' := w') ?_ (hpost v' w' (h5.resolve_left (by omega)).1 h4)
    unfold execOp
    simp only [ho, resolve, invoke, builtin, Sem.run_bind, Sem.run_pure, Result.andThen_ok, List.map_toArray, List.map_cons, List.map_nil, hr]
  · have := hnr g mm h4
    omega
theorem opOk_append_room {P : Program} {o : Oper} {ρ : Operand → Value} {w : World} {post : Value → World → Prop} {s x : Operand} {t : TypeId} (ho : o.op = .call { callee := .builtin .append, args := #[s, x], argTypes := #[t, t] })
    (B : Nat) (e : Nat) (z : Value) (K Bz : Nat) (hz : z.cells.size = K) (hK : 0 < K) (ht : P.underlying t = some (.slice e)) (hi : (P.info? e).map (fun i => (i.zero, i.size, i.bytes)) = some (some z, K, Bz))
    (g mm n k : Nat) (l m sp : List Value) (hv : ρ s = .slice (some ⟨g, 0, none⟩) n (n + mm)) (h1m : ∀ u ∈ m, u.oneCell' = true) (hl : l.length = n * K) (hsp : sp.length = mm * K) (hg : B ≤ g) (hrow : RowV w g e (l ++ sp)) (hmx : n + mm ≤ maxLen) (hx : RdL w K (ρ x) k m) (hlen : (n + k) * Bz ≤ 140737488355328) (hlen2 : n + k ≤ 140737488355328) (hbase : B ≤ w.heap.size)
    (hk : 0 < k) (hroom : k ≤ mm) (hpost : ∀ w', RowV w' g e (l ++ m ++ sp.drop m.length) → w.grownBy w' (some g) → post (.slice (some ⟨g, 0, none⟩) (n + k) (n + mm)) w') : opOk P o ρ w post := by
  have hown : OwnK w B e K (ρ s) n l := ⟨hl, .inr ⟨g, mm, sp, hg, hv, hsp, hrow, hmx⟩⟩
  obtain ⟨v', w', hr, h1, h2, h3⟩ := run_append_OwnL (P := P) w B t o.type e z K Bz hz hK ht hi (ρ s) (ρ x) n k l m h1m hown hx hlen hlen2 hbase
  rcases h3 with ⟨h4, h5⟩ | ⟨g', mm', sp', h4, h5, h6, h7, h8, rfl, h10, h11⟩
  · have := (h5.resolve_left (by omega)).2 g mm hv
    omega
  · rw [hv] at h4
    simp only [Value.slice.injEq, Option.some.injEq, Addr.mk.injEq, true_and, and_true] at h4
    obtain ⟨rfl, h4⟩ := h4
    obtain rfl : mm' = mm := by omega
    obtain ⟨-, h12⟩ := rowV_fun hrow h8
    have h13 := List.append_cancel_left h12
    subst h13
    refine opOk_val (v := .slice (some ⟨g, 0, none⟩) (n + k) (n + mm')) (w' := w') ?_ (hpost w' h10 h11)
    unfold execOp
    simp only [ho, resolve, invoke, builtin, Sem.run_bind, Sem.run_pure, Result.andThen_ok, List.map_toArray, List.map_cons, List.map_nil, hr]
/-- What an append of one chunk makes. -/
def AppCk (B eC e n : Nat) (l : List Value) (c : Chk) : Value → World → Prop := fun v w => ∃ s, OwnK w B eC 3 v (n + 1) (l ++ chkCell c s) ∧ Own w B e s c.b
theorem AppCk.gr (B eC e n : Nat) (l : List Value) (c : Chk) : Stab GrR (AppCk B eC e n l c) := fun _ _ _ ⟨s, h1, h2⟩ k => ⟨s, h1.mono k, h2.mono k⟩
theorem Own.gbR {w w' : World} {B e g : Nat} {s : Value} {l : List UInt8} (h : Own w B e s l) (hg : g < B) (hb : w.grownBy w' (some g)) : Own w' B e s l := by
  rcases h with ⟨rfl, rfl⟩ | ⟨g', sp, h1, rfl, hr, hm⟩
  · exact .inl ⟨rfl, rfl⟩
  · exact .inr ⟨g', sp, h1, rfl, hr.grown hb (fun e => by simp at e; omega), hm⟩
theorem CkF.gb {B e g : Nat} (c : Chk) (hg : g < B) : Stab (GbR g) (CkF B e c) := fun _ _ _ ⟨s, h1, h2⟩ k => ⟨s, h1, Own.gbR h2 hg k⟩
theorem NewCkF.gb {B eC e g : Nat} (c : Chk) (hg : g < B) : Stab (GbR g) (NewCkF B eC e c) := fun _ _ _ ⟨h, s, h1, h2, h3, h4⟩ k => ⟨h, s, h1, h2, h3.grown k (fun e => by simp at e; omega), Own.gbR h4 hg k⟩
theorem NewCkF.rdL {B eC e : Nat} {c : Chk} {v : Value} {w : World} (h : NewCkF B eC e c v w) : ∃ s, RdL w 3 v 1 (chkCell c s) ∧ Own w B e s c.b := by
  obtain ⟨h0, s, rfl, h2, h3, h4⟩ := h
  exact ⟨s, (rdK_row h3 (n := 1) (K := 3) rfl (by unfold maxLen; omega)).lax, h4⟩
theorem chunksOwnS_mk {n₀ eC eB : Nat} {w : World} {v s : Value} {cs : List Chk} {ss : List Value} {c : Chk} (h1 : cs.length = ss.length) (hn : OwnK w n₀ eC 3 v (cs.length + 1) (chkCells cs ss ++ chkCell c s)) (h3 : ∀ i (_ : i < cs.length) (_ : i < ss.length), Own w n₀ eB ss[i] cs[i].b)
    (hs : Own w n₀ eB s c.b) : ChunksOwnS n₀ eC eB w v (cs ++ [c]) (ss ++ [s]) := by
  refine ⟨by simp [h1], by rw [chkCells_snoc _ _ _ _ h1, List.length_append]; exact hn, fun i a b => ?_⟩
  by_cases hi : i < cs.length
  · have e1 : (ss ++ [s])[i] = ss[i]'(by omega) := List.getElem_append_left (by omega)
    have e2 : (cs ++ [c])[i] = cs[i] := List.getElem_append_left hi
    rw [e1, e2]
    exact h3 i hi (by omega)
  · have hi2 : i = cs.length := by
      simp at a
      omega
    subst hi2
    have e1 : (ss ++ [s])[cs.length] = s := by simp [h1]
    have e2 : (cs ++ [c])[cs.length] = c := by simp
    rw [e1, e2]
    exact hs
theorem own_one_cell {w : World} {B e : Nat} {s : Value} {c : Chk} (h : Own w B e s c.b) : ∀ u ∈ chkCell c s, u.oneCell' = true := fun u hu => by
  simp only [chkCell, List.mem_cons, List.not_mem_nil, or_false] at hu
  rcases hu with rfl | rfl | rfl
  · rfl
  · rfl
  · obtain ⟨p, q, hh, -⟩ := h.rd
    rw [hh]
    rfl
/-- The chunks of PacketAlone. -/
def kChk (kinds : List UInt8) (j : Nat) : Chk := ⟨kinds.getD j 0, 0, List.replicate (j % 9) 0⟩
def kChks (kinds : List UInt8) (i : Nat) : List Chk := (List.range i).map (kChk kinds)
theorem kChks_length (kinds : List UInt8) (i : Nat) : (kChks kinds i).length = i := by simp [kChks]
theorem kChks_succ (kinds : List UInt8) (i : Nat) : kChks kinds (i + 1) = kChks kinds i ++ [kChk kinds i] := by simp [kChks, List.range_succ]
theorem kChks_short (kinds : List UInt8) (i : Nat) : ∀ c ∈ kChks kinds i, c.b.length ≤ 8 := by
  intro c hc
  simp only [kChks, List.mem_map] at hc
  obtain ⟨j, -, rfl⟩ := hc
  show (List.replicate (j % 9) (0 : UInt8)).length ≤ 8
  rw [List.length_replicate]
  omega
/-- How many must stand alone. -/
def alones (cs : List Chk) : Nat := (cs.filter fun c => aloneB c.k).length
theorem alones_snoc (cs : List Chk) (c : Chk) : alones (cs ++ [c]) = alones cs + if aloneB c.k = true then 1 else 0 := by
  unfold alones
  rw [List.filter_append, List.length_append]
  congr 1
  by_cases h : aloneB c.k = true
  · simp [h]
  · simp [h]
theorem alones_le (cs : List Chk) : alones cs ≤ cs.length := List.length_filter_le _ _
theorem may_alones (cs : List Chk) (h : ∀ c ∈ cs, c.b.length ≤ 65531) : mayB cs = (decide (0 < cs.length) && (decide (alones cs = 0) || decide (cs.length ≤ 1))) := by
  unfold mayB
  congr 1
  by_cases h1 : cs.length ≤ 1
  · rw [decide_eq_true h1, Bool.or_true]
    have : cs.any (wrongB cs.length) = false := by
      rw [List.any_eq_false]
      intro c hc
      unfold wrongB
      rw [decide_eq_false (by have := h c hc; omega), decide_eq_false (by omega : ¬ 1 < cs.length)]
      simp
    rw [this]
    rfl
  · rw [decide_eq_false h1, Bool.or_false]
    by_cases h2 : alones cs = 0
    · rw [decide_eq_true h2]
      have hn : ∀ c ∈ cs, aloneB c.k = false := by
        intro c hc
        unfold alones at h2
        have h3 := List.length_eq_zero_iff.1 h2
        by_cases e : aloneB c.k = true
        · have : c ∈ cs.filter fun c => aloneB c.k := List.mem_filter.2 ⟨hc, e⟩
          rw [h3] at this
          simp at this
        · simpa using e
      have : cs.any (wrongB cs.length) = false := by
        rw [List.any_eq_false]
        intro c hc
        unfold wrongB
        rw [decide_eq_false (by have := h c hc; omega), hn c hc]
        simp
      rw [this]
      rfl
    · rw [decide_eq_false h2]
      have : cs.any (wrongB cs.length) = true := by
        rw [List.any_eq_true]
        unfold alones at h2
        obtain ⟨c, hc⟩ := List.exists_mem_of_length_pos (Nat.pos_of_ne_zero h2)
        obtain ⟨hc1, hc2⟩ := List.mem_filter.1 hc
        refine ⟨c, hc1, ?_⟩
        unfold wrongB
        rw [hc2, decide_eq_true (by omega : 1 < cs.length)]
        simp
      rw [this]
      rfl
theorem sizes_short : ∀ (cs : List Chk), (∀ c ∈ cs, c.b.length ≤ 8) → sizesN cs ≤ 15 * cs.length
  | [], _ => by simp [sizesN]
  | c :: cs, h => by
    have h1 := sizes_short cs (fun x hx => h x (List.mem_cons_of_mem _ hx))
    have h2 : sizeC c ≤ 15 := by
      rw [sizeC]
      have := roundN_lt c.b.length
      have := h c List.mem_cons_self
      omega
    rw [sizesN_cons, List.length_cons]
    omega
theorem bytes_some (p : Pkt) : decide (0 < p.bytes.length) = mayB p.cs := by
  cases hm : mayB p.cs
  · rw [Pkt.bytes, if_neg (by rw [hm]; simp)]
    rfl
  · rw [Pkt.bytes_length p hm]
    unfold Pkt.size
    exact decide_eq_true (by omega)
end Go.FL

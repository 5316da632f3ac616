/- Regions that draw their order, whose last operation waits for all the others and writes a slot that they read. Conditions: none. No program in sight. -/
import Derived.Test.YtfiblhdejglpaaaRegGr
namespace Go.FL
open Go.RowKit

def lastOk (l : List Oper) : Bool := match l[l.length - 1]? with
  | none => true
  | some o => (List.range (l.length - 1)).all fun j => o.after.any fun e => e.on == j && Region.binds .any e
theorem lastOk_of {l : List Oper} (h : lastOk l = true) : ∀ o, l[l.length - 1]? = some o → ∀ j, j < l.length - 1 → ∃ e ∈ o.after, e.on = j ∧ Region.binds .any e = true := by
  intro o ho j hj
  simp only [lastOk, ho, List.all_eq_true] at h
  have := h j (List.mem_range.2 hj)
  rw [Array.any_eq_true'] at this
  obtain ⟨e, he, h1⟩ := this
  simp only [Bool.and_eq_true, beq_iff_eq] at h1
  exact ⟨e, he, h1⟩
section
variable {P : Program} {R : World → World → Prop} {S : Nat → Value → World → Prop} {l : List Oper} {Q : Exit → Act → World → Prop} {a0 : Act} {w0 : World}

theorem wpAny_growL (Rrefl : ∀ a, R a a) (Rtrans : ∀ a b c, R a b → R b c → R a c) (Sstab : ∀ i v w w', S i v w → R w w' → S i v w')
    (hn : (l.filterMap (·.dst)).Nodup) (hb : ∀ d ∈ l.filterMap (·.dst), d < a0.tmps.size)
    {Φ : (Operand → Value) → Prop} (hΦ : ∀ listed a w, RInv S l a0 listed a w → (∀ t, (∀ o ∈ l.dropLast, o.dst ≠ some t) → a.tmps[t]? = a0.tmps[t]?) → Φ a.eval)
    (hlast : ∀ o, l[l.length - 1]? = some o → ∀ j, j < l.length - 1 → ∃ e ∈ o.after, e.on = j ∧ Region.binds .any e = true)
    (H : AllOps P Φ R S (l.map (·.dst)) w0 l 0)
    (hQ : ∀ (vals : Nat → Value) (w : World), R w0 w → (∀ i, i < l.length → S i (vals i) w) → Q .normal (fillFrom vals l 0 a0) w)
    (hx : lexOk l = true) :
    ∀ (fuel : Nat) (listed : Array Bool) (a : Act) (w : World), R w0 w → RInv S l a0 listed a w → (listed.getD (l.length - 1) false = true → ∀ j, j < l.length → listed.getD j false = true) → (listed.getD (l.length - 1) false = false → ∀ t, (∀ o ∈ l.dropLast, o.dst ≠ some t) → a.tmps[t]? = a0.tmps[t]?) →
      ((List.range l.length).filter fun i => !listed.getD i false).length ≤ fuel → wpAny P .any l.toArray Q fuel listed a w := by
  have fin : ∀ (listed : Array Bool) (a : Act) (w : World), R w0 w → RInv S l a0 listed a w → (∀ i, i < l.length → listed.getD i false = true) → Q .normal a w := by
    intro listed a w hR hI hall
    have hch : ∀ i, ∃ v, (∀ (o : Oper) (d : Nat), l[i]? = some o → o.dst = some d → v = a.tmps.getD d undef) ∧ (i < l.length → S i v w) := by
      intro i
      cases hi : l[i]? with
      | none =>
        have : ¬ i < l.length := by simpa using hi
        exact ⟨undef, fun o d h => by simp at h, fun h => absurd h this⟩
      | some o =>
        have hlt : i < l.length := by
          rcases Nat.lt_or_ge i l.length with h | h
          · exact h
          · simp [List.getElem?_eq_none h] at hi
        have hd := hI.done i o hi (hall i hlt)
        cases hdst : o.dst with
        | none =>
          rw [hdst] at hd
          obtain ⟨v, hv⟩ := hd
          exact ⟨v, (fun o' d h h' => by simp at h; subst h; rw [hdst] at h'; cases h'), fun _ => hv⟩
        | some d =>
          rw [hdst] at hd
          exact ⟨_, (fun o' d' h h' => by simp at h; subst h; rw [hdst] at h'; cases h'; rfl), fun _ => hd⟩
    have hvals : ∃ vals : Nat → Value, ∀ i, (∀ (o : Oper) (d : Nat), l[i]? = some o → o.dst = some d → vals i = a.tmps.getD d undef) ∧ (i < l.length → S i (vals i) w) :=
      ⟨fun i => (hch i).choose, fun i => (hch i).choose_spec⟩
    obtain ⟨vals, hv⟩ := hvals
    rw [hI.isFill hn hb vals (fun i o d h h' => (hv i).1 o d h h')]
    exact hQ vals w hR (fun i hi => (hv i).2 hi)
  intro fuel
  induction fuel with
  | zero =>
    intro listed a w hR hI hLa hLb hc
    have hall : ∀ i, i < l.length → listed.getD i false = true := by
      intro i hi
      have h0 : ((List.range l.length).filter fun i => !listed.getD i false) = [] := List.eq_nil_of_length_eq_zero (by omega)
      rw [List.filter_eq_nil_iff] at h0
      have := h0 i (List.mem_range.2 hi)
      simpa using this
    refine ⟨?_, fin listed a w hR hI hall⟩
    unfold Region.ready
    rw [List.filter_eq_nil_iff]
    intro i hi
    have hi' : i < l.length := by simpa using hi
    have h1 := hall i hi'
    have h2 : listed.getD i true = true := by
      have hs : i < listed.size := by rw [hI.lsize]; exact hi'
      simp [Array.getD_eq_getD_getElem?, hs] at h1 ⊢
      exact h1
    simp [h2]
  | succ fuel ih =>
    intro listed a w hR hI hLa hLb hc
    refine ⟨fun h => fin listed a w hR hI (all_of_ready_nil hx listed hI.lsize h), fun i hi => ?_⟩
    obtain ⟨hun, o, ho, haft⟩ := mem_ready' hi
    have hil : l[i]? = some o := by simpa using ho
    have hlt : i < l.length := by
      rcases Nat.lt_or_ge i l.length with h | h
      · exact h
      · simp [List.getElem?_eq_none h] at hil
    have hunf : listed.getD i false = false := by
      have hs : i < listed.size := by rw [hI.lsize]; exact hlt
      simp [Array.getD_eq_getD_getElem?, hs] at hun ⊢
      exact hun
    have hdst : ∀ j, (l.map (·.dst)).getD j none = (l[j]?).bind (·.dst) := by
      intro j
      simp [List.getD_eq_getElem?_getD, List.getElem?_map]
      cases l[j]? <;> rfl
    have hdeps : depFacts (l.map (·.dst)) S a.eval w (depsOf o) := by
      have hone : ∀ j ∈ depsOf o, j < l.length ∧ listed.getD j false = true := by
        intro j hj
        unfold depsOf at hj
        obtain ⟨e, he, hej⟩ := List.mem_filterMap.1 hj
        by_cases hbd : Region.binds .any e = true
        · simp [hbd] at hej
          subst hej
          have hl := haft e (by simpa using he) hbd
          have hjl : e.on < l.length := by
            rw [← hI.lsize]
            rcases Nat.lt_or_ge e.on listed.size with h | h
            · exact h
            · simp [Array.getD_eq_getD_getElem?, Array.getElem?_eq_none h] at hl
          exact ⟨hjl, hl⟩
        · simp [hbd] at hej
      generalize depsOf o = dl at hone
      induction dl with
      | nil => trivial
      | cons j r ihr =>
        refine ⟨?_, ihr (fun j' hj' => hone j' (List.mem_cons_of_mem _ hj'))⟩
        obtain ⟨hjl, hlj⟩ := hone j List.mem_cons_self
        rw [hdst, List.getElem?_eq_getElem hjl]
        have hd := hI.done j l[j] (List.getElem?_eq_getElem hjl) hlj
        cases hdj : l[j].dst with
        | none => simp [hdj]
        | some d =>
          rw [hdj] at hd
          simp only [Option.bind_some, hdj]
          exact hd
    have hst := AllOps_get l 0 H i o hil a.eval w (hΦ listed a w hI (hLb (by
      cases hq : listed.getD (l.length - 1) false
      · rfl
      · have := hLa hq i hlt
        rw [hunf] at this
        cases this))) hR hdeps
    rw [Nat.zero_add] at hst
    have next : ∀ (v : Value) (w' : World), S i v w' → R w w' → wpAny P .any l.toArray Q fuel (listed.setIfInBounds i true) (a.put o.dst v) w' := by
      intro v w' hS hRw
      refine ih (listed.setIfInBounds i true) (a.put o.dst v) w' (Rtrans _ _ _ hR hRw) ?_ ?_ ?_ ?_
      · refine ⟨by rw [put_size, hI.size], by rw [put_defers, hI.defers], ?_, ?_, by simp [hI.lsize]⟩
        · intro j oj hj hlj
          by_cases hji : j = i
          · subst hji
            rw [hil] at hj
            cases hj
            cases hdst : o.dst with
            | none => exact ⟨v, hS⟩
            | some d =>
              have hlt' : d < a.tmps.size := by rw [hI.size]; exact hb d (List.mem_filterMap.2 ⟨o, List.mem_of_getElem? hil, hdst⟩)
              simp only [Array.getD_eq_getD_getElem?, put_same a d v hlt', Option.getD_some]
              exact hS
          · have hlj' : listed.getD j false = true := by
              simpa [Array.getD_eq_getD_getElem?, Array.getElem?_setIfInBounds_ne (Ne.symm hji)] using hlj
            have hd := hI.done j oj hj hlj'
            cases hdst : oj.dst with
            | none =>
              rw [hdst] at hd
              obtain ⟨u, hu⟩ := hd
              exact ⟨u, Sstab _ _ _ _ hu hRw⟩
            | some d =>
              rw [hdst] at hd
              have hne : o.dst ≠ some d := by
                intro he
                have h1 := fillFrom_at (fun n => if n = i then .bool true else .bool false) l 0 a0 hn hb i o d hil he
                have h2 := fillFrom_at (fun n => if n = i then .bool true else .bool false) l 0 a0 hn hb j oj d hj hdst
                rw [h1] at h2
                simp [hji] at h2
              simp only [Array.getD_eq_getD_getElem?, put_other a o.dst v d hne]
              simp only [Array.getD_eq_getD_getElem?] at hd
              exact Sstab _ _ _ _ hd hRw
        · intro t ht
          rw [put_other a o.dst v t (ht o (List.mem_of_getElem? hil)), hI.other t ht]
      · intro hq j hj
        have hs : i < listed.size := by rw [hI.lsize]; exact hlt
        by_cases hji : j = i
        · subst hji
          simp [Array.getD_eq_getD_getElem?, hs]
        · have hjl : listed.getD j false = true := by
            by_cases hil2 : i = l.length - 1
            · obtain ⟨e, he, hej, hbd⟩ := hlast o (by rw [← hil2]; exact hil) j (by omega)
              have hl := haft e (by simpa using he) hbd
              rw [hej] at hl
              have hjs : j < listed.size := by rw [hI.lsize]; exact hj
              simp [Array.getD_eq_getD_getElem?, hjs] at hl ⊢
              exact hl
            · have hq2 : listed.getD (l.length - 1) false = true := by
                simpa [Array.getD_eq_getD_getElem?, Array.getElem?_setIfInBounds_ne hil2] using hq
              exact hLa hq2 j hj
          simpa [Array.getD_eq_getD_getElem?, Array.getElem?_setIfInBounds_ne (Ne.symm hji)] using hjl
      · intro hq t ht
        have hil2 : i ≠ l.length - 1 := by
          rintro rfl
          have hs : l.length - 1 < listed.size := by rw [hI.lsize]; exact hlt
          simp [Array.getD_eq_getD_getElem?, hs] at hq
        have hq2 : listed.getD (l.length - 1) false = false := by
          simpa [Array.getD_eq_getD_getElem?, Array.getElem?_setIfInBounds_ne hil2] using hq
        have hod : o ∈ l.dropLast := by
          rw [List.getElem?_eq_getElem hlt] at hil
          cases hil
          rw [List.mem_iff_getElem]
          exact ⟨i, by simp; omega, by simp⟩
        rw [put_other a o.dst v t (ht o hod)]
        exact hLb hq2 t ht
      · have hlt2 : ((List.range l.length).filter fun j => !(listed.setIfInBounds i true).getD j false).length < ((List.range l.length).filter fun j => !listed.getD j false).length := by
          rw [← List.countP_eq_length_filter, ← List.countP_eq_length_filter]
          refine countP_lt_of (List.range l.length) i (List.mem_range.2 hlt) (by simp [hunf]) ?_ ?_
          · have hs : i < listed.size := by rw [hI.lsize]; exact hlt
            simp [Array.getD_eq_getD_getElem?, hs]
          · intro j hj
            by_cases hji : i = j
            · subst hji; simp [hunf]
            · simpa [Array.getD_eq_getD_getElem?, Array.getElem?_setIfInBounds_ne hji] using hj
        omega
    have hy : ∀ (j : Nat) (b : Bool), (yielded l.toArray a.tmps j == some b) = true ↔ ∃ d, (l.map (·.dst)).getD j none = some d ∧ a.eval (.tmp d) = .bool b := by
      intro j b
      rw [hdst]
      unfold yielded
      rw [List.getElem?_toArray]
      cases hd : (l[j]?).bind (·.dst) with
      | none => simp
      | some d =>
        have hlt' : d < a.tmps.size := by
          rw [hI.size]
          cases hlj : l[j]? with
          | none => simp [hlj] at hd
          | some oj =>
            simp [hlj] at hd
            exact hb d (List.mem_filterMap.2 ⟨oj, List.mem_of_getElem? hlj, hd⟩)
        have he : a.eval (.tmp d) = a.tmps[d] := by simp [Act.eval, Array.getD_eq_getD_getElem?, hlt']
        simp only [Option.bind_some, Array.getElem?_eq_getElem hlt', Option.some.injEq, exists_eq_left', he]
        cases a.tmps[d] <;> simp
    unfold wpOp
    rw [ho]
    unfold guardF at hst
    show if Region.wanted o (yielded l.toArray a.tmps) = true then _ else _
    unfold Region.wanted
    cases hg : o.guard with
    | none =>
      rw [hg] at hst
      simp only [if_true]
      exact .inl (opOk_wp hst (fun v w' h => next v w' h.1 h.2))
    | some jb =>
      obtain ⟨j, b⟩ := jb
      rw [hg] at hst
      simp only at hst ⊢
      by_cases hw : (yielded l.toArray a.tmps j == some b) = true
      · rw [if_pos hw]
        obtain ⟨d, hd, he⟩ := (hy j b).1 hw
        rw [hd] at hst
        exact .inl (opOk_wp (hst.1 he) (fun v w' h => next v w' h.1 h.2))
      · rw [if_neg hw]
        refine next undef w ?_ (Rrefl w)
        cases hd : (l.map (·.dst)).getD j none with
        | none => rw [hd] at hst; exact hst
        | some d =>
          rw [hd] at hst
          exact hst.2 (fun he => hw ((hy j b).2 ⟨d, hd, he⟩))

/-- The region's law, where the last operation waits for all the others: what it alone writes stands till then. -/
theorem wp_region_growL {id : Nat} (hm : P.follows .mixedOrders = true) (hds : dstsOk l a0.tmps.size = true) (hx : lexOk l = true) (hla : lastOk l = true)
    (Rrefl : ∀ a, R a a) (Rtrans : ∀ a b c, R a b → R b c → R a c) (Rdraw : ∀ a, R a a.drew) (Sstab : ∀ i v w w', S i v w → R w w' → S i v w')
    (H : AllOps P (RhoAt a0 l.dropLast) R S (l.map (·.dst)) w0 l 0)
    (hQ : ∀ (vals : Nat → Value) (w : World), R w0 w → (∀ i, i < l.length → S i (vals i) w) → Q .normal (fillFrom vals l 0 a0) w) :
    (Code.region id l.toArray true).wp P Q a0 w0 := by
  simp only [dstsOk, Bool.and_eq_true, decide_eq_true_eq, List.all_eq_true] at hds
  refine wp_region_any hm ?_
  have hΦ : ∀ listed a w, RInv S l a0 listed a w → (∀ t, (∀ o ∈ l.dropLast, o.dst ≠ some t) → a.tmps[t]? = a0.tmps[t]?) → RhoAt a0 l.dropLast a.eval := fun listed a w hI hT => ⟨RhoOk.act a, fun t ht => by
    have h1 := hT t (fun o ho he => by
      have := List.all_eq_true.1 ht o ho
      rw [he] at this
      simp at this)
    simp [Act.eval, Array.getD_eq_getD_getElem?, h1]⟩
  refine wpAny_growL Rrefl Rtrans Sstab hds.1 hds.2 hΦ (lastOk_of hla) H hQ hx _ _ _ _ (Rdraw w0) ?_ ?_ (fun _ _ _ => rfl) ?_
  · refine ⟨rfl, rfl, ?_, fun _ _ => rfl, by simp⟩
    intro i o _ h
    simp [Array.getD_eq_getD_getElem?, Array.getElem?_replicate] at h
    split at h <;> simp at h
  · intro h
    simp [Array.getD_eq_getD_getElem?, Array.getElem?_replicate] at h
    split at h <;> simp at h
  · have := List.length_filter_le (fun i => !(Array.replicate l.toArray.size false).getD i false) (List.range l.length)
    simpa using this
end
theorem wp_region_grL {P : Program} {Q : Exit → Act → World → Prop} {l : List Oper} {a0 : Act} {w0 : World} {id : Nat} (L : List (Value → World → Prop)) (hm : P.follows .mixedOrders = true) (hds : dstsOk l a0.tmps.size = true) (hx : lexOk l = true) (hla : lastOk l = true)
    (hst : StabAll GrR L) (H : AllOps P (RhoAt a0 l.dropLast) GrR (factAt L) (l.map (·.dst)) w0 l 0)
    (hQ : ∀ (vals : Nat → Value) (w : World), GrR w0 w → (∀ i, i < l.length → factAt L i (vals i) w) → Q .normal (fillFrom vals l 0 a0) w) : (Code.region id l.toArray true).wp P Q a0 w0 :=
  wp_region_growL hm hds hx hla GrR.refl (fun _ _ _ => gr_trans) (fun a => (Below.refl _ _).drew) (factAt_stab hst) H hQ
end Go.FL

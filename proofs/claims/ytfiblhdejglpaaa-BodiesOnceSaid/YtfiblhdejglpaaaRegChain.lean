/- Regions that draw their order, some of whose operations, one behind the other, change what they share; the last operations, which wait for all the others and for one another, are walked by themselves. Conditions: none. No program in sight. -/
import Derived.Test.YtfiblhdejglpaaaRegLast
namespace Go.FL
open Go.RowKit

/-- The how manieth writer operation k is. -/
def wrAt : List Nat → Nat → Option Nat
  | [], _ => none
  | x :: r, k => if k = x then some 0 else (wrAt r k).map (· + 1)
theorem wrAt_none : ∀ {ws : List Nat} {k : Nat}, wrAt ws k = none → k ∉ ws
  | [], _, _ => by simp
  | x :: r, k, h => by
    unfold wrAt at h
    split at h
    · cases h
    · rename_i hne
      simp at h
      simp only [List.mem_cons, not_or]
      exact ⟨hne, wrAt_none h⟩
theorem wrAt_some : ∀ {ws : List Nat} {k j : Nat}, wrAt ws k = some j → ws[j]? = some k
  | [], _, _, h => by cases h
  | x :: r, k, j, h => by
    unfold wrAt at h
    split at h
    · rename_i he
      cases h
      simp [he]
    · cases hq : wrAt r k with
      | none => simp [hq] at h
      | some j' =>
        simp [hq] at h
        subst h
        simpa using wrAt_some hq

/-- Operation t waits for operation j, through others too. -/
def anc (l : List Oper) : Nat → Nat → Nat → Bool
  | 0, _, _ => false
  | n + 1, t, j => match l[t]? with
    | none => false
    | some o => (depsOf o).contains j || (depsOf o).any fun e => anc l n e j
/-- What is done is done with all that it waits for. -/
def Closed (l : List Oper) (listed : Array Bool) : Prop := ∀ t o, l[t]? = some o → listed.getD t false = true → ∀ e ∈ depsOf o, listed.getD e false = true
theorem anc_of {l : List Oper} {listed : Array Bool} (hc : Closed l listed) : ∀ (n t j : Nat), anc l n t j = true → (∀ o, l[t]? = some o → ∀ e ∈ depsOf o, listed.getD e false = true) → listed.getD j false = true
  | 0, _, _, h, _ => by cases h
  | n + 1, t, j, h, hd => by
    unfold anc at h
    cases ho : l[t]? with
    | none => simp [ho] at h
    | some o =>
      simp only [ho, Bool.or_eq_true] at h
      rcases h with h | h
      · exact hd o ho j (by simpa using h)
      · rw [List.any_eq_true] at h
        obtain ⟨e, he, hj⟩ := h
        refine anc_of hc n e j hj (fun o' ho' e' he' => hc e o' ho' (hd o ho e he) e' he')
/-- From operation n on each waits for all ahead of it. -/
def tailOk (l : List Oper) (n : Nat) : Bool := (List.range l.length).all fun t => decide (t < n) || (List.range t).all fun j => anc l l.length t j
theorem tailOk_of {l : List Oper} {n : Nat} (h : tailOk l n = true) : ∀ t, n ≤ t → t < l.length → ∀ j, j < t → anc l l.length t j = true := by
  intro t h1 h2 j hj
  simp only [tailOk, List.all_eq_true] at h
  have := h t (List.mem_range.2 h2)
  simp only [Bool.or_eq_true, decide_eq_true_eq, List.all_eq_true] at this
  rcases this with h | h
  · omega
  · exact h j (List.mem_range.2 hj)
theorem ready_deps {l : List Oper} {listed : Array Bool} (hs : listed.size = l.length) (hlex : lexOk l = true) {i : Nat} {o : Oper} (hil : l[i]? = some o) (haft : ∀ e ∈ o.after, Region.binds .any e = true → listed.getD e.on false = true) : ∀ e ∈ depsOf o, listed.getD e false = true := by
  intro j hj
  unfold depsOf at hj
  obtain ⟨e, he, hej⟩ := List.mem_filterMap.1 hj
  by_cases hbd : Region.binds .any e = true
  · simp [hbd] at hej
    subst hej
    exact haft e (by simpa using he) hbd
  · simp [hbd] at hej

/-- The tail, its order forced. -/
theorem wpAny_tail {P : Program} {Q : Exit → Act → World → Prop} {l : List Oper} {n : Nat} (hlex : lexOk l = true) (htl : tailOk l n = true) :
    ∀ (k s : Nat) (fuel : Nat) (listed : Array Bool) (a : Act) (w : World), l.length - (n + s) = k → n + s ≤ l.length → listed.size = l.length → (∀ j, j < l.length → (listed.getD j false = true ↔ j < n + s)) → k ≤ fuel →
      wpList P l.toArray Q (l.drop (n + s)) a w → wpAny P .any l.toArray Q fuel listed a w
  | 0, s, fuel, listed, a, w, hk, hle, hs, hl, hf, h => by
    have hz : l.drop (n + s) = [] := List.drop_eq_nil_of_le (by omega)
    rw [hz] at h
    refine wpAny_done ?_ h fuel
    unfold Region.ready
    rw [List.filter_eq_nil_iff]
    intro j hj
    have hj' : j < l.length := by simpa using hj
    have h1 := (hl j hj').2 (by omega)
    have h2 : listed.getD j true = true := by
      have hjs : j < listed.size := by omega
      rw [Array.getD_eq_getD_getElem?, Array.getElem?_eq_getElem hjs] at h1 ⊢
      exact h1
    simp [h2]
  | k + 1, s, 0, listed, a, w, hk, hle, hs, hl, hf, h => by omega
  | k + 1, s, fuel + 1, listed, a, w, hk, hle, hs, hl, hf, h => by
    have hlt : n + s < l.length := by omega
    have hcl : Closed l listed := by
      intro t o ho ht e he
      have htl' : t < l.length := by
        rcases Nat.lt_or_ge t l.length with h | h
        · exact h
        · simp [List.getElem?_eq_none h] at ho
      have h1 := (hl t htl').1 ht
      unfold depsOf at he
      obtain ⟨x, hx, hxe⟩ := List.mem_filterMap.1 he
      by_cases hbd : Region.binds .any x = true
      · simp [hbd] at hxe
        subst hxe
        unfold lexOk at hlex
        rw [List.all_eq_true] at hlex
        have h3 := hlex (o, t) (List.mem_zipIdx_iff_getElem?.2 ho)
        rw [Array.all_eq_true'] at h3
        have h4 := h3 x (by simpa using hx)
        simp [hbd] at h4
        exact (hl _ (by omega)).2 (by omega)
      · simp [hbd] at hxe
    have hunl : listed.getD (n + s) false = false := by
      cases hq : listed.getD (n + s) false
      · rfl
      · have := (hl _ hlt).1 hq
        omega
    refine ⟨fun h0 => ?_, fun i hi => ?_⟩
    · have := all_of_ready_nil hlex listed hs h0 (n + s) hlt
      rw [hunl] at this
      cases this
    · obtain ⟨hun, o, ho, haft⟩ := mem_ready' hi
      have hil : l[i]? = some o := by simpa using ho
      have hli : i < l.length := by
        rcases Nat.lt_or_ge i l.length with h | h
        · exact h
        · simp [List.getElem?_eq_none h] at hil
      have hge : n + s ≤ i := by
        rcases Nat.lt_or_ge i (n + s) with h | h
        · have h1 := (hl i hli).2 h
          have hjs : i < listed.size := by omega
          rw [Array.getD_eq_getD_getElem?, Array.getElem?_eq_getElem hjs] at h1 hun
          simp at h1 hun
          rw [h1] at hun
          cases hun
        · exact h
      have hieq : i = n + s := by
        rcases Nat.lt_or_ge (n + s) i with h | h
        · exfalso
          have ha := tailOk_of htl i (by omega) hli (n + s) h
          have := anc_of hcl _ _ _ ha (fun o' ho' => by
            rw [hil] at ho'
            cases ho'
            exact ready_deps hs hlex hil (fun e he hb => haft e (by simpa using he) hb))
          rw [hunl] at this
          cases this
        · omega
      subst hieq
      have hd : l.drop (n + s) = o :: l.drop (n + (s + 1)) := by
        rw [List.drop_eq_getElem_cons hlt]
        congr 1
        exact Option.some.inj ((List.getElem?_eq_getElem hlt).symm.trans hil)
      rw [hd] at h
      have hop : wpOp P l.toArray Q (n + s) (wpList P l.toArray Q (l.drop (n + (s + 1)))) a w := by
        unfold wpOp
        rw [ho]
        exact h
      refine wpOp_mono (fun a' w' h' => wpAny_tail hlex htl k (s + 1) fuel (listed.setIfInBounds (n + s) true) a' w' (by omega) (by omega) (by simp [hs]) ?_ (by omega) h') hop
      intro j hj
      by_cases hji : n + s = j
      · subst hji
        have hjs : n + s < listed.size := by omega
        simp [Array.getD_eq_getD_getElem?, hjs]
      · have := hl j hj
        rw [Array.getD_eq_getD_getElem?] at this
        rw [Array.getD_eq_getD_getElem?, Array.getElem?_setIfInBounds_ne hji, this]
        omega

/-- Each writer waits for the one ahead of it; all stand ahead of the last operation; none twice. -/
def chainOk (l : List Oper) (n : Nat) (ws : List Nat) : Bool :=
  decide ws.Nodup && ws.all (fun k => decide (k < n)) &&
  (List.range ws.length).all fun j => match ws[j]?, ws[j + 1]? with
    | some x, some y => (match l[y]? with | some o => o.after.any fun e => e.on == x && Region.binds .any e | none => false)
    | _, _ => true
theorem chainOk_of {l : List Oper} {n : Nat} {ws : List Nat} (h : chainOk l n ws = true) : ws.Nodup ∧ (∀ k ∈ ws, k < n) ∧ ∀ j x y, ws[j]? = some x → ws[j + 1]? = some y → ∀ o, l[y]? = some o → ∃ e ∈ o.after, e.on = x ∧ Region.binds .any e = true := by
  simp only [chainOk, Bool.and_eq_true, decide_eq_true_eq, List.all_eq_true] at h
  obtain ⟨⟨h1, h2⟩, h3⟩ := h
  refine ⟨h1, h2, fun j x y hx hy o ho => ?_⟩
  have hj : j < ws.length := by
    rcases Nat.lt_or_ge j ws.length with h | h
    · exact h
    · simp [List.getElem?_eq_none h] at hx
  have := h3 j (List.mem_range.2 hj)
  simp only [hx, hy, ho] at this
  rw [Array.any_eq_true'] at this
  obtain ⟨e, he, h4⟩ := this
  simp only [Bool.and_eq_true, beq_iff_eq] at h4
  exact ⟨e, he, h4⟩

/-- Each operation: one of the writers finds what they share as the ones ahead left it, and leaves it as the next wants it; any other one leaves it alone. -/
def AllOpsC (P : Program) (Φ : (Operand → Value) → Prop) (R R' : World → World → Prop) (J : Nat → World → Prop) (ws : List Nat) (S : Nat → Value → World → Prop) (ds : List (Option Tmp)) (w0 : World) : List Oper → Nat → Prop
  | [], _ => True
  | o :: r, k => (∀ (ρ : Operand → Value) (w : World), Φ ρ → R w0 w → depFacts ds S ρ w (depsOf o) →
      match wrAt ws k with
      | none => guardF ds o ρ (opOk P o ρ w fun v w' => S k v w' ∧ R' w w') (S k undef w)
      | some j => o.guard = none ∧ (J j w → opOk P o ρ w fun v w' => S k v w' ∧ R w w' ∧ J (j + 1) w')) ∧ AllOpsC P Φ R R' J ws S ds w0 r (k + 1)
theorem AllOpsC_get {P : Program} {Φ : (Operand → Value) → Prop} {R R' : World → World → Prop} {J : Nat → World → Prop} {ws : List Nat} {S : Nat → Value → World → Prop} {ds : List (Option Tmp)} {w0 : World} :
    ∀ (m : List Oper) (k : Nat), AllOpsC P Φ R R' J ws S ds w0 m k → ∀ i o, m[i]? = some o → ∀ (ρ : Operand → Value) (w : World), Φ ρ → R w0 w → depFacts ds S ρ w (depsOf o) →
      match wrAt ws (k + i) with
      | none => guardF ds o ρ (opOk P o ρ w fun v w' => S (k + i) v w' ∧ R' w w') (S (k + i) undef w)
      | some j => o.guard = none ∧ (J j w → opOk P o ρ w fun v w' => S (k + i) v w' ∧ R w w' ∧ J (j + 1) w')
  | [], _, _, i, o, h => by simp at h
  | o' :: r, k, hA, i, o, h => by
    cases i with
    | zero => simp at h; subst h; exact hA.1
    | succ i =>
      have := AllOpsC_get r (k + 1) hA.2 i o (by simpa using h)
      intro ρ w h0 h1 h2
      rw [show k + (i + 1) = k + 1 + i by omega]
      exact this ρ w h0 h1 h2

/-- The frame as it is in the midst of the front. -/
structure RInvC (S : Nat → Value → World → Prop) (f : List Oper) (a0 : Act) (listed : Array Bool) (a : Act) (w : World) : Prop where
  size : a.tmps.size = a0.tmps.size
  defers : a.defers = a0.defers
  done : ∀ (i : Nat) (o : Oper), f[i]? = some o → listed.getD i false = true → match o.dst with | some d => S i (a.tmps.getD d undef) w | none => ∃ v, S i v w
  other : ∀ t, (∀ o ∈ f, o.dst ≠ some t) → a.tmps[t]? = a0.tmps[t]?
theorem RInvC.toR {S : Nat → Value → World → Prop} {f : List Oper} {a0 : Act} {listed : Array Bool} {a : Act} {w : World} (h : RInvC S f a0 listed a w) : RInv S f a0 (Array.ofFn (n := f.length) fun i => listed.getD i.1 false) a w :=
  ⟨h.size, h.defers, fun i o hi hl => h.done i o hi (by
    have hlt : i < f.length := by
      rcases Nat.lt_or_ge i f.length with h | h
      · exact h
      · simp [List.getElem?_eq_none h] at hi
    simpa [Array.getD_eq_getD_getElem?, hlt] using hl), h.other, by simp⟩

section
variable {P : Program} {R R' : World → World → Prop} {J : Nat → World → Prop} {ws : List Nat} {S : Nat → Value → World → Prop} {f T : List Oper} {Q : Exit → Act → World → Prop} {a0 : Act} {w0 : World}

theorem wpAny_chain (Rrefl : ∀ a, R a a) (Rtrans : ∀ a b c, R a b → R b c → R a c) (Rsub : ∀ a b, R' a b → R a b) (R'refl : ∀ a, R' a a) (Jstab : ∀ c a b, J c a → R' a b → J c b) (Sstab : ∀ i v w w', S i v w → R w w' → S i v w')
    (hn : (f.filterMap (·.dst)).Nodup) (hb : ∀ d ∈ f.filterMap (·.dst), d < a0.tmps.size)
    {Φ : (Operand → Value) → Prop} (hΦ : ∀ listed a w, RInvC S f a0 listed a w → Φ a.eval)
    (htl : tailOk (f ++ T) f.length = true) (hT : T ≠ [])
    (hch : chainOk (f ++ T) f.length ws = true) (hgd : ∀ o ∈ f, ∀ j b, o.guard = some (j, b) → j < f.length)
    (H : AllOpsC P Φ R R' J ws S (f.map (·.dst)) w0 f 0)
    (hQ : ∀ (vals : Nat → Value) (w : World), R w0 w → J ws.length w → (∀ i, i < f.length → S i (vals i) w) → wpList P (f ++ T).toArray Q T (fillFrom vals f 0 a0) w)
    (hx : lexOk (f ++ T) = true) :
    ∀ (fuel : Nat) (listed : Array Bool) (a : Act) (w : World) (c : Nat), R w0 w → RInvC S f a0 listed a w → listed.size = f.length + T.length → (∀ j, f.length ≤ j → listed.getD j false = false) → Closed (f ++ T) listed →
      (∀ j x, ws[j]? = some x → (listed.getD x false = true ↔ j < c)) → c ≤ ws.length → J c w →
      ((List.range (f.length + T.length)).filter fun i => !listed.getD i false).length ≤ fuel → wpAny P .any (f ++ T).toArray Q fuel listed a w := by
  obtain ⟨hnd, hwlt, hwch⟩ := chainOk_of hch
  have hlen : (f ++ T).length = f.length + T.length := by simp
  have hTl : 0 < T.length := List.length_pos_iff.2 hT
  have fin : ∀ (listed : Array Bool) (a : Act) (w : World), R w0 w → J ws.length w → RInvC S f a0 listed a w → (∀ i, i < f.length → listed.getD i false = true) → wpList P (f ++ T).toArray Q T a w := by
    intro listed a w hR hJ hI hall
    have hch : ∀ i, ∃ v, (∀ (o : Oper) (d : Nat), f[i]? = some o → o.dst = some d → v = a.tmps.getD d undef) ∧ (i < f.length → S i v w) := by
      intro i
      cases hi : f[i]? with
      | none =>
        have : ¬ i < f.length := by simpa using hi
        exact ⟨undef, fun o d h => by simp at h, fun h => absurd h this⟩
      | some o =>
        have hlt : i < f.length := by
          rcases Nat.lt_or_ge i f.length with h | h
          · exact h
          · simp [List.getElem?_eq_none h] at hi
        have hd := hI.done i o hi (hall i hlt)
        cases hdst : o.dst with
        | none =>
          rw [hdst] at hd
          obtain ⟨v, hv⟩ := hd
          exact ⟨v, (fun o' d h h' => by simp at h; subst h; rw [hdst] at h'; cases h'), fun _ => hv⟩
        | some d =>
          rw [hdst] at hd
          exact ⟨_, (fun o' d' h h' => by simp at h; subst h; rw [hdst] at h'; cases h'; rfl), fun _ => hd⟩
    have hvals : ∃ vals : Nat → Value, ∀ i, (∀ (o : Oper) (d : Nat), f[i]? = some o → o.dst = some d → vals i = a.tmps.getD d undef) ∧ (i < f.length → S i (vals i) w) :=
      ⟨fun i => (hch i).choose, fun i => (hch i).choose_spec⟩
    obtain ⟨vals, hv⟩ := hvals
    rw [hI.toR.isFill hn hb vals (fun i o d h h' => (hv i).1 o d h h')]
    exact hQ vals w hR hJ (fun i hi => (hv i).2 hi)
  intro fuel
  induction fuel with
  | zero =>
    intro listed a w c hR hI hs hun hclo hc hcl hJ hf
    have h0 : ((List.range (f.length + T.length)).filter fun i => !listed.getD i false) = [] := List.eq_nil_of_length_eq_zero (by omega)
    rw [List.filter_eq_nil_iff] at h0
    have := h0 f.length (List.mem_range.2 (by omega))
    simp [hun f.length (Nat.le_refl _)] at this
  | succ fuel ih =>
    intro listed a w c hR hI hs hun hclo hc hcl hJ hf
    refine ⟨fun h => ?_, fun i hi => ?_⟩
    · have := all_of_ready_nil hx listed (by rw [hs, hlen]) h f.length (by omega)
      rw [hun f.length (Nat.le_refl _)] at this
      cases this
    obtain ⟨hunl, o, ho, haft⟩ := mem_ready' hi
    have hil : (f ++ T)[i]? = some o := by simpa using ho
    have hlt : i < f.length + T.length := by
      rcases Nat.lt_or_ge i (f ++ T).length with h | h
      · omega
      · simp [List.getElem?_eq_none h] at hil
    have hunf : listed.getD i false = false := by
      have hs' : i < listed.size := by rw [hs]; exact hlt
      simp [Array.getD_eq_getD_getElem?, hs'] at hunl ⊢
      exact hunl
    have hdl := ready_deps (by rw [hs, hlen]) hx hil (fun e he hb => haft e (by simpa using he) hb)
    by_cases hil2 : f.length ≤ i
    · have hall : ∀ j, j < i → listed.getD j false = true := by
        intro j hj
        exact anc_of hclo _ _ _ (tailOk_of htl i hil2 (by omega) j hj) (fun o' ho' => by
          rw [hil] at ho'
          cases ho'
          exact hdl)
      have hi0 : i = f.length := by
        rcases Nat.lt_or_ge f.length i with h | h
        · have h1 := hall f.length h
          rw [hun f.length (Nat.le_refl _)] at h1
          cases h1
        · omega
      subst hi0
      have hcw : c = ws.length := by
        rcases Nat.lt_or_ge c ws.length with h | h
        · have h1 : ws[c]? = some ws[c] := List.getElem?_eq_getElem h
          have h2 := (hc c _ h1).1 (hall _ (hwlt _ (List.mem_of_getElem? h1)))
          omega
        · omega
      rw [hcw] at hJ
      have hfin := fin listed a w hR hJ hI hall
      have hlist : ∀ j, j < (f ++ T).length → (listed.getD j false = true ↔ j < f.length + 0) := by
        intro j hj
        constructor
        · intro h
          rcases Nat.lt_or_ge j f.length with h' | h'
          · omega
          · rw [hun j h'] at h
            cases h
        · intro h
          exact hall j (by omega)
      have hgo := wpAny_tail (P := P) (Q := Q) hx htl ((f ++ T).length - (f.length + 0)) 0 (fuel + 1) listed a w rfl (by omega) (by rw [hs, hlen]) hlist ?_ (by simpa using hfin)
      · exact hgo.2 _ hi
      · have : ((List.range (f.length + T.length)).filter fun i => !listed.getD i false).length = T.length := by
          rw [List.range_add, List.filter_append, List.length_append, List.filter_eq_nil_iff.2 (fun j hj => by simp [hall j (List.mem_range.1 hj)]), List.filter_eq_self.2]
          · simp
          · intro j hj
            obtain ⟨k, _, rfl⟩ := List.mem_map.1 hj
            simp [hun (f.length + k) (by omega)]
        omega
    have hif : i < f.length := by omega
    have hfi : f[i]? = some o := by rwa [List.getElem?_append_left hif] at hil
    have hdst : ∀ j, (f.map (·.dst)).getD j none = (f[j]?).bind (·.dst) := by
      intro j
      simp [List.getD_eq_getElem?_getD, List.getElem?_map]
      cases f[j]? <;> rfl
    have hlexi : ∀ e ∈ o.after, Region.binds .any e = true → e.on < i := by
      unfold lexOk at hx
      rw [List.all_eq_true] at hx
      have h3 := hx (o, i) (List.mem_zipIdx_iff_getElem?.2 hil)
      rw [Array.all_eq_true'] at h3
      intro e he hbd
      simpa [hbd] using h3 e he
    have hdeps : depFacts (f.map (·.dst)) S a.eval w (depsOf o) := by
      have hone : ∀ j ∈ depsOf o, j < f.length ∧ listed.getD j false = true := by
        intro j hj
        unfold depsOf at hj
        obtain ⟨e, he, hej⟩ := List.mem_filterMap.1 hj
        by_cases hbd : Region.binds .any e = true
        · simp [hbd] at hej
          subst hej
          have hl := haft e (by simpa using he) hbd
          have hjl : e.on < f.length := by have := hlexi e (by simpa using he) hbd; omega
          have hjs : e.on < listed.size := by omega
          refine ⟨hjl, ?_⟩
          simp [Array.getD_eq_getD_getElem?, hjs] at hl ⊢
          exact hl
        · simp [hbd] at hej
      generalize depsOf o = dl at hone
      induction dl with
      | nil => trivial
      | cons j r ihr =>
        refine ⟨?_, ihr (fun j' hj' => hone j' (List.mem_cons_of_mem _ hj'))⟩
        obtain ⟨hjl, hlj⟩ := hone j List.mem_cons_self
        rw [hdst, List.getElem?_eq_getElem hjl]
        have hd := hI.done j f[j] (List.getElem?_eq_getElem hjl) hlj
        cases hdj : f[j].dst with
        | none => simp [hdj]
        | some d =>
          rw [hdj] at hd
          simp only [Option.bind_some, hdj]
          exact hd
    have hst := AllOpsC_get f 0 H i o hfi a.eval w (hΦ listed a w hI) hR hdeps
    rw [Nat.zero_add] at hst
    have next : ∀ (v : Value) (w' : World) (c' : Nat), S i v w' → R w w' → J c' w' → c' ≤ ws.length → (∀ j x, ws[j]? = some x → ((listed.setIfInBounds i true).getD x false = true ↔ j < c')) → wpAny P .any (f ++ T).toArray Q fuel (listed.setIfInBounds i true) (a.put o.dst v) w' := by
      intro v w' c' hS hRw hJ' hcl' hc'
      refine ih (listed.setIfInBounds i true) (a.put o.dst v) w' c' (Rtrans _ _ _ hR hRw) ?_ (by simp [hs]) ?_ ?_ hc' hcl' hJ' ?_
      · refine ⟨by rw [put_size, hI.size], by rw [put_defers, hI.defers], ?_, ?_⟩
        · intro j oj hj hlj
          by_cases hji : j = i
          · subst hji
            rw [hfi] at hj
            cases hj
            cases hdst : o.dst with
            | none => exact ⟨v, hS⟩
            | some d =>
              have hlt' : d < a.tmps.size := by rw [hI.size]; exact hb d (List.mem_filterMap.2 ⟨o, List.mem_of_getElem? hfi, hdst⟩)
              simp only [Array.getD_eq_getD_getElem?, put_same a d v hlt', Option.getD_some]
              exact hS
          · have hlj' : listed.getD j false = true := by
              simpa [Array.getD_eq_getD_getElem?, Array.getElem?_setIfInBounds_ne (Ne.symm hji)] using hlj
            have hd := hI.done j oj hj hlj'
            cases hdst : oj.dst with
            | none =>
              rw [hdst] at hd
              obtain ⟨u, hu⟩ := hd
              exact ⟨u, Sstab _ _ _ _ hu hRw⟩
            | some d =>
              rw [hdst] at hd
              have hne : o.dst ≠ some d := by
                intro he
                have h1 := fillFrom_at (fun n => if n = i then .bool true else .bool false) f 0 a0 hn hb i o d hfi he
                have h2 := fillFrom_at (fun n => if n = i then .bool true else .bool false) f 0 a0 hn hb j oj d hj hdst
                rw [h1] at h2
                simp [hji] at h2
              simp only [Array.getD_eq_getD_getElem?, put_other a o.dst v d hne]
              simp only [Array.getD_eq_getD_getElem?] at hd
              exact Sstab _ _ _ _ hd hRw
        · intro t ht
          rw [put_other a o.dst v t (ht o (List.mem_of_getElem? hfi)), hI.other t ht]
      · intro j hj
        have h1 := hun j hj
        rw [Array.getD_eq_getD_getElem?] at h1
        rw [Array.getD_eq_getD_getElem?, Array.getElem?_setIfInBounds_ne (by omega), h1]
      · intro t ot hto htl2 e he
        have hup : ∀ j, listed.getD j false = true → (listed.setIfInBounds i true).getD j false = true := by
          intro j h1
          by_cases hij : i = j
          · subst hij
            have hsi : i < listed.size := by omega
            simp [Array.getD_eq_getD_getElem?, hsi]
          · rw [Array.getD_eq_getD_getElem?] at h1
            rw [Array.getD_eq_getD_getElem?, Array.getElem?_setIfInBounds_ne hij, h1]
        by_cases hit : i = t
        · subst hit
          rw [hil] at hto
          cases hto
          exact hup _ (hdl e he)
        · refine hup _ (hclo t ot hto ?_ e he)
          rw [Array.getD_eq_getD_getElem?, Array.getElem?_setIfInBounds_ne hit] at htl2
          rw [Array.getD_eq_getD_getElem?]
          exact htl2
      · have hlt2 : ((List.range (f.length + T.length)).filter fun j => !(listed.setIfInBounds i true).getD j false).length < ((List.range (f.length + T.length)).filter fun j => !listed.getD j false).length := by
          rw [← List.countP_eq_length_filter, ← List.countP_eq_length_filter]
          refine countP_lt_of (List.range (f.length + T.length)) i (List.mem_range.2 hlt) (by simp [hunf]) ?_ ?_
          · have hs' : i < listed.size := by rw [hs]; exact hlt
            simp [Array.getD_eq_getD_getElem?, hs']
          · intro j hj
            by_cases hji : i = j
            · subst hji; simp [hunf]
            · simpa [Array.getD_eq_getD_getElem?, Array.getElem?_setIfInBounds_ne hji] using hj
        omega
    have hsi : i < listed.size := by omega
    cases hwr : wrAt ws i with
    | none =>
      rw [hwr] at hst
      simp only at hst
      have hni := wrAt_none hwr
      have hck : ∀ j x, ws[j]? = some x → ((listed.setIfInBounds i true).getD x false = true ↔ j < c) := by
        intro j x hx'
        have hne : i ≠ x := fun e => hni (by rw [e]; exact List.mem_of_getElem? hx')
        have := hc j x hx'
        simpa [Array.getD_eq_getD_getElem?, Array.getElem?_setIfInBounds_ne hne] using this
      have nx : ∀ (v : Value) (w' : World), S i v w' → R' w w' → wpAny P .any (f ++ T).toArray Q fuel (listed.setIfInBounds i true) (a.put o.dst v) w' := fun v w' h1 h2 => next v w' c h1 (Rsub _ _ h2) (Jstab _ _ _ hJ h2) hcl hck
      have hy : ∀ (j : Nat) (b : Bool), j < f.length → ((yielded (f ++ T).toArray a.tmps j == some b) = true ↔ ∃ d, (f.map (·.dst)).getD j none = some d ∧ a.eval (.tmp d) = .bool b) := by
        intro j b hjf
        rw [hdst]
        unfold yielded
        rw [List.getElem?_toArray, List.getElem?_append_left hjf]
        cases hd : (f[j]?).bind (·.dst) with
        | none => simp
        | some d =>
          have hlt' : d < a.tmps.size := by
            rw [hI.size]
            cases hlj : f[j]? with
            | none => simp [hlj] at hd
            | some oj =>
              simp [hlj] at hd
              exact hb d (List.mem_filterMap.2 ⟨oj, List.mem_of_getElem? hlj, hd⟩)
          have he : a.eval (.tmp d) = a.tmps[d] := by simp [Act.eval, Array.getD_eq_getD_getElem?, hlt']
          simp only [Option.bind_some, Array.getElem?_eq_getElem hlt', Option.some.injEq, exists_eq_left', he]
          cases a.tmps[d] <;> simp
      unfold wpOp
      rw [ho]
      unfold guardF at hst
      show if Region.wanted o (yielded (f ++ T).toArray a.tmps) = true then _ else _
      unfold Region.wanted
      cases hg : o.guard with
      | none =>
        rw [hg] at hst
        simp only [if_true]
        exact .inl (opOk_wp hst (fun v w' h => nx v w' h.1 h.2))
      | some jb =>
        obtain ⟨j, b⟩ := jb
        rw [hg] at hst
        simp only at hst ⊢
        have hjf : j < f.length := hgd o (List.mem_of_getElem? hfi) j b hg
        by_cases hw : (yielded (f ++ T).toArray a.tmps j == some b) = true
        · rw [if_pos hw]
          obtain ⟨d, hd, he⟩ := (hy j b hjf).1 hw
          rw [hd] at hst
          exact .inl (opOk_wp (hst.1 he) (fun v w' h => nx v w' h.1 h.2))
        · rw [if_neg hw]
          refine nx undef w ?_ (R'refl w)
          cases hd : (f.map (·.dst)).getD j none with
          | none => rw [hd] at hst; exact hst
          | some d =>
            rw [hd] at hst
            exact hst.2 (fun he => hw ((hy j b hjf).2 ⟨d, hd, he⟩))
    | some j =>
      rw [hwr] at hst
      simp only at hst
      have hwj := wrAt_some hwr
      have hjc : j = c := by
        have h1 : ¬ j < c := by
          intro h
          have := (hc j i hwj).2 h
          rw [hunf] at this
          cases this
        rcases Nat.lt_or_ge c j with h | h
        · exfalso
          have hj1 : j - 1 + 1 = j := by omega
          have hjl : j < ws.length := by
            rcases Nat.lt_or_ge j ws.length with h | h
            · exact h
            · simp [List.getElem?_eq_none h] at hwj
          have hp : ws[j - 1]? = some (ws[j - 1]'(by omega)) := List.getElem?_eq_getElem (by omega)
          obtain ⟨e, he, hej, hbd⟩ := hwch (j - 1) _ i hp (by rw [hj1]; exact hwj) o hil
          have hl := haft e (by simpa using he) hbd
          rw [hej] at hl
          have hjs : ws[j - 1]'(by omega) < listed.size := by have := hwlt _ (List.mem_of_getElem? hp); omega
          have hl' : listed.getD (ws[j - 1]'(by omega)) false = true := by
            simp [Array.getD_eq_getD_getElem?, hjs] at hl ⊢
            exact hl
          have := (hc (j - 1) _ hp).1 hl'
          omega
        · omega
      subst hjc
      have hjl : j < ws.length := by
        rcases Nat.lt_or_ge j ws.length with h | h
        · exact h
        · simp [List.getElem?_eq_none h] at hwj
      have hck : ∀ j' x, ws[j']? = some x → ((listed.setIfInBounds i true).getD x false = true ↔ j' < j + 1) := by
        intro j' x hx'
        by_cases hxi : i = x
        · subst hxi
          have : j' = j := by
            have h1 := List.getElem?_eq_some_iff.1 hx'
            have h2 := List.getElem?_eq_some_iff.1 hwj
            obtain ⟨p1, q1⟩ := h1
            obtain ⟨p2, q2⟩ := h2
            exact (List.getElem_inj hnd).1 (q1.trans q2.symm)
          subst this
          simp [Array.getD_eq_getD_getElem?, hsi]
        · have := hc j' x hx'
          have hne : j' ≠ j := by
            rintro rfl
            rw [hx'] at hwj
            exact hxi (Option.some.inj hwj).symm
          simp only [Array.getD_eq_getD_getElem?, Array.getElem?_setIfInBounds_ne hxi] at this ⊢
          rw [this]
          omega
      unfold wpOp
      rw [ho]
      show if Region.wanted o (yielded (f ++ T).toArray a.tmps) = true then _ else _
      unfold Region.wanted
      rw [hst.1]
      simp only [if_true]
      exact .inl (opOk_wp (hst.2 hJ) (fun v w' h => next v w' (j + 1) h.1 h.2.1 h.2.2 (by omega) hck))

def guardsOk (f : List Oper) : Bool := f.all fun o => match o.guard with | none => true | some x => decide (x.1 < f.length)
/-- **The region's law**: a chain of writers, the last operations by themselves. -/
theorem wp_region_chain {id : Nat} {l : List Oper} (n : Nat) (ws : List Nat) (J : Nat → World → Prop) (hl : f ++ T = l) (hfn : f.length = n) (hT : T ≠ []) (hm : P.follows .mixedOrders = true) (hds : dstsOk f a0.tmps.size = true) (hx : lexOk l = true) (hla : tailOk l n = true) (hch : chainOk l n ws = true) (hg : guardsOk f = true)
    (Rrefl : ∀ a, R a a) (Rtrans : ∀ a b c, R a b → R b c → R a c) (Rsub : ∀ a b, R' a b → R a b) (R'refl : ∀ a, R' a a) (Rdraw : ∀ a, R' a a.drew) (Jstab : ∀ c a b, J c a → R' a b → J c b) (Sstab : ∀ i v w w', S i v w → R w w' → S i v w')
    (J0 : J 0 w0) (H : AllOpsC P (RhoAt a0 f) R R' J ws S (f.map (·.dst)) w0 f 0)
    (hQ : ∀ (vals : Nat → Value) (w : World), R w0 w → J ws.length w → (∀ i, i < f.length → S i (vals i) w) → wpList P l.toArray Q T (fillFrom vals f 0 a0) w) :
    (Code.region id l.toArray true).wp P Q a0 w0 := by
  subst hl hfn
  simp only [dstsOk, Bool.and_eq_true, decide_eq_true_eq, List.all_eq_true] at hds
  refine wp_region_any hm ?_
  have hΦ : ∀ listed a w, RInvC S f a0 listed a w → RhoAt a0 f a.eval := fun listed a w hI => ⟨RhoOk.act a, fun t ht => by
    have h1 := hI.other t (fun o ho he => by
      have := List.all_eq_true.1 ht o ho
      rw [he] at this
      simp at this)
    simp [Act.eval, Array.getD_eq_getD_getElem?, h1]⟩
  have hgd : ∀ o ∈ f, ∀ j b, o.guard = some (j, b) → j < f.length := by
    intro o ho j b hob
    have := List.all_eq_true.1 hg o ho
    rw [hob] at this
    simpa using this
  have hrep : ∀ i, (Array.replicate (f ++ T).toArray.size false).getD i false = false := by
    intro i
    simp [Array.getD_eq_getD_getElem?, Array.getElem?_replicate]
    split <;> simp
  refine wpAny_chain Rrefl Rtrans Rsub R'refl Jstab Sstab hds.1 hds.2 hΦ hla hT hch hgd H hQ hx _ _ _ _ 0 (Rsub _ _ (Rdraw w0)) ?_ (by simp) (fun j _ => hrep j) ?_ ?_ (Nat.zero_le _) (Jstab _ _ _ J0 (Rdraw w0)) ?_
  · refine ⟨rfl, rfl, ?_, fun _ _ => rfl⟩
    intro i o _ h
    rw [hrep] at h
    cases h
  · intro t o _ h
    rw [hrep] at h
    cases h
  · intro j x _
    rw [hrep]
    simp
  · have := List.length_filter_le (fun i => !(Array.replicate (f ++ T).toArray.size false).getD i false) (List.range (f.length + T.length))
    simpa using this
end
end Go.FL

/- A region that draws its order, walked once: each operation yields a value of which a fact holds that stands while the world goes on. Conditions: what each operation looks at is made ahead of it. No program in sight. -/
import Derived.WalkKit
import Derived.WalkSpells
import Derived.WalkLawsBesides
import Derived.ProofKit
namespace Go.FL

/-- A frame in which each operation's temporary holds the value named for it. -/
def fillFrom (vals : Nat → Value) : List Oper → Nat → Act → Act
  | [], _, a => a
  | o :: r, k, a => fillFrom vals r (k + 1) (a.put o.dst (vals k))

/-- The temporaries that are written, each once, all within the frame. -/
def dstsOk (l : List Oper) (n : Nat) : Bool :=
  let ds := l.filterMap (·.dst)
  decide ds.Nodup && ds.all (fun d => decide (d < n))

def depsOf (o : Oper) : List Nat := o.after.toList.filterMap fun e => if Region.binds .any e then some e.on else none

/-- What an operation's operands stand for. -/
structure RhoOk (ρ : Operand → Value) : Prop where
  const : ∀ c, ρ (.const c) = c
  func : ∀ f, ρ (.func f) = .func (.func f) #[] #[]
  glob : ∀ g, ρ (.global g) = .pointer (some ⟨g, 0, none⟩)

/-- The facts on what an operation waits for. -/
def depFacts (ds : List (Option Tmp)) (S : Nat → Value → World → Prop) (ρ : Operand → Value) (w : World) : List Nat → Prop
  | [] => True
  | j :: r => (match ds.getD j none with | some d => S j (ρ (.tmp d)) w | none => True) ∧ depFacts ds S ρ w r

/-- An operation, carried out, yields a value of which this holds. -/
def opOk (P : Program) (o : Oper) (ρ : Operand → Value) (w : World) (post : Value → World → Prop) : Prop :=
  match (execOp ρ o).run P w with
  | .ok (.value v) w' => post v w'
  | .ok .skip w' => post undef w'
  | .ok (.enter f args) w' => Calls P f args w' fun e w'' => ∃ v, e = .returned v ∧ post v w''
  | _ => False

/-- An operation behind its guard. -/
def guardF (ds : List (Option Tmp)) (o : Oper) (ρ : Operand → Value) (X Y : Prop) : Prop :=
  match o.guard with
  | none => X
  | some (j, b) => match ds.getD j none with
    | some d => (ρ (.tmp d) = .bool b → X) ∧ (ρ (.tmp d) ≠ .bool b → Y)
    | none => Y

def AllOps (P : Program) (Φ : (Operand → Value) → Prop) (R : World → World → Prop) (S : Nat → Value → World → Prop) (ds : List (Option Tmp)) (w0 : World) : List Oper → Nat → Prop
  | [], _ => True
  | o :: r, k => (∀ (ρ : Operand → Value) (w : World), Φ ρ → R w0 w → depFacts ds S ρ w (depsOf o) → guardF ds o ρ (opOk P o ρ w fun v w' => S k v w' ∧ R w w') (S k undef w)) ∧ AllOps P Φ R S ds w0 r (k + 1)

theorem AllOps_get {P : Program} {Φ : (Operand → Value) → Prop} {R : World → World → Prop} {S : Nat → Value → World → Prop} {ds : List (Option Tmp)} {w0 : World} :
    ∀ (m : List Oper) (k : Nat), AllOps P Φ R S ds w0 m k → ∀ i o, m[i]? = some o → ∀ (ρ : Operand → Value) (w : World), Φ ρ → R w0 w → depFacts ds S ρ w (depsOf o) → guardF ds o ρ (opOk P o ρ w fun v w' => S (k + i) v w' ∧ R w w') (S (k + i) undef w)
  | [], _, _, i, o, h => by simp at h
  | o' :: r, k, hA, i, o, h => by
    cases i with
    | zero => simp at h; subst h; exact hA.1
    | succ i =>
      have := AllOps_get r (k + 1) hA.2 i o (by simpa using h)
      intro ρ w h0 h1 h2
      rw [show k + (i + 1) = k + 1 + i by omega]
      exact this ρ w h0 h1 h2

/-- The same; and what a temporary holds that the region does not write. -/
def RhoAt (a0 : Act) (l : List Oper) (ρ : Operand → Value) : Prop := RhoOk ρ ∧ ∀ t, (l.all fun o => o.dst != some t) = true → ρ (.tmp t) = a0.eval (.tmp t)
theorem RhoOk.act (a : Act) : RhoOk a.eval := ⟨fun _ => rfl, fun _ => rfl, fun _ => rfl⟩

theorem opOk_wp {P : Program} {o : Oper} {a : Act} {w : World} {post : Value → World → Prop} {K : Act → World → Prop} {Q : Exit → Act → World → Prop}
    (h : opOk P o a.eval w post) (hK : ∀ v w', post v w' → K (a.put o.dst v) w') : o.wp P a w K Q := by
  unfold opOk at h
  unfold Oper.wp
  generalize (execOp a.eval o).run P w = r at *
  cases r with
  | ok n w' =>
    cases n <;> simp only [Oper.upon] at h ⊢ <;> first
      | exact hK _ _ h
      | exact h.elim
      | exact Calls.mono h (fun e w'' ⟨v, he, hp⟩ => by subst he; exact hK _ _ hp)
  | halt x w' => exact h.elim

theorem put_size (a : Act) (d : Option Tmp) (v : Value) : (a.put d v).tmps.size = a.tmps.size := by
  cases d <;> simp [Act.put]
theorem put_defers (a : Act) (d : Option Tmp) (v : Value) : (a.put d v).defers = a.defers := by cases d <;> rfl

theorem fillFrom_size (vals : Nat → Value) : ∀ (l : List Oper) (k : Nat) (a : Act), (fillFrom vals l k a).tmps.size = a.tmps.size
  | [], _, _ => rfl
  | o :: r, k, a => by simp [fillFrom, fillFrom_size vals r, put_size]
theorem fillFrom_defers (vals : Nat → Value) : ∀ (l : List Oper) (k : Nat) (a : Act), (fillFrom vals l k a).defers = a.defers
  | [], _, _ => rfl
  | o :: r, k, a => by simp [fillFrom, fillFrom_defers vals r, put_defers]

theorem put_other (a : Act) (d : Option Tmp) (v : Value) (t : Nat) (h : d ≠ some t) : (a.put d v).tmps[t]? = a.tmps[t]? := by
  cases d with
  | none => rfl
  | some d =>
    have : d ≠ t := fun e => h (by rw [e])
    simp [Act.put, Array.getElem?_setIfInBounds_ne this]
theorem put_same (a : Act) (d : Nat) (v : Value) (h : d < a.tmps.size) : (a.put (some d) v).tmps[d]? = some v := by
  simp [Act.put, h]

theorem fillFrom_other (vals : Nat → Value) (t : Nat) : ∀ (l : List Oper) (k : Nat) (a : Act), (∀ o ∈ l, o.dst ≠ some t) → (fillFrom vals l k a).tmps[t]? = a.tmps[t]?
  | [], _, _, _ => rfl
  | o :: r, k, a, h => by
    rw [fillFrom, fillFrom_other vals t r (k + 1) _ (fun o' ho => h o' (List.mem_cons_of_mem _ ho)), put_other _ _ _ _ (h o List.mem_cons_self)]

theorem fillFrom_at (vals : Nat → Value) : ∀ (l : List Oper) (k : Nat) (a : Act), (l.filterMap (·.dst)).Nodup → (∀ d ∈ l.filterMap (·.dst), d < a.tmps.size) →
    ∀ (i : Nat) (o : Oper) (d : Nat), l[i]? = some o → o.dst = some d → (fillFrom vals l k a).tmps[d]? = some (vals (k + i))
  | [], _, _, _, _, i, o, d, h, _ => by simp at h
  | o' :: r, k, a, hn, hb, i, o, d, h, hd => by
    cases i with
    | zero =>
      simp at h
      subst h
      have hb' : d < a.tmps.size := hb d (by simp [hd])
      have hno : ∀ o'' ∈ r, o''.dst ≠ some d := by
        intro o'' ho'' he
        simp only [List.filterMap_cons, hd, List.nodup_cons] at hn
        exact hn.1 (List.mem_filterMap.2 ⟨o'', ho'', he⟩)
      rw [fillFrom, fillFrom_other vals d r (k + 1) _ hno, hd, put_same _ _ _ hb']
      simp
    | succ i =>
      have hn' : (r.filterMap (·.dst)).Nodup := by
        cases hd' : o'.dst with
        | none => simpa [List.filterMap_cons, hd'] using hn
        | some d' => simp only [List.filterMap_cons, hd', List.nodup_cons] at hn; exact hn.2
      have hb' : ∀ d ∈ r.filterMap (·.dst), d < (a.put o'.dst (vals k)).tmps.size := by
        intro d'' hd''
        rw [put_size]
        apply hb
        cases hd' : o'.dst with
        | none => simpa [List.filterMap_cons, hd'] using hd''
        | some d' => simp only [List.filterMap_cons, hd']; exact List.mem_cons_of_mem _ hd''
      have := fillFrom_at vals r (k + 1) (a.put o'.dst (vals k)) hn' hb' i o d (by simpa using h) hd
      rw [fillFrom, this, show k + 1 + i = k + (i + 1) by omega]

/-- The frame as it is in the midst of a region. -/
structure RInv (S : Nat → Value → World → Prop) (l : List Oper) (a0 : Act) (listed : Array Bool) (a : Act) (w : World) : Prop where
  size : a.tmps.size = a0.tmps.size
  defers : a.defers = a0.defers
  done : ∀ (i : Nat) (o : Oper), l[i]? = some o → listed.getD i false = true → match o.dst with | some d => S i (a.tmps.getD d undef) w | none => ∃ v, S i v w
  other : ∀ t, (∀ o ∈ l, o.dst ≠ some t) → a.tmps[t]? = a0.tmps[t]?
  lsize : listed.size = l.length

theorem RInv.isFill {S : Nat → Value → World → Prop} {l : List Oper} {a0 : Act} {listed : Array Bool} {a : Act} {w : World} (h : RInv S l a0 listed a w)
    (hn : (l.filterMap (·.dst)).Nodup) (hb : ∀ d ∈ l.filterMap (·.dst), d < a0.tmps.size) (vals : Nat → Value) (hv : ∀ (i : Nat) (o : Oper) (d : Nat), l[i]? = some o → o.dst = some d → vals i = a.tmps.getD d undef) :
    a = fillFrom vals l 0 a0 := by
  have ht : a.tmps = (fillFrom vals l 0 a0).tmps := by
    apply Array.ext_getElem?
    intro t
    by_cases hex : ∃ o ∈ l, o.dst = some t
    · obtain ⟨o, ho, hd⟩ := hex
      obtain ⟨i, hi, hio⟩ := List.mem_iff_getElem.1 ho
      have hi' : l[i]? = some o := by rw [List.getElem?_eq_getElem hi, hio]
      have hlt : t < a.tmps.size := by rw [h.size]; exact hb t (List.mem_filterMap.2 ⟨o, ho, hd⟩)
      rw [fillFrom_at vals l 0 a0 hn hb i o t hi' hd, Nat.zero_add, hv i o t hi' hd]
      simp [Array.getD_eq_getD_getElem?, hlt]
    · have hno : ∀ o ∈ l, o.dst ≠ some t := fun o ho hd => hex ⟨o, ho, hd⟩
      rw [fillFrom_other vals t l 0 a0 hno, h.other t hno]
  have hd : a.defers = (fillFrom vals l 0 a0).defers := by rw [fillFrom_defers, h.defers]
  cases a
  generalize fillFrom vals l 0 a0 = b at *
  cases b
  simp at ht hd
  simp [ht, hd]

theorem mem_ready' {md : Region.Mode} {ops : Array Oper} {listed : Array Bool} {i : Nat} (h : i ∈ Region.ready md ops listed) :
    listed.getD i true = false ∧ ∃ o, ops[i]? = some o ∧ ∀ e ∈ o.after, Region.binds md e = true → listed.getD e.on false = true := by
  unfold Region.ready at h
  rw [List.mem_filter] at h
  obtain ⟨h1, h2⟩ := h
  simp only [Bool.and_eq_true, Bool.not_eq_true'] at h2
  refine ⟨h2.1, ?_⟩
  cases ho : ops[i]? with
  | none => simp [ho] at h2
  | some o =>
    refine ⟨o, rfl, ?_⟩
    have h3 := h2.2
    simp only [ho, Option.map_some, Option.getD_some, Array.all_eq_true'] at h3
    intro e he hb
    have := h3 e he
    simpa [hb] using this

theorem countP_lt_of {p q : Nat → Bool} : ∀ (l : List Nat) (i : Nat), i ∈ l → p i = true → q i = false → (∀ j, q j = true → p j = true) → l.countP q < l.countP p
  | [], _, h, _, _, _ => by simp at h
  | x :: r, i, h, hp, hq, hqp => by
    have hle : r.countP q ≤ r.countP p := List.countP_mono_left (fun j _ hj => hqp j hj)
    rcases List.mem_cons.1 h with rfl | h
    · simp [hp, hq]
      omega
    · have ih := countP_lt_of r i h hp hq hqp
      simp only [List.countP_cons]
      by_cases h1 : q x = true
      · simp [h1, hqp x h1]; exact ih
      · simp [h1]; omega

/-- Each operation waits for earlier ones alone. -/
def lexOk (l : List Oper) : Bool := l.zipIdx.all fun x => x.1.after.all fun e => decide (e.on < x.2) || !(Region.binds .any e)

theorem ready_least {l : List Oper} (hx : lexOk l = true) (listed : Array Bool) (hs : listed.size = l.length) : ∀ (i : Nat), i < l.length → listed.getD i false = false → (∀ j, j < i → listed.getD j false = true) → i ∈ Region.ready .any l.toArray listed := by
  intro i hi hl hbelow
  unfold Region.ready
  rw [List.mem_filter]
  refine ⟨by simpa using hi, ?_⟩
  have h1 : listed.getD i true = false := by
    have : i < listed.size := by omega
    simp [Array.getD_eq_getD_getElem?, this] at hl ⊢
    exact hl
  have h2 : l[i]? = some l[i] := List.getElem?_eq_getElem hi
  simp only [h1, Bool.not_false, Bool.true_and, List.getElem?_toArray, h2, Option.map_some, Option.getD_some]
  rw [Array.all_eq_true']
  intro e he
  unfold lexOk at hx
  rw [List.all_eq_true] at hx
  have h3 := hx (l[i], i) (List.mem_zipIdx_iff_getElem?.2 h2)
  rw [Array.all_eq_true'] at h3
  have h4 := h3 e he
  rw [Bool.or_eq_true] at h4
  rcases h4 with h4 | h4
  · simp at h4
    simp [hbelow e.on h4]
  · simp only [Bool.not_eq_true'] at h4
    simp [h4]

theorem all_of_ready_nil {l : List Oper} (hx : lexOk l = true) (listed : Array Bool) (hs : listed.size = l.length) (h : Region.ready .any l.toArray listed = []) : ∀ i, i < l.length → listed.getD i false = true := by
  intro i
  induction i using Nat.strongRecOn with
  | _ i ih =>
    intro hi
    cases hl : listed.getD i false
    · have := ready_least hx listed hs i hi hl (fun j hj => ih j hj (by omega))
      rw [h] at this
      cases this
    · rfl

section
variable {P : Program} {R : World → World → Prop} {S : Nat → Value → World → Prop} {l : List Oper} {Q : Exit → Act → World → Prop} {a0 : Act} {w0 : World}

theorem wpAny_grow (Rrefl : ∀ a, R a a) (Rtrans : ∀ a b c, R a b → R b c → R a c) (Sstab : ∀ i v w w', S i v w → R w w' → S i v w')
    (hn : (l.filterMap (·.dst)).Nodup) (hb : ∀ d ∈ l.filterMap (·.dst), d < a0.tmps.size)
    {Φ : (Operand → Value) → Prop} (hΦ : ∀ listed a w, RInv S l a0 listed a w → Φ a.eval)
    (H : AllOps P Φ R S (l.map (·.dst)) w0 l 0)
    (hQ : ∀ (vals : Nat → Value) (w : World), R w0 w → (∀ i, i < l.length → S i (vals i) w) → Q .normal (fillFrom vals l 0 a0) w)
    (hx : lexOk l = true) :
    ∀ (fuel : Nat) (listed : Array Bool) (a : Act) (w : World), R w0 w → RInv S l a0 listed a w →
      ((List.range l.length).filter fun i => !listed.getD i false).length ≤ fuel → wpAny P .any l.toArray Q fuel listed a w := by
  have fin : ∀ (listed : Array Bool) (a : Act) (w : World), R w0 w → RInv S l a0 listed a w → (∀ i, i < l.length → listed.getD i false = true) → Q .normal a w := by
    intro listed a w hR hI hall
    have hch : ∀ i, ∃ v, (∀ (o : Oper) (d : Nat), l[i]? = some o → o.dst = some d → v = a.tmps.getD d undef) ∧ (i < l.length → S i v w) := by
      intro i
      cases hi : l[i]? with
      | none =>
        have : ¬ i < l.length := by simpa using hi
        exact ⟨undef, fun o d h => by simp at h, fun h => absurd h this⟩
      | some o =>
        have hlt : i < l.length := by
          rcases Nat.lt_or_ge i l.length with h | h
          · exact h
          · simp [List.getElem?_eq_none h] at hi
        have hd := hI.done i o hi (hall i hlt)
        cases hdst : o.dst with
        | none =>
          rw [hdst] at hd
          obtain ⟨v, hv⟩ := hd
          exact ⟨v, (fun o' d h h' => by simp at h; subst h; rw [hdst] at h'; cases h'), fun _ => hv⟩
        | some d =>
          rw [hdst] at hd
          exact ⟨_, (fun o' d' h h' => by simp at h; subst h; rw [hdst] at h'; cases h'; rfl), fun _ => hd⟩
    have hvals : ∃ vals : Nat → Value, ∀ i, (∀ (o : Oper) (d : Nat), l[i]? = some o → o.dst = some d → vals i = a.tmps.getD d undef) ∧ (i < l.length → S i (vals i) w) :=
      ⟨fun i => (hch i).choose, fun i => (hch i).choose_spec⟩
    obtain ⟨vals, hv⟩ := hvals
    rw [hI.isFill hn hb vals (fun i o d h h' => (hv i).1 o d h h')]
    exact hQ vals w hR (fun i hi => (hv i).2 hi)
  intro fuel
  induction fuel with
  | zero =>
    intro listed a w hR hI hc
    have hall : ∀ i, i < l.length → listed.getD i false = true := by
      intro i hi
      have h0 : ((List.range l.length).filter fun i => !listed.getD i false) = [] := List.eq_nil_of_length_eq_zero (by omega)
      rw [List.filter_eq_nil_iff] at h0
      have := h0 i (List.mem_range.2 hi)
      simpa using this
    refine ⟨?_, fin listed a w hR hI hall⟩
    unfold Region.ready
    rw [List.filter_eq_nil_iff]
    intro i hi
    have hi' : i < l.length := by simpa using hi
    have h1 := hall i hi'
    have h2 : listed.getD i true = true := by
      have hs : i < listed.size := by rw [hI.lsize]; exact hi'
      simp [Array.getD_eq_getD_getElem?, hs] at h1 ⊢
      exact h1
    simp [h2]
  | succ fuel ih =>
    intro listed a w hR hI hc
    refine ⟨fun h => fin listed a w hR hI (all_of_ready_nil hx listed hI.lsize h), fun i hi => ?_⟩
    obtain ⟨hun, o, ho, haft⟩ := mem_ready' hi
    have hil : l[i]? = some o := by simpa using ho
    have hlt : i < l.length := by
      rcases Nat.lt_or_ge i l.length with h | h
      · exact h
      · simp [List.getElem?_eq_none h] at hil
    have hunf : listed.getD i false = false := by
      have hs : i < listed.size := by rw [hI.lsize]; exact hlt
      simp [Array.getD_eq_getD_getElem?, hs] at hun ⊢
      exact hun
    have hdst : ∀ j, (l.map (·.dst)).getD j none = (l[j]?).bind (·.dst) := by
      intro j
      simp [List.getD_eq_getElem?_getD, List.getElem?_map]
      cases l[j]? <;> rfl
    have hdeps : depFacts (l.map (·.dst)) S a.eval w (depsOf o) := by
      have hone : ∀ j ∈ depsOf o, j < l.length ∧ listed.getD j false = true := by
        intro j hj
        unfold depsOf at hj
        obtain ⟨e, he, hej⟩ := List.mem_filterMap.1 hj
        by_cases hbd : Region.binds .any e = true
        · simp [hbd] at hej
          subst hej
          have hl := haft e (by simpa using he) hbd
          have hjl : e.on < l.length := by
            rw [← hI.lsize]
            rcases Nat.lt_or_ge e.on listed.size with h | h
            · exact h
            · simp [Array.getD_eq_getD_getElem?, Array.getElem?_eq_none h] at hl
          exact ⟨hjl, hl⟩
        · simp [hbd] at hej
      generalize depsOf o = dl at hone
      induction dl with
      | nil => trivial
      | cons j r ihr =>
        refine ⟨?_, ihr (fun j' hj' => hone j' (List.mem_cons_of_mem _ hj'))⟩
        obtain ⟨hjl, hlj⟩ := hone j List.mem_cons_self
        rw [hdst, List.getElem?_eq_getElem hjl]
        have hd := hI.done j l[j] (List.getElem?_eq_getElem hjl) hlj
        cases hdj : l[j].dst with
        | none => simp [hdj]
        | some d =>
          rw [hdj] at hd
          simp only [Option.bind_some, hdj]
          exact hd
    have hst := AllOps_get l 0 H i o hil a.eval w (hΦ listed a w hI) hR hdeps
    rw [Nat.zero_add] at hst
    have next : ∀ (v : Value) (w' : World), S i v w' → R w w' → wpAny P .any l.toArray Q fuel (listed.setIfInBounds i true) (a.put o.dst v) w' := by
      intro v w' hS hRw
      refine ih (listed.setIfInBounds i true) (a.put o.dst v) w' (Rtrans _ _ _ hR hRw) ?_ ?_
      · refine ⟨by rw [put_size, hI.size], by rw [put_defers, hI.defers], ?_, ?_, by simp [hI.lsize]⟩
        · intro j oj hj hlj
          by_cases hji : j = i
          · subst hji
            rw [hil] at hj
            cases hj
            cases hdst : o.dst with
            | none => exact ⟨v, hS⟩
            | some d =>
              have hlt' : d < a.tmps.size := by rw [hI.size]; exact hb d (List.mem_filterMap.2 ⟨o, List.mem_of_getElem? hil, hdst⟩)
              simp only [Array.getD_eq_getD_getElem?, put_same a d v hlt', Option.getD_some]
              exact hS
          · have hlj' : listed.getD j false = true := by
              simpa [Array.getD_eq_getD_getElem?, Array.getElem?_setIfInBounds_ne (Ne.symm hji)] using hlj
            have hd := hI.done j oj hj hlj'
            cases hdst : oj.dst with
            | none =>
              rw [hdst] at hd
              obtain ⟨u, hu⟩ := hd
              exact ⟨u, Sstab _ _ _ _ hu hRw⟩
            | some d =>
              rw [hdst] at hd
              have hne : o.dst ≠ some d := by
                intro he
                have h1 := fillFrom_at (fun n => if n = i then .bool true else .bool false) l 0 a0 hn hb i o d hil he
                have h2 := fillFrom_at (fun n => if n = i then .bool true else .bool false) l 0 a0 hn hb j oj d hj hdst
                rw [h1] at h2
                simp [hji] at h2
              simp only [Array.getD_eq_getD_getElem?, put_other a o.dst v d hne]
              simp only [Array.getD_eq_getD_getElem?] at hd
              exact Sstab _ _ _ _ hd hRw
        · intro t ht
          rw [put_other a o.dst v t (ht o (List.mem_of_getElem? hil)), hI.other t ht]
      · have hlt2 : ((List.range l.length).filter fun j => !(listed.setIfInBounds i true).getD j false).length < ((List.range l.length).filter fun j => !listed.getD j false).length := by
          rw [← List.countP_eq_length_filter, ← List.countP_eq_length_filter]
          refine countP_lt_of (List.range l.length) i (List.mem_range.2 hlt) (by simp [hunf]) ?_ ?_
          · have hs : i < listed.size := by rw [hI.lsize]; exact hlt
            simp [Array.getD_eq_getD_getElem?, hs]
          · intro j hj
            by_cases hji : i = j
            · subst hji; simp [hunf]
            · simpa [Array.getD_eq_getD_getElem?, Array.getElem?_setIfInBounds_ne hji] using hj
        omega
    have hy : ∀ (j : Nat) (b : Bool), (yielded l.toArray a.tmps j == some b) = true ↔ ∃ d, (l.map (·.dst)).getD j none = some d ∧ a.eval (.tmp d) = .bool b := by
      intro j b
      rw [hdst]
      unfold yielded
      rw [List.getElem?_toArray]
      cases hd : (l[j]?).bind (·.dst) with
      | none => simp
      | some d =>
        have hlt' : d < a.tmps.size := by
          rw [hI.size]
          cases hlj : l[j]? with
          | none => simp [hlj] at hd
          | some oj =>
            simp [hlj] at hd
            exact hb d (List.mem_filterMap.2 ⟨oj, List.mem_of_getElem? hlj, hd⟩)
        have he : a.eval (.tmp d) = a.tmps[d] := by simp [Act.eval, Array.getD_eq_getD_getElem?, hlt']
        simp only [Option.bind_some, Array.getElem?_eq_getElem hlt', Option.some.injEq, exists_eq_left', he]
        cases a.tmps[d] <;> simp
    unfold wpOp
    rw [ho]
    unfold guardF at hst
    show if Region.wanted o (yielded l.toArray a.tmps) = true then _ else _
    unfold Region.wanted
    cases hg : o.guard with
    | none =>
      rw [hg] at hst
      simp only [if_true]
      exact .inl (opOk_wp hst (fun v w' h => next v w' h.1 h.2))
    | some jb =>
      obtain ⟨j, b⟩ := jb
      rw [hg] at hst
      simp only at hst ⊢
      by_cases hw : (yielded l.toArray a.tmps j == some b) = true
      · rw [if_pos hw]
        obtain ⟨d, hd, he⟩ := (hy j b).1 hw
        rw [hd] at hst
        exact .inl (opOk_wp (hst.1 he) (fun v w' h => next v w' h.1 h.2))
      · rw [if_neg hw]
        refine next undef w ?_ (Rrefl w)
        cases hd : (l.map (·.dst)).getD j none with
        | none => rw [hd] at hst; exact hst
        | some d =>
          rw [hd] at hst
          exact hst.2 (fun he => hw ((hy j b).2 ⟨d, hd, he⟩))

/-- **The region's law.** -/
theorem wp_region_grow {id : Nat} (hm : P.follows .mixedOrders = true) (hds : dstsOk l a0.tmps.size = true) (hx : lexOk l = true)
    (Rrefl : ∀ a, R a a) (Rtrans : ∀ a b c, R a b → R b c → R a c) (Rdraw : ∀ a, R a a.drew) (Sstab : ∀ i v w w', S i v w → R w w' → S i v w')
    (H : AllOps P (RhoAt a0 l) R S (l.map (·.dst)) w0 l 0)
    (hQ : ∀ (vals : Nat → Value) (w : World), R w0 w → (∀ i, i < l.length → S i (vals i) w) → Q .normal (fillFrom vals l 0 a0) w) :
    (Code.region id l.toArray true).wp P Q a0 w0 := by
  simp only [dstsOk, Bool.and_eq_true, decide_eq_true_eq, List.all_eq_true] at hds
  refine wp_region_any hm ?_
  have hΦ : ∀ listed a w, RInv S l a0 listed a w → RhoAt a0 l a.eval := fun listed a w hI => ⟨RhoOk.act a, fun t ht => by
    have h1 := hI.other t (fun o ho he => by
      have := List.all_eq_true.1 ht o ho
      rw [he] at this
      simp at this)
    simp [Act.eval, Array.getD_eq_getD_getElem?, h1]⟩
  refine wpAny_grow Rrefl Rtrans Sstab hds.1 hds.2 hΦ H hQ hx _ _ _ _ (Rdraw w0) ?_ ?_
  · refine ⟨rfl, rfl, ?_, fun _ _ => rfl, by simp⟩
    intro i o _ h
    simp [Array.getD_eq_getD_getElem?, Array.getElem?_replicate] at h
    split at h <;> simp at h
  · have := List.length_filter_le (fun i => !(Array.replicate l.toArray.size false).getD i false) (List.range l.length)
    simpa using this
end

theorem opOk_val {P : Program} {o : Oper} {ρ : Operand → Value} {w w' : World} {post : Value → World → Prop} {v : Value} (h : (execOp ρ o).run P w = .ok (.value v) w') (hp : post v w') : opOk P o ρ w post := by
  unfold opOk
  rw [h]
  exact hp

theorem opOk_move {P : Program} {o : Oper} {ρ : Operand → Value} {w : World} {post : Value → World → Prop} {x : Operand} (h : o.op = .move x ∨ o.op = .assign x) (hp : post (ρ x) w) : opOk P o ρ w post := by
  refine opOk_val (v := ρ x) (w' := w) ?_ hp
  unfold execOp
  rcases h with h | h <;> rw [h] <;> rfl

theorem opOk_pick {P : Program} {o : Oper} {ρ : Operand → Value} {w : World} {post : Value → World → Prop} {c a b : Operand} {t : Bool} (h : o.op = .pick c a b) (hc : ρ c = .bool t) (hp : post (if t then ρ a else ρ b) w) : opOk P o ρ w post := by
  refine opOk_val (v := if t then ρ a else ρ b) (w' := w) ?_ hp
  unfold execOp
  rw [h]
  simp [hc, asBool]

theorem opOk_call {P : Program} {o : Oper} {ρ : Operand → Value} {w : World} {post : Value → World → Prop} {f : FuncId} {c : Go.Call} (hρ : RhoOk ρ) (h : o.op = .call c) (hc : c.callee = .value (.func f)) {fn : Func} {body : Code} (hf : P.funcs[f]? = some fn) (hname : (fn.name == "runtime.NumGoroutine") = false) (hb : fn.body = some body) {args : Array Value} (ha : c.args.map ρ = args)
    (hp : Calls P f args w fun e w' => ∃ v, e = .returned v ∧ post v w') : opOk P o ρ w post := by
  have hr : (execOp ρ o).run P w = .ok (.enter f (c.args.map ρ)) w := by
    unfold execOp
    rw [h]
    have h1 : fn.name ≠ "runtime.NumGoroutine" := by simpa using hname
    simp [resolve, invoke, hc, hρ.func, Deferred.ofValue, callFunc, hf, h1, hb]
  unfold opOk
  rw [hr, ha]
  exact hp

/-- The facts as a list: fact number i is asked of operation number i. -/
def factAt (L : List (Value → World → Prop)) (i : Nat) (v : Value) (w : World) : Prop := L.getD i (fun _ _ => True) v w

/-- A fact that stands while the world goes on. -/
def Stab (R : World → World → Prop) (F : Value → World → Prop) : Prop := ∀ v w w', F v w → R w w' → F v w'

def StabAll (R : World → World → Prop) : List (Value → World → Prop) → Prop
  | [] => True
  | F :: r => Stab R F ∧ StabAll R r

theorem factAt_stab {R : World → World → Prop} : ∀ {L : List (Value → World → Prop)}, StabAll R L → ∀ i v w w', factAt L i v w → R w w' → factAt L i v w'
  | [], _, i, v, w, w', _, _ => by simp [factAt]
  | F :: r, h, 0, v, w, w', hf, hR => h.1 v w w' hf hR
  | F :: r, h, i + 1, v, w, w', hf, hR => factAt_stab (L := r) h.2 i v w w' hf hR

/-- The value is this one. -/
def Is (v0 : Value) : Value → World → Prop := fun v _ => v = v0
theorem Is.stab (R : World → World → Prop) (v0 : Value) : Stab R (Is v0) := fun _ _ _ h _ => h

end Go.FL

/- Two ends part, whatever of the next 32 packets is lost, told plainly: a turn goes on, and its measure falls. Conditions: none. No walk. -/
import Derived.Test.YtiimlanbbfhkjaaDoorAsMeetM
import Derived.Test.YtiimlanbbfhkjaaDoorAsPartC
set_option linter.unusedSimpArgs false
set_option linter.unusedVariables false



namespace Go.FL

/-- What is said while two ends part: to the tag x; k: of which kind. -/
def OutOk (x : Nat) (o : OutD) (k : Nat) : Prop := o.tag = x ∧ ((k = 7 ∧ ∃ n, n < 4294967296 ∧ o.c = cumChk n) ∨ (k = 8 ∧ o.c = ⟨8, 0, []⟩) ∨ (k = 14 ∧ o.c = ⟨14, 0, []⟩))
def RowOk (x : Nat) : List OutD → List Nat → Prop
  | [], [] => True
  | o :: l, k :: m => OutOk x o k ∧ RowOk x l m
  | _, _ => False
theorem RowOk.len {x : Nat} : ∀ {l : List OutD} {m : List Nat}, RowOk x l m → l.length = m.length
  | [], [], _ => rfl
  | o :: l, k :: m, h => by
    rw [List.length_cons, List.length_cons, RowOk.len h.2]
  | [], _ :: _, h => h.elim
  | _ :: _, [], h => h.elim
theorem RowOk.app {x : Nat} {o : OutD} {k : Nat} (ho : OutOk x o k) : ∀ {l : List OutD} {m : List Nat}, RowOk x l m → RowOk x (l ++ [o]) (m ++ [k])
  | [], [], _ => ⟨ho, trivial⟩
  | a :: l, b :: m, h => ⟨h.1, RowOk.app ho h.2⟩
  | [], _ :: _, h => h.elim
  | _ :: _, [], h => h.elim
/-- An end while it parts: its tag, the other's; between which moments its timer stands; its state, the kinds of what it has to say. -/
structure EndOk (own oth lo hi : Nat) (a : AsD) (e : EvD) (x : Nat × List Nat) : Prop where
  t : a.t = 40
  key : a.key.length ≤ 64
  p : 1 ≤ a.p ∧ a.p < 1000000
  st : a.st = x.1
  sts : x.1 = 0 ∨ x.1 = 4 ∨ x.1 = 5 ∨ x.1 = 6 ∨ x.1 = 7 ∨ x.1 = 8
  row : RowOk oth a.row x.2
  ptl : a.peer.tag < 4294967296
  gpl : a.gp < 4294967296
  tags : x.1 ≠ 0 → a.tag = own ∧ a.peer.tag = oth
  gh : x.1 = 0 → a.go = own ∧ a.gp = oth
  said : x.1 = 6 ∨ x.1 = 8 → OutOk oth a.said (if x.1 = 6 then 7 else 8)
  path : a.said.path < 1000000
  wait : x.1 = 6 ∨ x.1 = 8 → 3 ≤ a.wait ∧ a.wait ≤ 60
  timer : x.1 = 6 ∨ x.1 = 8 → (lo : Int) ≤ a.timer ∧ a.timer ≤ (hi : Int)
  still : ¬ (x.1 = 6 ∨ x.1 = 8) → a.timer = -1
  ev : x.1 = 0 → e.ended = true ∧ e.clean = true
variable {own oth lo hi : Nat} {a : AsD} {e : EvD} {x : Nat × List Nat}

theorem EndOk.okA (h : EndOk own oth lo hi a e x) (hr : x.2.length ≤ 1000) : okA a = true :=
  okA_of h.key (by rw [h.row.len]; omega) h.ptl h.gpl (by rw [h.st]; have := h.sts; omega)
/-- Something more is to be said. -/
theorem EndOk.push (h : EndOk own oth lo hi a e x) {o : OutD} {k : Nat} (ho : OutOk oth o k) : EndOk own oth lo hi { a with row := a.row ++ [o] } e (x.1, x.2 ++ [k]) :=
  ⟨h.t, h.key, h.p, h.st, h.sts, h.row.app ho, h.ptl, h.gpl, h.tags, h.gh, h.said, h.path, h.wait, h.timer, h.still, h.ev⟩
theorem EndOk.run (h : EndOk own oth lo hi a e x) (h0 : x.1 ≠ 0) {now : Nat} (h1 : lo ≤ now + 3 ∧ now + 3 ≤ hi) {c : Chk} {st k : Nat} (hs : st = 6 ∧ k = 7 ∨ st = 8 ∧ k = 8) (ho : OutOk oth ⟨0, oth, c⟩ k) :
    EndOk own oth lo hi (runD a (now : Int) a.peer.tag c st) e (st, x.2 ++ [k]) := by
  have ht := h.tags h0
  unfold runD
  rw [ht.2]
  refine ⟨h.t, h.key, h.p, rfl, ?_, h.row.app ho, ?_, h.gpl, fun _ => ⟨ht.1, ht.2⟩, ?_, ?_, ?_, ?_, ?_, ?_, ?_⟩
  · show st = 0 ∨ _
    omega
  · exact h.ptl
  · intro e1
    have : st = 0 := e1
    omega
  · intro _
    show OutOk oth ⟨0, oth, c⟩ (if st = 6 then 7 else 8)
    rcases hs with ⟨e1, e2⟩ | ⟨e1, e2⟩
    · rw [if_pos e1, ← e2]
      exact ho
    · rw [if_neg (by omega), ← e2]
      exact ho
  · show (0 : Nat) < 1000000
    omega
  · intro _
    show 3 ≤ 3 ∧ 3 ≤ 60
    omega
  · intro _
    show (lo : Int) ≤ (now : Int) + 3 ∧ (now : Int) + 3 ≤ (hi : Int)
    omega
  · intro e1
    have : ¬ (st = 6 ∨ st = 8) := e1
    omega
  · intro e1
    have : st = 0 := e1
    omega
theorem EndOk.ends (h : EndOk own oth lo hi a e x) (h0 : x.1 ≠ 0) (hoth : oth ≠ 0 ∧ oth < 4294967296) {e' : EvD} (he : e'.ended = true ∧ e'.clean = true) : EndOk own oth lo hi (endsD a) e' (0, x.2) := by
  have ht := h.tags h0
  have hn : ¬ a.peer.tag = 0 := by rw [ht.2]; exact hoth.1
  unfold endsD ghostD
  rw [if_neg hn, if_neg hn]
  exact ⟨h.t, h.key, h.p, rfl, .inl rfl, h.row, (by show (0 : Nat) < 4294967296; omega), (by show a.peer.tag < _; rw [ht.2]; exact hoth.2), fun k => absurd rfl k, fun _ => ht, fun k => (by rcases k with k | k <;> cases k), h.path, fun k => (by rcases k with k | k <;> cases k), fun k => (by rcases k with k | k <;> cases k), fun _ => rfl, fun _ => he⟩
theorem EndOk.to (h : EndOk own oth lo hi a e x) {s : Nat} (h0 : x.1 = 4 ∨ x.1 = 5) (hs : s = 5 ∨ s = 7) : EndOk own oth lo hi { a with st := s } e (s, x.2) :=
  ⟨h.t, h.key, h.p, rfl, (by show s = 0 ∨ _; omega), h.row, h.ptl, h.gpl, fun _ => h.tags (by omega), fun k => (by have : s = 0 := k; omega), fun k => (by have : s = 6 ∨ s = 8 := k; omega), h.path, fun k => (by have : s = 6 ∨ s = 8 := k; omega), fun k => (by have : s = 6 ∨ s = 8 := k; omega), fun _ => h.still (by omega), fun k => (by have : s = 0 := k; omega)⟩
/-- Of what is counted: an end whose timer runs either had it run, or has something new to say. -/
def Was (now : Nat) (a a' : AsD) : Prop := (a.row ≠ [] → a'.row ≠ []) ∧ (a'.st = 6 ∨ a'.st = 8 → (a'.often = a.often ∧ a'.timer = a.timer ∧ (a.st = 6 ∨ a.st = 8)) ∨ (a'.often = 0 ∧ (now : Int) < a'.timer ∧ a'.row ≠ []))
theorem Was.refl (now : Nat) (a : AsD) : Was now a a := ⟨fun h => h, fun h => .inl ⟨rfl, rfl, h⟩⟩
theorem Was.trans {now : Nat} {a b c : AsD} (h1 : Was now a b) (h2 : Was now b c) : Was now a c := by
  refine ⟨fun h => h2.1 (h1.1 h), fun h => ?_⟩
  rcases h2.2 h with ⟨k1, k2, k3⟩ | k
  · rcases h1.2 k3 with ⟨m1, m2, m3⟩ | ⟨m1, m2, m3⟩
    · exact .inl ⟨k1.trans m1, k2.trans m2, m3⟩
    · exact .inr ⟨k1.trans m1, by rw [k2]; exact m2, h2.1 m3⟩
  · exact .inr k
theorem app_ne {α : Type} (l : List α) (a : α) : l ++ [a] ≠ [] := by simp
theorem Was.push (now : Nat) (a : AsD) (o : OutD) : Was now a { a with row := a.row ++ [o] } := ⟨fun _ => app_ne _ _, fun h => .inl ⟨rfl, rfl, h⟩⟩
theorem Was.run (now : Nat) (a : AsD) (tag : Nat) (c : Chk) (st : Nat) : Was now a (runD a (now : Int) tag c st) := ⟨fun _ => app_ne _ _, fun _ => .inr ⟨rfl, (by show (now : Int) < (now : Int) + 3; omega), app_ne _ _⟩⟩
theorem Was.ends (now : Nat) (a : AsD) : Was now a (endsD a) := ⟨fun h => h, fun h => by
  have : (0 : Nat) = 6 ∨ (0 : Nat) = 8 := h
  omega⟩
theorem Was.to (now : Nat) (a : AsD) {s : Nat} (hs : s = 5 ∨ s = 7) : Was now a { a with st := s } := ⟨fun h => h, fun h => by
  have : s = 6 ∨ s = 8 := h
  omega⟩
theorem stepD_not {lost : Nat} {now : Int} {a : AsD} {ev : EvD} {pk : Nat} {o : OutD} (h : lostB lost (pk + 1) = true ∨ a.st < 256 ∧ takesB a o.tag [o.c] = false) : stepD lost now (a, ev, pk) o = some (a, ev, pk + 1) := by
  unfold stepD
  simp only
  by_cases hl : lostB lost (pk + 1) = true
  · rw [if_pos hl]
  · rw [if_neg hl]
    rcases h with h | ⟨h1, h2⟩
    · exact absurd h hl
    · rw [if_neg (by omega), if_neg (by rw [h2]; decide)]
theorem takes_shut0 {a : AsD} {tag : Nat} {c : Chk} (hk1 : c.k ≠ 1) (hk2 : c.k ≠ 10) (hk3 : c.k ≠ 8) (h0 : a.st = 0) : takesB a tag [c] = false := by
  unfold takesB
  rw [if_neg (by simp), if_neg (by simp [kindIs, hk1]), if_neg (by simp [hk2]), if_pos (.inl h0)]
  simp [kindIs, hk3]
theorem takes_ghost {a : AsD} {tag : Nat} {c : Chk} (hk3 : c.k = 8) (h0 : a.st = 0) (h1 : tag = a.go) (h2 : tag ≠ 0) : takesB a tag [c] = true := by
  unfold takesB
  rw [if_neg (by simp), if_neg (by simp [kindIs, hk3]), if_neg (by simp [hk3]), if_pos (.inl h0)]
  simp [kindIs, hk3, ← h1, h2]
theorem cumGet_ok {c : Chk} {n : Nat} (h : n < 4294967296) (hc : c = cumChk n) : (cumGet c).2 = 0 := by rw [hc, cumGet_chk n h]
/-- A chunk comes to an end that parts. -/
theorem end_chunk {now : Nat} (h : EndOk own oth lo hi a e x) (hn : lo ≤ now + 3 ∧ now + 3 ≤ hi) (hoth : oth ≠ 0 ∧ oth < 4294967296) (hown : own ≠ 0) {o : OutD} {k : Nat} (ho : OutOk own o k) (hr : x.2.length ≤ 1000) (lost pk : Nat) (hl : lostB lost (pk + 1) = false) :
    ∃ a' e', stepD lost (now : Int) (a, e, pk) o = some (a', e', pk + 1) ∧ EndOk own oth lo hi a' e' (chC x k) ∧ Was now a a' := by
  obtain ⟨path, tag, c⟩ := o
  obtain ⟨ho1, hk⟩ := ho
  simp only at ho1 hk
  subst ho1
  have hok := h.okA hr
  have hs256 : a.st < 256 := by
    rw [h.st]
    have := h.sts
    omega
  by_cases h0 : x.1 = 0
  · have hst : a.st = 0 := h.st.trans h0
    rcases hk with ⟨rfl, n, hn7, hc⟩ | ⟨rfl, hc⟩ | ⟨rfl, hc⟩
    · have hck : c.k = 7 := by rw [hc]; rfl
      refine ⟨a, e, stepD_not (.inr ⟨hs256, takes_shut0 (by show c.k ≠ 1; rw [hck]; decide) (by show c.k ≠ 10; rw [hck]; decide) (by show c.k ≠ 8; rw [hck]; decide) hst⟩), ?_, Was.refl now a⟩
      have : chC x 7 = x := by
        unfold chC
        rw [if_pos rfl, if_neg (by omega), if_neg (by omega)]
      rw [this]
      exact h
    · have hg := h.gh h0
      have hck : c.k = 8 := by rw [hc]
      have hch : chunkD a (now : Int) path c = some ({ a with row := a.row ++ [⟨path, a.gp, ⟨14, 0, []⟩⟩] }, .none) := by
        rw [chunkD_shack ⟨hok, by rw [hc]; exact Nat.zero_le _⟩ hck]
        unfold onShutAckD
        rw [if_neg (by omega), if_pos ⟨.inl hst, by rw [hg.2]; exact hoth.1⟩]
      refine ⟨_, _, stepD_in (o := ⟨path, tag, c⟩) hl hs256 (takes_ghost hck hst hg.1.symm hown) hch, ?_, Was.push now a _⟩
      have : chC x 8 = (x.1, x.2 ++ [14]) := by
        unfold chC
        rw [if_neg (by decide), if_pos rfl, if_pos (.inr (.inr h0)), h0]
      rw [this]
      exact h.push ⟨hg.2, .inr (.inr ⟨rfl, rfl⟩)⟩
    · have hck : c.k = 14 := by rw [hc]
      refine ⟨a, e, stepD_not (.inr ⟨hs256, takes_shut0 (by show c.k ≠ 1; rw [hck]; decide) (by show c.k ≠ 10; rw [hck]; decide) (by show c.k ≠ 8; rw [hck]; decide) hst⟩), ?_, Was.refl now a⟩
      have : chC x 14 = x := by
        unfold chC
        rw [if_neg (by decide), if_neg (by decide), if_neg (by omega)]
      rw [this]
      exact h
  · have ht := h.tags h0
    have hsts := h.sts
    have hst := h.st
    have htk : ∀ (k1 : c.k ≠ 1) (k2 : c.k ≠ 10), takesB a tag [c] = true := fun k1 k2 => takes_open k1 k2 (by omega) ht.1.symm
    rcases hk with ⟨rfl, n, hn7, hc⟩ | ⟨rfl, hc⟩ | ⟨rfl, hc⟩
    · have hck : c.k = 7 := by rw [hc]; rfl
      have hch := chunkD_shut (a := a) (now := (now : Int)) (path := path) (c := c) ⟨hok, by rw [hc]; show (beBytes 4 n).length ≤ _; rw [beBytes_length]; omega⟩ hck
      have hst7 := stepD_in (ev := e) (o := ⟨path, tag, c⟩) hl hs256 (htk (by rw [hck]; decide) (by rw [hck]; decide)) hch
      rw [note_none] at hst7
      refine ⟨_, _, hst7, ?_⟩
      unfold onShutdownD chC
      rw [if_pos (cumGet_ok hn7 hc), if_pos rfl]
      by_cases q1 : x.1 = 4 ∨ x.1 = 5
      · rw [if_pos (by omega), if_pos q1]
        exact ⟨h.to q1 (.inr rfl), Was.to now a (.inr rfl)⟩
      · rw [if_neg (by omega), if_neg q1]
        by_cases q2 : x.1 = 6
        · rw [if_pos (by omega), if_pos (.inl q2)]
          exact ⟨h.run h0 hn (.inr ⟨rfl, rfl⟩) ⟨rfl, .inr (.inl ⟨rfl, rfl⟩)⟩, Was.run now a _ _ _⟩
        · rw [if_neg (by omega)]
          by_cases q3 : x.1 = 8
          · rw [if_pos (by omega), if_pos (.inr q3)]
            have := h.push (o := ⟨path, a.peer.tag, ⟨8, 0, []⟩⟩) (k := 8) ⟨ht.2, .inr (.inl ⟨rfl, rfl⟩)⟩
            rw [q3] at this
            exact ⟨this, Was.push now a _⟩
          · rw [if_neg (by omega), if_neg (by omega)]
            exact ⟨h, Was.refl now a⟩
    · have hck : c.k = 8 := by rw [hc]
      have hch := chunkD_shack (a := a) (now := (now : Int)) (path := path) (c := c) ⟨hok, by rw [hc]; exact Nat.zero_le _⟩ hck
      have hst7 := stepD_in (ev := e) (o := ⟨path, tag, c⟩) hl hs256 (htk (by rw [hck]; decide) (by rw [hck]; decide)) hch
      refine ⟨_, _, hst7, ?_⟩
      unfold onShutAckD chC
      rw [if_neg (show ¬ (8 : Nat) = 7 by decide), if_pos (show (8 : Nat) = 8 from rfl)]
      by_cases q1 : x.1 = 6 ∨ x.1 = 8
      · rw [if_pos (show a.st = 6 ∨ a.st = 8 by omega), if_pos (by omega)]
        have k1 := h.push (o := ⟨path, a.peer.tag, ⟨14, 0, []⟩⟩) (k := 14) ⟨ht.2, .inr (.inr ⟨rfl, rfl⟩)⟩
        exact ⟨k1.ends h0 hoth ⟨rfl, rfl⟩, (Was.push now a _).trans (Was.ends now _)⟩
      · rw [if_neg (show ¬ (a.st = 6 ∨ a.st = 8) by omega), if_neg (show ¬ ((a.st = 0 ∨ a.st = 1) ∧ a.gp ≠ 0) by omega), if_neg (by omega)]
        exact ⟨h, Was.refl now a⟩
    · have hck : c.k = 14 := by rw [hc]
      have hch := chunkD_done (a := a) (now := (now : Int)) (path := path) (c := c) ⟨hok, by rw [hc]; exact Nat.zero_le _⟩ hck
      have hst7 := stepD_in (ev := e) (o := ⟨path, tag, c⟩) hl hs256 (htk (by rw [hck]; decide) (by rw [hck]; decide)) hch
      refine ⟨_, _, hst7, ?_⟩
      unfold chC
      rw [if_neg (show ¬ (14 : Nat) = 7 by decide), if_neg (show ¬ (14 : Nat) = 8 by decide)]
      by_cases q1 : x.1 = 8
      · rw [if_pos (show a.st = 8 by omega), if_pos q1]
        exact ⟨h.ends h0 hoth ⟨rfl, rfl⟩, Was.ends now _⟩
      · rw [if_neg (show ¬ a.st = 8 by omega), if_neg q1]
        exact ⟨h, Was.refl now a⟩
theorem chC_len (x : Nat × List Nat) (k : Nat) : (chC x k).2.length ≤ x.2.length + 1 := by
  unfold chC
  repeat' split
  all_goals simp
/-- What is lost of so many packets. -/
def lostsF (lost : Nat) : Nat → Nat → List Bool
  | _, 0 => []
  | pk, n + 1 => lostB lost (pk + 1) :: lostsF lost (pk + 1) n
theorem lostsF_len (lost : Nat) : ∀ (n pk : Nat), (lostsF lost pk n).length = n
  | 0, _ => rfl
  | n + 1, pk => by
    rw [lostsF, List.length_cons, lostsF_len lost n (pk + 1)]
theorem lostB_late {lost n : Nat} (h : lost < 4294967296) (hn : 32 < n) : lostB lost n = false := by
  unfold lostB
  have : lost / 2 ^ (n - 1) = 0 := by
    apply Nat.div_eq_of_lt
    have : 2 ^ 32 ≤ 2 ^ (n - 1) := Nat.pow_le_pow_right (by omega) (by omega)
    omega
  rw [this]
  simp
theorem lostsF_late {lost : Nat} (h : lost < 4294967296) : ∀ (n pk : Nat), 32 ≤ pk → lostsF lost pk n = falses n
  | 0, _, _ => rfl
  | n + 1, pk, hp => by
    rw [lostsF, lostB_late h (by omega), lostsF_late h n (pk + 1) (by omega)]
    rfl
theorem end_steps {now : Nat} (hn : lo ≤ now + 3 ∧ now + 3 ≤ hi) (hoth : oth ≠ 0 ∧ oth < 4294967296) (hown : own ≠ 0) (lost : Nat) : ∀ (l : List OutD) (m : List Nat), RowOk own l m → ∀ (a : AsD) (e : EvD) (x : Nat × List Nat) (pk : Nat), EndOk own oth lo hi a e x → x.2.length + m.length ≤ 1000 →
    ∃ a' e', stepsD lost (now : Int) (a, e, pk) l = some (a', e', pk + m.length) ∧ EndOk own oth lo hi a' e' (stepsC x m (lostsF lost pk m.length)) ∧ Was now a a'
  | [], [], _, a, e, x, pk, h, _ => ⟨a, e, rfl, h, Was.refl now a⟩
  | o :: l, k :: m, hr, a, e, x, pk, h, hl => by
    rw [List.length_cons] at hl ⊢
    have h1 : ∃ a' e', stepD lost (now : Int) (a, e, pk) o = some (a', e', pk + 1) ∧ EndOk own oth lo hi a' e' (stepC x k (lostB lost (pk + 1))) ∧ Was now a a' := by
      unfold stepC
      cases hb : lostB lost (pk + 1) with
      | true =>
        rw [if_pos rfl]
        exact ⟨a, e, stepD_not (.inl hb), h, Was.refl now a⟩
      | false =>
        rw [if_neg (by decide)]
        exact end_chunk h hn hoth hown hr.1 (by omega) lost pk hb
    obtain ⟨a1, e1, k1, k2, k3⟩ := h1
    have hlen : (stepC x k (lostB lost (pk + 1))).2.length ≤ x.2.length + 1 := by
      unfold stepC
      split
      · omega
      · exact chC_len x k
    obtain ⟨a2, e2, m1, m2, m3⟩ := end_steps hn hoth hown lost l m hr.2 a1 e1 _ (pk + 1) k2 (by omega)
    refine ⟨a2, e2, ?_, m2, k3.trans m3⟩
    rw [stepsD, k1]
    simp only [Option.bind_some]
    rw [m1, show pk + 1 + m.length = pk + (m.length + 1) by omega]
  | [], _ :: _, h, _, _, _, _, _, _ => h.elim
  | _ :: _, [], h, _, _, _, _, _, _ => h.elim
/-- Of what is counted, behind a turn. -/
def Tnd (now : Nat) (a a' : AsD) : Prop := a'.st = 6 ∨ a'.st = 8 → (a'.often = a.often ∧ a'.timer = a.timer ∧ (a.st = 6 ∨ a.st = 8)) ∨ (a'.often = 0 ∧ a'.row ≠ []) ∨ (a'.often = a.often + 1 ∧ (now : Int) + 6 ≤ a'.timer ∧ a'.row ≠ [] ∧ a.timer ≤ (now : Int) ∧ (a.st = 6 ∨ a.st = 8))
theorem end_tick {now : Nat} {b : AsD} (h : EndOk own oth now (now + 60) a e x) (hw : Was now b a) (hb : (b.st = 6 ∨ b.st = 8) → b.timer ≤ (now : Int) → b.often ≤ 39) (hoth : oth ≠ 0 ∧ oth < 4294967296) (hr : x.2.length ≤ 1000) :
    ∃ f a' ev, tickD a (now : Int) = some (a', ev) ∧ EndOk own oth (now + 1) (now + 60) a' (noteE e ev) (fireC x f) ∧ Tnd now b a' := by
  by_cases q : x.1 = 6 ∨ x.1 = 8
  · have htm := h.timer q
    have hsq : a.st = 6 ∨ a.st = 8 := by rw [h.st]; exact q
    by_cases q1 : (now : Int) < a.timer
    · refine ⟨false, a, .none, tickD_idle (.inr q1), ?_, ?_⟩
      · unfold fireC
        rw [if_neg (by decide), note_none]
        exact ⟨h.t, h.key, h.p, h.st, h.sts, h.row, h.ptl, h.gpl, h.tags, h.gh, h.said, h.path, h.wait, fun _ => ⟨by omega, htm.2⟩, h.still, h.ev⟩
      · intro hq
        rcases hw.2 hq with k | ⟨k1, k2, k3⟩
        · exact .inl k
        · exact .inr (.inl ⟨k1, k3⟩)
    · have hwb : a.often = b.often ∧ a.timer = b.timer ∧ (b.st = 6 ∨ b.st = 8) := by
        rcases hw.2 hsq with k | ⟨k1, k2, k3⟩
        · exact k
        · exact absurd k2 q1
      have hb39 := hb hwb.2.2 (by rw [← hwb.2.1]; omega)
      have hwt := h.wait q
      have hp := h.path
      have ht := h.t
      refine ⟨true, (fireD a (now : Int)).1, (fireD a (now : Int)).2, ?_, ?_, ?_⟩
      · unfold tickD
        rw [if_neg (by omega), if_pos ⟨hp, by omega, by rw [hwb.1]; omega, by omega, h.p.1, h.p.2, by rw [h.row.len]; omega, h.ptl⟩]
      · unfold fireD fireC
        rw [if_neg (by rw [hwb.1]; omega), if_pos rfl]
        have hsd := h.said q
        have hpush : OutOk oth { a.said with path := (a.said.path + 1) % a.p } (if x.1 = 6 then 7 else 8) := ⟨hsd.1, hsd.2⟩
        have hmod : (a.said.path + 1) % a.p < 1000000 := Nat.lt_of_lt_of_le (Nat.mod_lt _ h.p.1) (Nat.le_of_lt h.p.2)
        have e1 : (if x.1 = 6 then ((6 : Nat), x.2 ++ [7]) else if x.1 = 8 then (8, x.2 ++ [8]) else x) = (x.1, x.2 ++ [if x.1 = 6 then 7 else 8]) := by
          rcases q with q | q
          · rw [if_pos q, if_pos q, q]
          · rw [if_neg (by omega), if_pos q, if_neg (by omega), q]
        rw [e1]
        have hm : 6 ≤ min (2 * a.wait) 60 ∧ min (2 * a.wait) 60 ≤ 60 := by omega
        refine ⟨h.t, h.key, h.p, h.st, h.sts, h.row.app hpush, h.ptl, h.gpl, h.tags, h.gh, fun _ => ⟨hsd.1, hsd.2⟩, hmod, fun _ => ⟨?_, hm.2⟩, fun _ => ?_, fun k => absurd q k, h.ev⟩
        · show 3 ≤ min (2 * a.wait) 60
          omega
        · show ((now + 1 : Nat) : Int) ≤ (now : Int) + (min (2 * a.wait) 60 : Nat) ∧ (now : Int) + (min (2 * a.wait) 60 : Nat) ≤ ((now + 60 : Nat) : Int)
          omega
      · intro _
        refine .inr (.inr ?_)
        unfold fireD
        rw [if_neg (by rw [hwb.1]; omega)]
        refine ⟨?_, ?_, app_ne _ _, by rw [← hwb.2.1]; omega, hwb.2.2⟩
        · show a.often + 1 = b.often + 1
          rw [hwb.1]
        · show (now : Int) + 6 ≤ (now : Int) + (min (2 * a.wait) 60 : Nat)
          omega
  · refine ⟨false, a, .none, tickD_idle (.inl (h.still q)), ?_, ?_⟩
    · unfold fireC
      rw [if_neg (by decide), note_none]
      exact ⟨h.t, h.key, h.p, h.st, h.sts, h.row, h.ptl, h.gpl, h.tags, h.gh, h.said, h.path, h.wait, fun k => absurd k q, h.still, h.ev⟩
    · intro hq
      rw [h.st] at hq
      exact absurd hq q
theorem end_drain {now : Nat} {b : AsD} (h : EndOk own oth (now + 1) (now + 60) a e x) (hw : Tnd now b a) {cum : Nat} (hcum : cum < 4294967296) : EndOk own oth (now + 1) (now + 60) (drainD a (now : Int) cum) e (drainC x) ∧ Tnd now b (drainD a (now : Int) cum) := by
  unfold drainD drainC
  rw [h.st]
  by_cases q1 : x.1 = 5
  · rw [if_pos q1, if_pos q1]
    exact ⟨h.run (by omega) (by omega) (.inl ⟨rfl, rfl⟩) ⟨rfl, .inl ⟨rfl, cum, hcum, rfl⟩⟩, fun _ => .inr (.inl ⟨rfl, app_ne _ _⟩)⟩
  · rw [if_neg q1, if_neg q1]
    by_cases q2 : x.1 = 7
    · rw [if_pos q2, if_pos q2]
      exact ⟨h.run (by omega) (by omega) (.inr ⟨rfl, rfl⟩) ⟨rfl, .inr (.inl ⟨rfl, rfl⟩)⟩, fun _ => .inr (.inl ⟨rfl, app_ne _ _⟩)⟩
    · rw [if_neg q2, if_neg q2]
      exact ⟨h, hw⟩
theorem drain_len {now : Int} (a : AsD) (cum : Nat) : (drainD a now cum).row.length ≤ a.row.length + 1 := by
  unfold drainD runD
  repeat' split
  all_goals simp
theorem fireC_len (x : Nat × List Nat) (f : Bool) : (fireC x f).2.length ≤ x.2.length + 1 := by
  unfold fireC
  repeat' split
  all_goals simp
theorem stepsC_len : ∀ (m : List Nat) (x : Nat × List Nat) (ls : List Bool), (stepsC x m ls).2.length ≤ x.2.length + m.length
  | [], x, _ => by
    cases x
    simp [stepsC]
  | k :: m, x, [] => by
    simp [stepsC]
  | k :: m, x, l :: ls => by
    rw [stepsC]
    have h1 := stepsC_len m (stepC x k l) ls
    have h2 : (stepC x k l).2.length ≤ x.2.length + 1 := by
      unfold stepC
      split
      · omega
      · exact chC_len x k
    rw [List.length_cons]
    omega
end Go.FL

/- Two ends part, whatever of the next 32 packets is lost, told plainly: the measure of what is left falls at each turn. Conditions: none. No walk. -/
import Derived.Test.YtiimlanbbfhkjaaDoorAsPartM
set_option linter.unusedSimpArgs false
set_option linter.unusedVariables false


namespace Go.FL

theorem EndOk.start {own oth n : Nat} {a : AsD} {e : EvD} {s : Nat} {r : List Nat} (h : EndOk own oth (n + 1) (n + 60) a e (s, r)) : EndOk own oth (n + 1) (n + 1 + 60) { a with row := [] } e (s, []) :=
  ⟨h.t, h.key, h.p, h.st, h.sts, trivial, h.ptl, h.gpl, h.tags, h.gh, h.said, h.path, h.wait, fun q => ⟨(h.timer q).1, by have := (h.timer q).2; show a.timer ≤ _; omega⟩, h.still, h.ev⟩
theorem part_turn {dt lost : Nat} {T : TwoD} {c : Cls} (hdt : dt ≠ 0 ∧ dt < 4294967296) (ha : EndOk 1 dt (T.now + 1) (T.now + 60) T.a T.ea (c.sa, c.ra)) (hb : EndOk dt 1 (T.now + 1) (T.now + 60) T.b T.eb (c.sb, c.rb)) (hc : c.ra.length ≤ 2 ∧ c.rb.length ≤ 2) (h0 : T.now < 900000 ∧ T.pk < 900000)
    (oa : T.a.st = 6 ∨ T.a.st = 8 → T.a.often ≤ 39) (ob : T.b.st = 6 ∨ T.b.st = 8 → T.b.often ≤ 39) :
    ∃ T' fa fb, turnD lost T = some T' ∧ EndOk 1 dt (T'.now + 1) (T'.now + 60) T'.a T'.ea (endC c.sa c.rb (lostsF lost (T.pk + c.ra.length) c.rb.length) fa) ∧ EndOk dt 1 (T'.now + 1) (T'.now + 60) T'.b T'.eb (endC c.sb c.ra (lostsF lost T.pk c.ra.length) fb) ∧ T'.now = T.now + 1 ∧ T'.pk = T.pk + c.ra.length + c.rb.length ∧ Tnd (T.now + 1) T.a T'.a ∧ Tnd (T.now + 1) T.b T'.b := by
  obtain ⟨b1, eb1, h1, h2, h3⟩ := end_steps (now := T.now + 1) (lo := T.now + 1) (hi := T.now + 1 + 60) (oth := 1) ⟨by omega, by omega⟩ ⟨by omega, by omega⟩ hdt.1 lost T.a.row c.ra ha.row { T.b with row := [] } T.eb (c.sb, []) T.pk hb.start (by show 0 + _ ≤ _; omega)
  obtain ⟨a1, ea1, k1, k2, k3⟩ := end_steps (now := T.now + 1) (lo := T.now + 1) (hi := T.now + 1 + 60) (own := 1) ⟨by omega, by omega⟩ hdt (by omega) lost T.b.row c.rb hb.row { T.a with row := [] } T.ea (c.sa, []) (T.pk + c.ra.length) ha.start (by show 0 + _ ≤ _; omega)
  have lb1 := stepsC_len c.ra (c.sb, []) (lostsF lost T.pk c.ra.length)
  have la1 := stepsC_len c.rb (c.sa, []) (lostsF lost (T.pk + c.ra.length) c.rb.length)
  simp only [List.length_nil, Nat.zero_add] at lb1 la1
  obtain ⟨fb, b2, vb, m1, m2, m3⟩ := end_tick h2 h3 (fun q _ => ob q) ⟨by omega, by omega⟩ (by omega)
  obtain ⟨fa, a2, va, n1, n2, n3⟩ := end_tick k2 k3 (fun q _ => oa q) hdt (by omega)
  obtain ⟨d1, d2⟩ := end_drain m2 m3 (cum := 8) (by omega)
  obtain ⟨g1, g2⟩ := end_drain n2 n3 (cum := 7) (by omega)
  have lb2 := fireC_len (stepsC (c.sb, []) c.ra (lostsF lost T.pk c.ra.length)) fb
  have la2 := fireC_len (stepsC (c.sa, []) c.rb (lostsF lost (T.pk + c.ra.length) c.rb.length)) fa
  refine ⟨_, fa, fb, turnD_mk (b1, eb1, T.pk + c.ra.length) (a1, ea1, T.pk + c.ra.length + c.rb.length) (a2, va) (b2, vb) ⟨by omega, by omega, by rw [ha.row.len]; show c.ra.length ≤ _; omega, by rw [hb.row.len]; show c.rb.length ≤ _; omega⟩ h1 k1 n1 m1 ⟨?_, ?_, ?_⟩, g1, d1, rfl, rfl, g2, d2⟩
  · show a2.row.length ≤ _
    rw [n2.row.len]
    omega
  · show b2.row.length ≤ _
    rw [m2.row.len]
    omega
  · show T.pk + c.ra.length + c.rb.length < _
    omega
/-- How often an end has said what it says: bounded by what was on its way. -/
def OfOk (T : TwoD) (c : Cls) (a : AsD) (r : List Nat) : Prop := a.st = 6 ∨ a.st = 8 → (T.pk < 32 → a.often ≤ T.pk + r.length) ∧ (32 ≤ T.pk → a.often ≤ 37 ∨ (a.often ≤ 38 ∧ quietC c = false ∧ (T.now : Int) + (muC c : Nat) < a.timer))
theorem OfOk.le {T : TwoD} {c : Cls} {a : AsD} {r : List Nat} (h : OfOk T c a r) (hr : r.length ≤ 2) : a.st = 6 ∨ a.st = 8 → a.often ≤ 39 := fun q => by
  have := h q
  by_cases hp : T.pk < 32
  · have := this.1 hp
    omega
  · have := this.2 (by omega)
    omega
structure PInv (dt : Nat) (T : TwoD) (c : Cls) : Prop where
  a : EndOk 1 dt (T.now + 1) (T.now + 60) T.a T.ea (c.sa, c.ra)
  b : EndOk dt 1 (T.now + 1) (T.now + 60) T.b T.eb (c.sb, c.rb)
  mem : memC c = true
  pk : T.pk ≤ 4 * T.now
  oa : OfOk T c T.a c.ra
  ob : OfOk T c T.b c.rb
theorem of_turn {T T' : TwoD} {c c' : Cls} {a a' : AsD} {r r' : List Nat} {n : Nat} (h : OfOk T c a r) (ht : Tnd (T.now + 1) a a') (hr' : a'.row.length = r'.length) (hnow : T'.now = T.now + 1) (hpk : T'.pk = T.pk + n) (hrn : r.length ≤ n) (hn : n ≤ 4) (hr : r.length ≤ 2) (hr2 : r'.length ≤ 2) (hmu : muC c' ≤ 4)
    (hq : r' ≠ [] → quietC c' = false) (hon : a'.st = 6 ∨ a'.st = 8 → 32 ≤ T.pk → quietC c = false → quietC c' = false ∧ muC c' + 1 ≤ muC c) : OfOk T' c' a' r' := by
  intro hs
  have hw := ht hs
  have hne : a'.row ≠ [] → 1 ≤ r'.length := fun k => by
    rw [← hr']
    exact List.length_pos_iff.mpr k
  have hne' : a'.row ≠ [] → r' ≠ [] := fun k e => by
    have := hne k
    rw [e] at this
    simp at this
  constructor
  · intro hp
    rcases hw with ⟨k1, k2, k3⟩ | ⟨k1, k2⟩ | ⟨k1, k2, k3, k4, k5⟩
    · have := (h k3).1 (by omega)
      omega
    · omega
    · have := (h k5).1 (by omega)
      have := hne k3
      omega
  · intro hp
    by_cases hp0 : T.pk < 32
    · refine .inl ?_
      rcases hw with ⟨k1, k2, k3⟩ | ⟨k1, k2⟩ | ⟨k1, k2, k3, k4, k5⟩
      · have := (h k3).1 hp0
        omega
      · omega
      · have := (h k5).1 hp0
        omega
    · rcases hw with ⟨k1, k2, k3⟩ | ⟨k1, k2⟩ | ⟨k1, k2, k3, k4, k5⟩
      · rcases (h k3).2 (by omega) with m | ⟨m1, m2, m3⟩
        · exact .inl (by omega)
        · have := hon hs (by omega) m2
          exact .inr ⟨by omega, this.1, by omega⟩
      · exact .inl (by omega)
      · rcases (h k5).2 (by omega) with m | ⟨m1, m2, m3⟩
        · exact .inr ⟨by omega, hq (hne' k3), by omega⟩
        · have := (hon hs (by omega) m2).2
          exfalso
          omega
theorem quiet_of {c : Cls} (h : c.ra ≠ [] ∨ c.rb ≠ []) : quietC c = false := by
  cases hq : quietC c with
  | false => rfl
  | true =>
    have := quiet_iff.mp hq
    rcases h with k | k
    · exact absurd this.1 k
    · exact absurd this.2 k
/-- By when something is said. -/
def Due (T : TwoD) (c : Cls) (d : Nat) : Prop := (1 ≤ d ∧ d ≤ 60) ∧ ((c.sa = 5 ∨ c.sb = 5) ∨ ((c.sa = 6 ∨ c.sa = 8) ∧ T.a.timer ≤ (T.now : Int) + (d : Nat)) ∨ ((c.sb = 6 ∨ c.sb = 8) ∧ T.b.timer ≤ (T.now : Int) + (d : Nat)))
def baseN (pk : Nat) : Nat := if 32 ≤ pk then 10 else 100 + 62 * (32 - pk)
/-- So many turns at most are left. -/
def Meas (T : TwoD) (c : Cls) (N : Nat) : Prop := doneC c = true ∨ (doneC c = false ∧ quietC c = false ∧ (if 32 ≤ T.pk then muC c else baseN T.pk) ≤ N) ∨ (doneC c = false ∧ quietC c = true ∧ ∃ d, Due T c d ∧ baseN T.pk + d ≤ N)
theorem PInv.due {dt : Nat} {T : TwoD} {c : Cls} (h : PInv dt T c) (hd : doneC c = false) : Due T c 60 := by
  obtain ⟨-, -, -, k, -⟩ := cls_small h.mem
  refine ⟨⟨by omega, by omega⟩, ?_⟩
  rcases k hd with (k | k) | (k | k)
  · exact .inl (.inl k)
  · have := (h.a.timer k).2
    exact .inr (.inl ⟨k, by omega⟩)
  · exact .inl (.inr k)
  · have := (h.b.timer k).2
    exact .inr (.inr ⟨k, by omega⟩)
theorem baseN_le (pk : Nat) : baseN pk ≤ 2084 := by
  unfold baseN
  split <;> omega
theorem PInv.meas {dt : Nat} {T : TwoD} {c : Cls} (h : PInv dt T c) : Meas T c 2144 := by
  obtain ⟨-, -, k3, -, -⟩ := cls_small h.mem
  have := baseN_le T.pk
  cases hd : doneC c with
  | true => exact .inl hd
  | false =>
    cases hq : quietC c with
    | false =>
      refine .inr (.inl ⟨hd, hq, ?_⟩)
      split <;> omega
    | true => exact .inr (.inr ⟨hd, hq, 60, h.due hd, by omega⟩)
theorem part_step {dt lost : Nat} {T : TwoD} {c : Cls} (hdt : dt ≠ 0 ∧ dt < 4294967296) (hlost : lost < 4294967296) (h : PInv dt T c) (hnow : T.now < 200000) :
    ∃ T' c', turnD lost T = some T' ∧ PInv dt T' c' ∧ T'.now = T.now + 1 ∧ ∀ N, Meas T c N → doneC c = true ∨ (1 ≤ N ∧ Meas T' c' (N - 1)) := by
  obtain ⟨s1, s2, s3, s4, -⟩ := cls_small h.mem
  have hpk := h.pk
  obtain ⟨T', fa, fb, t1, t2, t3, t4, t5, t6, t7⟩ := part_turn (lost := lost) hdt h.a h.b ⟨s1, s2⟩ ⟨by omega, by omega⟩ (h.oa.le s1) (h.ob.le s2)
  obtain ⟨c', hc'⟩ : ∃ c', c' = nextC c (lostsF lost T.pk c.ra.length) (lostsF lost (T.pk + c.ra.length) c.rb.length) fa fb := ⟨_, rfl⟩
  obtain ⟨n1, n2, n3⟩ := next_mem h.mem (la := lostsF lost T.pk c.ra.length) (lb := lostsF lost (T.pk + c.ra.length) c.rb.length) (lostsF_len _ _ _) (lostsF_len _ _ _) fa fb
  rw [← hc'] at n1 n2 n3
  have ha : EndOk 1 dt (T'.now + 1) (T'.now + 60) T'.a T'.ea (c'.sa, c'.ra) := by
    rw [hc']
    exact t2
  have hb : EndOk dt 1 (T'.now + 1) (T'.now + 60) T'.b T'.eb (c'.sb, c'.rb) := by
    rw [hc']
    exact t3
  obtain ⟨u1, u2, u3, u4, -⟩ := cls_small n1
  have hon0 : 32 ≤ T.pk → quietC c = false → doneC c = false → 1 ≤ muC c ∧ (doneC c' = true ∨ quietC c' = false ∧ muC c' + 1 ≤ muC c) := fun hp hq hd => by
    have := next_on h.mem hq hd fa fb
    rw [← lostsF_late hlost c.ra.length T.pk hp, ← lostsF_late hlost c.rb.length (T.pk + c.ra.length) (by omega), ← hc'] at this
    exact this
  have hon : doneC c' = false → 32 ≤ T.pk → quietC c = false → quietC c' = false ∧ muC c' + 1 ≤ muC c := fun hd' hp hq => by
    cases hd : doneC c with
    | true =>
      rw [n3 hd] at hd'
      cases hd'
    | false =>
      rcases (hon0 hp hq hd).2 with k | k
      · rw [k] at hd'
        cases hd'
      · exact k
  have hda : T'.a.st = 6 ∨ T'.a.st = 8 → doneC c' = false := fun q => by
    cases hd : doneC c' with
    | false => rfl
    | true =>
      have := (done_iff.mp hd).1
      have e := ha.st
      simp only at e
      omega
  have hdb : T'.b.st = 6 ∨ T'.b.st = 8 → doneC c' = false := fun q => by
    cases hd : doneC c' with
    | false => rfl
    | true =>
      have := (done_iff.mp hd).2
      have e := hb.st
      simp only at e
      omega
  have hpk' : T'.pk = T.pk + (c.ra.length + c.rb.length) := by omega
  refine ⟨T', c', t1, ⟨ha, hb, n1, by omega, ?_, ?_⟩, t4, fun N hN => ?_⟩
  · exact of_turn h.oa t6 ha.row.len t4 hpk' (by omega) (by omega) s1 u1 u3 (fun k => quiet_of (.inl k)) (fun q => hon (hda q))
  · exact of_turn h.ob t7 hb.row.len t4 hpk' (by omega) (by omega) s2 u2 u3 (fun k => quiet_of (.inr k)) (fun q => hon (hdb q))
  · rcases hN with hd | ⟨hd, hq, hN⟩ | ⟨hd, hq, d, hdue, hN⟩
    · exact .inl hd
    · refine .inr ?_
      by_cases hp : 32 ≤ T.pk
      · rw [if_pos hp] at hN
        obtain ⟨k1, k2⟩ := hon0 hp hq hd
        refine ⟨by omega, ?_⟩
        rcases k2 with k2 | ⟨k2, k3⟩
        · exact .inl k2
        · cases hd' : doneC c' with
          | true => exact .inl hd'
          | false =>
            refine .inr (.inl ⟨hd', k2, ?_⟩)
            rw [if_pos (by omega)]
            omega
      · rw [if_neg hp] at hN
        have hb0 : baseN T.pk = 100 + 62 * (32 - T.pk) := by
          unfold baseN
          rw [if_neg hp]
        have hln : 1 ≤ c.ra.length + c.rb.length := by
          by_cases e1 : c.ra = []
          · by_cases e2 : c.rb = []
            · rw [quiet_iff.mpr ⟨e1, e2⟩] at hq
              cases hq
            · have := List.length_pos_iff.mpr e2
              omega
          · have := List.length_pos_iff.mpr e1
            omega
        have hb1 : baseN T'.pk + 60 ≤ N - 1 := by
          unfold baseN
          split <;> omega
        refine ⟨by omega, ?_⟩
        cases hd' : doneC c' with
        | true => exact .inl hd'
        | false =>
          cases hq' : quietC c' with
          | false =>
            refine .inr (.inl ⟨hd', hq', ?_⟩)
            split <;> omega
          | true =>
            have hP : PInv dt T' c' := ⟨ha, hb, n1, by omega, of_turn h.oa t6 ha.row.len t4 hpk' (by omega) (by omega) s1 u1 u3 (fun k => quiet_of (.inl k)) (fun q => hon (hda q)), of_turn h.ob t7 hb.row.len t4 hpk' (by omega) (by omega) s2 u2 u3 (fun k => quiet_of (.inr k)) (fun q => hon (hdb q))⟩
            exact .inr (.inr ⟨hd', hq', 60, hP.due hd', hb1⟩)
    · refine .inr ?_
      obtain ⟨⟨d1, d2⟩, hdue⟩ := hdue
      have hqe := quiet_iff.mp hq
      have hp : T'.pk = T.pk := by
        rw [hpk', hqe.1, hqe.2]
        rfl
      have hb10 : 10 ≤ baseN T.pk := by
        unfold baseN
        split <;> omega
      refine ⟨by omega, ?_⟩
      cases hd' : doneC c' with
      | true => exact .inl hd'
      | false =>
        cases hq' : quietC c' with
        | false =>
          refine .inr (.inl ⟨hd', hq', ?_⟩)
          rw [hp]
          split <;> omega
        | true =>
          obtain ⟨e1, e2, e3⟩ := n2 hq hq'
          have hqe' := quiet_iff.mp hq'
          have ea : T'.a.row = [] := List.length_eq_zero_iff.mp (by rw [ha.row.len]; show c'.ra.length = 0; rw [hqe'.1]; rfl)
          have eb : T'.b.row = [] := List.length_eq_zero_iff.mp (by rw [hb.row.len]; show c'.rb.length = 0; rw [hqe'.2]; rfl)
          have key : 2 ≤ d ∧ (((c'.sa = 6 ∨ c'.sa = 8) ∧ T'.a.timer ≤ (T.now : Int) + (d : Nat)) ∨ ((c'.sb = 6 ∨ c'.sb = 8) ∧ T'.b.timer ≤ (T.now : Int) + (d : Nat))) := by
            rcases hdue with k | ⟨k1, k2⟩ | ⟨k1, k2⟩
            · exfalso
              omega
            · have q : c'.sa = 6 ∨ c'.sa = 8 := by rw [e1]; exact k1
              have lo := (ha.timer q).1
              rcases t6 (by rw [ha.st]; exact q) with ⟨m1, m2, m3⟩ | ⟨m1, m2⟩ | ⟨m1, m2, m3, -⟩
              · exact ⟨by omega, .inl ⟨q, by omega⟩⟩
              · exact absurd ea m2
              · exact absurd ea m3
            · have q : c'.sb = 6 ∨ c'.sb = 8 := by rw [e1]; exact k1
              have lo := (hb.timer q).1
              rcases t7 (by rw [hb.st]; exact q) with ⟨m1, m2, m3⟩ | ⟨m1, m2⟩ | ⟨m1, m2, m3, -⟩
              · exact ⟨by omega, .inr ⟨q, by omega⟩⟩
              · exact absurd eb m2
              · exact absurd eb m3
          refine .inr (.inr ⟨hd', hq', d - 1, ⟨⟨by omega, by omega⟩, .inr ?_⟩, by rw [hp]; omega⟩)
          rcases key.2 with ⟨k1, k2⟩ | ⟨k1, k2⟩
          · exact .inl ⟨k1, by omega⟩
          · exact .inr ⟨k1, by omega⟩
/-- The two of them that have met, and of which the one is shut down. -/
def TQ (x : PairK) : TwoD := { TS x with pk := 0 }
theorem part_start (x : PairK) (h : x.Ok) (hp : 1 ≤ x.p ∧ x.p < 1000000) : PInv x.dt (TQ x) ⟨5, [], 4, []⟩ := by
  refine ⟨⟨rfl, Nat.le_of_ble_eq_true rfl, hp, rfl, .inr (.inr (.inl rfl)), trivial, h.dt_lt, Nat.le_of_ble_eq_true rfl, fun _ => ⟨rfl, rfl⟩, fun k => (by cases k), fun k => (by rcases k with k | k <;> cases k), Nat.le_of_ble_eq_true rfl, fun k => (by rcases k with k | k <;> cases k), fun k => (by rcases k with k | k <;> cases k), fun _ => rfl, fun k => (by cases k)⟩,
    ⟨rfl, Nat.le_of_ble_eq_true rfl, hp, rfl, .inr (.inl rfl), trivial, Nat.le_of_ble_eq_true rfl, Nat.le_of_ble_eq_true rfl, fun _ => ⟨rfl, rfl⟩, fun k => (by cases k), fun k => (by rcases k with k | k <;> cases k), Nat.le_of_ble_eq_true rfl, fun k => (by rcases k with k | k <;> cases k), fun k => (by rcases k with k | k <;> cases k), fun _ => rfl, fun k => (by cases k)⟩, by decide, Nat.le_of_ble_eq_true rfl, fun k => ?_, fun k => ?_⟩
  · have : (5 : Nat) = 6 ∨ (5 : Nat) = 8 := k
    omega
  · have : (4 : Nat) = 6 ∨ (4 : Nat) = 8 := k
    omega
theorem part_shut {dt : Nat} {T : TwoD} {c : Cls} (h : PInv dt T c) (hb : T.b.st = 4) : PInv dt { T with b := { T.b with st := 5 } } ⟨c.sa, c.ra, 5, c.rb⟩ := by
  have e : c.sb = 4 := h.b.st.symm.trans hb
  have hm := (cls_small h.mem).2.2.2.2 e
  refine ⟨h.a, h.b.to (.inl e) (.inl rfl), hm.1, h.pk, ?_, ?_⟩
  · intro q
    have k := h.oa q
    refine ⟨k.1, fun hp => ?_⟩
    rcases k.2 hp with m | ⟨m1, m2, m3⟩
    · exact .inl m
    · exact .inr ⟨m1, m2, Int.lt_of_le_of_lt (by have := hm.2; show (T.now : Int) + (muC ⟨c.sa, c.ra, 5, c.rb⟩ : Nat) ≤ (T.now : Int) + (muC c : Nat); omega) m3⟩
  · intro q
    have : (5 : Nat) = 6 ∨ (5 : Nat) = 8 := q
    omega
theorem part_done {dt : Nat} {T : TwoD} {c : Cls} (h : PInv dt T c) (hd : doneC c = true) : partedD T = true := by
  have k := done_iff.mp hd
  have a1 := h.a.st
  have b1 := h.b.st
  have a2 := h.a.ev k.1
  have b2 := h.b.ev k.2
  simp only at a1 b1
  unfold partedD
  rw [a1, b1, k.1, k.2, a2.1, a2.2, b2.1, b2.2]
  rfl
end Go.FL

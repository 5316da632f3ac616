/- Two ends meet, and part, told plainly: what each turn does where nothing is lost. Conditions: none. No walk. -/
import Derived.Test.YtiimlanbbfhkjaaDoorAsMeet
set_option linter.unusedSimpArgs false
set_option linter.unusedVariables false


namespace Go.FL

theorem initGet_chk (kind : UInt8) (i : InitD) (h : i.wf) (hc : i.ck.length ≤ 65531) (hk : kind = 1 ∨ kind = 2) (hk1 : kind ≠ 2 → i.ck = []) (h0 : kind = 2 → 0 < i.ck.length) (hm : i.may) : initGet (i.chk kind) = (i, 0) := by
  have hb := init_back kind i h hc hk1
  obtain ⟨m1, m2, m3⟩ := hm
  unfold initGet
  rw [if_pos]
  · rw [hb]
  · refine ⟨?_, by rw [hb]; rfl⟩
    unfold initMay initB
    rw [hb, show (i.chk kind).k = kind from rfl]
    rcases hk with rfl | rfl
    · simp [m1, m2, m3]
    · simp [m1, m2, m3, h0 rfl]
theorem cumGet_chk (c : Nat) (h : c < 4294967296) : cumGet (cumChk c) = (c, 0) := by
  have e : numAt (cumChk c).b 0 4 = c := by
    have := numAt_be [] [] 0 4 c rfl h
    simpa [cumChk] using this
  unfold cumGet
  rw [e, if_pos rfl]
theorem deriveOf_ne (key text : List UInt8) : (deriveOf key text).1 ≠ 0 := by
  unfold deriveOf
  simp only
  split <;> omega
def kA : List UInt8 := [97]
def kB : List UInt8 := [98]
def iA : InitD := wordsD 1 10
/-- What is drawn anew where two ends meet: the tag and the TSN of the one that listens, and its cookie's bytes; p: how many paths. -/
structure PairK where
  p : Nat
  dt : Nat
  ds : Nat
  cb : List UInt8
def iB (x : PairK) : InitD := ⟨x.dt, 65536, 2, 2, x.ds, x.cb⟩
def ckB (x : PairK) : CookD := ⟨1, x.dt, 1, x.ds, 10, 65536, 2, 2⟩
structure PairK.Ok (x : PairK) : Prop where
  dt_lt : x.dt < 4294967296
  ds_lt : x.ds < 4294967296
  dt_ne : x.dt ≠ 0
  len : x.cb.length = 64
  tells : cookTells kB x.cb = (0, ckB x)
  inits : deriveOf kB ((iA.chk 1).b ++ beBytes 8 1) = (x.dt, x.ds)
  cook : cookBytes kB (ckB x) = x.cb
theorem pairK_ex (p : Nat) : ∃ x : PairK, x.p = p ∧ x.Ok := by
  obtain ⟨d, hd⟩ : ∃ d, d = deriveOf kB ((iA.chk 1).b ++ beBytes 8 1) := ⟨_, rfl⟩
  have hl := deriveOf_lt kB ((iA.chk 1).b ++ beBytes 8 1)
  have hn := deriveOf_ne kB ((iA.chk 1).b ++ beBytes 8 1)
  rw [← hd] at hl hn
  obtain ⟨c, hc⟩ : ∃ c : CookD, c = ⟨1, d.1, 1, d.2, 10, 65536, 2, 2⟩ := ⟨_, rfl⟩
  have hw : c.wf := by
    rw [hc]
    exact ⟨⟨by simp, by simp⟩, hl.1, by simp, hl.2, by simp, by simp, by simp, by simp⟩
  have hm : c.may := by
    rw [hc]
    exact ⟨by simp, hn, by simp, by simp, by simp⟩
  refine ⟨⟨p, d.1, d.2, cookBytes kB c⟩, rfl, ⟨hl.1, hl.2, hn, cookBytes_length _ _, ?_, by rw [← hd], ?_⟩⟩
  · show cookTells kB (cookBytes kB c) = (0, _)
    rw [cookTells_back kB c hw, if_pos hm, hc]
    rfl
  · show cookBytes kB (ckB _) = cookBytes kB c
    rw [hc]
    rfl
theorem iA_get : initGet (iA.chk 1) = (iA, 0) := initGet_chk 1 iA ⟨by decide, by decide, by decide, by decide, by decide⟩ (by decide) (.inl rfl) (fun _ => rfl) (fun h => absurd h (by decide)) ⟨by decide, by decide, by decide⟩
theorem iB_get {x : PairK} (h : x.Ok) : initGet ((iB x).chk 2) = (iB x, 0) := initGet_chk 2 (iB x) ⟨h.dt_lt, (by simp [iB]), (by simp [iB]), (by simp [iB]), h.ds_lt⟩ (by rw [show (iB x).ck = x.cb from rfl, h.len]; omega) (.inr rfl) (fun h => absurd rfl h) (fun _ => by rw [show (iB x).ck = x.cb from rfl, h.len]; omega) ⟨h.dt_ne, by simp [iB], by simp [iB]⟩
theorem iB_len {x : PairK} (h : x.Ok) : ((iB x).chk 2).b.length ≤ 1000000 := by
  show ((iB x).body 2).length ≤ _
  unfold InitD.body
  rw [if_pos rfl, padded_length, (iB x).more_length, show (iB x).ck = x.cb from rfl, h.len]
  decide
/-- The ends as they begin. -/
def aS0 (x : PairK) : AsD := ⟨x.p, 40, kA, 2, 1, 10, .zero, 0, 0, [⟨0, 0, iA.chk 1⟩], 3, ⟨0, 0, iA.chk 1⟩, 3, 0⟩
def bS0 (x : PairK) : AsD := ⟨x.p, 40, kB, 1, 2, 20, .zero, 0, 0, [], -1, ⟨0, 0, ⟨0, 0, []⟩⟩, 0, 0⟩
theorem open_a (x : PairK) : openD (newD x.p 40 kA) 0 true 1 10 = (aS0 x, 0) := by
  unfold openD
  rw [if_pos (show (newD x.p 40 kA).st = 0 from rfl), if_neg (by decide), if_pos rfl]
  rfl
theorem open_b (x : PairK) : openD (newD x.p 40 kB) 0 false 2 20 = (bS0 x, 0) := rfl
theorem open_b2 (x : PairK) : openD (bS0 x) 0 false 2 20 = (bS0 x, 3) := rfl
theorem turnD_mk {lost : Nat} {T : TwoD} (x y : AsD × EvD × Nat) (p q : AsD × EvD) (h0 : T.now < 1000000 ∧ T.pk < 1000000 ∧ T.a.row.length ≤ 1000000 ∧ T.b.row.length ≤ 1000000) (h1 : stepsD lost (T.now + 1 : Nat) ({ T.b with row := [] }, T.eb, T.pk) T.a.row = some x) (h2 : stepsD lost (T.now + 1 : Nat) ({ T.a with row := [] }, T.ea, x.2.2) T.b.row = some y)
    (h3 : tickD y.1 (T.now + 1 : Nat) = some p) (h4 : tickD x.1 (T.now + 1 : Nat) = some q) (h5 : p.1.row.length ≤ 1000000 ∧ q.1.row.length ≤ 1000000 ∧ y.2.2 < 2000000) :
    turnD lost T = some ⟨drainD p.1 (T.now + 1 : Nat) 7, drainD q.1 (T.now + 1 : Nat) 8, noteE y.2.1 p.2, noteE x.2.1 q.2, T.now + 1, y.2.2⟩ := by
  unfold turnD
  rw [if_pos h0, h1]
  simp only [Option.bind_some]
  rw [h2]
  simp only [Option.bind_some]
  rw [h3]
  simp only [Option.bind_some]
  rw [h4]
  simp only [Option.bind_some]
  rw [if_pos h5]
theorem stepsD_one {lost : Nat} {now : Int} {x y : AsD × EvD × Nat} {o : OutD} (h : stepD lost now x o = some y) : stepsD lost now x [o] = some y := by
  simp only [stepsD, h, Option.bind_some]
theorem stepD_in {lost : Nat} {now : Int} {a : AsD} {ev : EvD} {pk : Nat} {o : OutD} {r : AsD × EvD} (hl : lostB lost (pk + 1) = false) (hs : a.st < 256) (ht : takesB a o.tag [o.c] = true) (hc : chunkD a now o.path o.c = some r) : stepD lost now (a, ev, pk) o = some (r.1, noteE ev r.2, pk + 1) := by
  unfold stepD
  simp only
  rw [if_neg (by rw [hl]; decide), if_neg (by omega), if_pos ht, hc]
  rfl
theorem lostB_zero (n : Nat) : lostB 0 n = false := by
  unfold lostB
  simp
theorem tickD_idle {a : AsD} {now : Int} (h : a.timer = -1 ∨ now < a.timer) : tickD a now = some (a, .none) := by
  unfold tickD
  rw [if_pos h]
theorem note_none (e : EvD) : noteE e .none = e := rfl
/-- The two of them behind each of the first four turns. -/
def eB1 (x : PairK) : EvD := ⟨true, false, false, ⟨1, 65536, 2, 2, 10, []⟩, x.ds⟩
def eA1 (x : PairK) : EvD := ⟨true, false, false, { iB x with ck := [] }, 10⟩
def aM (x : PairK) : AsD := ⟨x.p, 40, kA, 4, 1, 10, (iB x), 0, 0, [], -1, ⟨0, x.dt, ⟨10, 0, x.cb⟩⟩, 3, 0⟩
def bM (x : PairK) : AsD := ⟨x.p, 40, kB, 4, x.dt, x.ds, ⟨1, 65536, 2, 2, 10, []⟩, 0, 0, [], -1, ⟨0, 0, ⟨0, 0, []⟩⟩, 0, 0⟩
def T0 (x : PairK) : TwoD := ⟨aS0 x, bS0 x, .none, .none, 0, 0⟩
def T1 (x : PairK) : TwoD := ⟨{ aS0 x with row := [] }, { bS0 x with row := [⟨0, 1, (iB x).chk 2⟩] }, .none, .none, 1, 1⟩
def T2 (x : PairK) : TwoD := ⟨⟨x.p, 40, kA, 3, 1, 10, (iB x), 0, 0, [⟨0, x.dt, ⟨10, 0, x.cb⟩⟩], 5, ⟨0, x.dt, ⟨10, 0, x.cb⟩⟩, 3, 0⟩, bS0 x, .none, .none, 2, 2⟩
def T3 (x : PairK) : TwoD := ⟨{ (T2 x).a with row := [] }, { bM x with row := [⟨0, 1, ⟨11, 0, []⟩⟩] }, .none, (eB1 x), 3, 3⟩
def T4 (x : PairK) : TwoD := ⟨aM x, bM x, (eA1 x), (eB1 x), 4, 4⟩
theorem okA_of {a : AsD} (h1 : a.key.length ≤ 64) (h2 : a.row.length ≤ 1000000) (h3 : a.peer.tag < 4294967296) (h4 : a.gp < 4294967296) (h5 : a.st < 256) : okA a = true := by
  unfold okA
  exact decide_eq_true ⟨h1, h2, h3, h4, h5⟩
theorem chunkD_init {a : AsD} {now : Int} {path : Nat} {c : Chk} (h : okA a = true ∧ c.b.length ≤ 1000000) (hk : c.k = 1) (h1 : a.st = 1 ∧ (initGet c).2 = 0) : chunkD a now path c = some (onInitD a now path c, .none) := by
  unfold chunkD
  rw [if_pos h, if_pos hk, if_pos h1]
theorem chunkD_ack {a : AsD} {now : Int} {path : Nat} {c : Chk} (h : okA a = true ∧ c.b.length ≤ 1000000) (hk : c.k = 2) : chunkD a now path c = some (onInitAckD a now c, .none) := by
  unfold chunkD
  rw [if_pos h, if_neg (by rw [hk]; decide), if_pos hk]
theorem chunkD_echo {a : AsD} {now : Int} {path : Nat} {c : Chk} {x : CookD} (h : okA a = true ∧ c.b.length ≤ 1000000) (hk : c.k = 10) (h1 : a.st = 1) (h2 : cookTells a.key c.b = (0, x)) (h3 : freshB x.born now 100 = true) : chunkD a now path c = some (onEchoD a path x, ⟨true, false, false, (onEchoD a path x).peer, x.otsn⟩) := by
  unfold chunkD
  rw [if_pos h, if_neg (by rw [hk]; decide), if_neg (by rw [hk]; decide), if_pos hk, h2, if_pos ⟨h1, rfl, h3⟩]
theorem chunkD_cack {a : AsD} {now : Int} {path : Nat} {c : Chk} (h : okA a = true ∧ c.b.length ≤ 1000000) (hk : c.k = 11) (h1 : a.st = 3) : chunkD a now path c = some ({ a with st := 4, timer := -1 }, ⟨true, false, false, { a.peer with ck := [] }, a.tsn⟩) := by
  unfold chunkD
  rw [if_pos h, if_neg (by rw [hk]; decide), if_neg (by rw [hk]; decide), if_neg (by rw [hk]; decide), if_pos hk, if_pos h1]
theorem chunkD_shut {a : AsD} {now : Int} {path : Nat} {c : Chk} (h : okA a = true ∧ c.b.length ≤ 1000000) (hk : c.k = 7) : chunkD a now path c = some (onShutdownD a now path c, .none) := by
  unfold chunkD
  rw [if_pos h, if_neg (by rw [hk]; decide), if_neg (by rw [hk]; decide), if_neg (by rw [hk]; decide), if_neg (by rw [hk]; decide), if_pos hk]
theorem chunkD_shack {a : AsD} {now : Int} {path : Nat} {c : Chk} (h : okA a = true ∧ c.b.length ≤ 1000000) (hk : c.k = 8) : chunkD a now path c = some (onShutAckD a path) := by
  unfold chunkD
  rw [if_pos h, if_neg (by rw [hk]; decide), if_neg (by rw [hk]; decide), if_neg (by rw [hk]; decide), if_neg (by rw [hk]; decide), if_neg (by rw [hk]; decide), if_pos hk]
theorem chunkD_done {a : AsD} {now : Int} {path : Nat} {c : Chk} (h : okA a = true ∧ c.b.length ≤ 1000000) (hk : c.k = 14) : chunkD a now path c = some (if a.st = 8 then (endsD a, ⟨false, true, true, .zero, 0⟩) else (a, .none)) := by
  unfold chunkD
  rw [if_pos h, if_neg (by rw [hk]; decide), if_neg (by rw [hk]; decide), if_neg (by rw [hk]; decide), if_neg (by rw [hk]; decide), if_neg (by rw [hk]; decide), if_neg (by rw [hk]; decide), if_pos hk]
theorem turn1 (x : PairK) (h : x.Ok) : turnD 0 (T0 x) = some (T1 x) := by
  have hc : chunkD (bS0 x) (1 : Nat) 0 (iA.chk 1) = some ({ bS0 x with row := [⟨0, 1, (iB x).chk 2⟩] }, .none) := by
    rw [chunkD_init ⟨okA_of (Nat.le_of_ble_eq_true rfl) (Nat.le_of_ble_eq_true rfl) (Nat.le_of_ble_eq_true rfl) (Nat.le_of_ble_eq_true rfl) (Nat.le_of_ble_eq_true rfl), by decide⟩ rfl ⟨rfl, by rw [iA_get]⟩]
    unfold onInitD
    rw [iA_get]
    show some (({ bS0 x with row := [⟨0, 1, (⟨(deriveOf kB ((iA.chk 1).b ++ beBytes 8 1)).1, 65536, 2, 2, (deriveOf kB ((iA.chk 1).b ++ beBytes 8 1)).2, cookBytes kB ⟨1, (deriveOf kB ((iA.chk 1).b ++ beBytes 8 1)).1, 1, (deriveOf kB ((iA.chk 1).b ++ beBytes 8 1)).2, 10, 65536, 2, 2⟩⟩ : InitD).chk 2⟩] } : AsD), EvD.none) = _
    rw [h.inits]
    show some (({ bS0 x with row := [⟨0, 1, (⟨x.dt, 65536, 2, 2, x.ds, cookBytes kB (ckB x)⟩ : InitD).chk 2⟩] } : AsD), EvD.none) = _
    rw [h.cook]
    rfl
  have h1 := stepsD_one (stepD_in (lost := 0) (now := (1 : Nat)) (a := bS0 x) (ev := .none) (pk := 0) (o := ⟨0, 0, iA.chk 1⟩) (lostB_zero _) (Nat.le_of_ble_eq_true rfl) (by rfl) hc)
  exact turnD_mk (T := T0 x) _ ({ aS0 x with row := [] }, .none, 1) _ _ ⟨Nat.le_of_ble_eq_true rfl, Nat.le_of_ble_eq_true rfl, Nat.le_of_ble_eq_true rfl, Nat.le_of_ble_eq_true rfl⟩ h1 rfl (tickD_idle (.inr (by show (1 : Int) < 3; omega))) (tickD_idle (.inl rfl)) ⟨Nat.le_of_ble_eq_true rfl, Nat.le_of_ble_eq_true rfl, Nat.le_of_ble_eq_true rfl⟩
theorem turn2 (x : PairK) (h : x.Ok) : turnD 0 (T1 x) = some (T2 x) := by
  have hc : chunkD { aS0 x with row := [] } (2 : Nat) 0 ((iB x).chk 2) = some ((T2 x).a, .none) := by
    rw [chunkD_ack ⟨okA_of (Nat.le_of_ble_eq_true rfl) (Nat.le_of_ble_eq_true rfl) (Nat.le_of_ble_eq_true rfl) (Nat.le_of_ble_eq_true rfl) (Nat.le_of_ble_eq_true rfl), (iB_len h)⟩ rfl]
    unfold onInitAckD
    rw [iB_get h, if_pos ⟨rfl, rfl⟩]
    rfl
  have h1 := stepsD_one (stepD_in (lost := 0) (now := (2 : Nat)) (a := { aS0 x with row := [] }) (ev := .none) (pk := 1) (o := ⟨0, 1, (iB x).chk 2⟩) (lostB_zero _) (Nat.le_of_ble_eq_true rfl) (by rfl) hc)
  exact turnD_mk (T := T1 x) ({ bS0 x with row := [] }, .none, 1) _ _ _ ⟨Nat.le_of_ble_eq_true rfl, Nat.le_of_ble_eq_true rfl, Nat.le_of_ble_eq_true rfl, Nat.le_of_ble_eq_true rfl⟩ rfl h1 (tickD_idle (.inr (by show (2 : Int) < 5; omega))) (tickD_idle (.inl rfl)) ⟨Nat.le_of_ble_eq_true rfl, Nat.le_of_ble_eq_true rfl, Nat.le_of_ble_eq_true rfl⟩
theorem turn3 (x : PairK) (h : x.Ok) : turnD 0 (T2 x) = some (T3 x) := by
  have hc : chunkD (bS0 x) (3 : Nat) 0 ⟨10, 0, x.cb⟩ = some ({ bM x with row := [⟨0, 1, ⟨11, 0, []⟩⟩] }, (eB1 x)) := by
    rw [chunkD_echo ⟨okA_of (Nat.le_of_ble_eq_true rfl) (Nat.le_of_ble_eq_true rfl) (Nat.le_of_ble_eq_true rfl) (Nat.le_of_ble_eq_true rfl) (Nat.le_of_ble_eq_true rfl), by show x.cb.length ≤ _; rw [h.len]; omega⟩ rfl rfl h.tells (by show freshB 1 3 100 = true; decide)]
    rfl
  have h1 := stepsD_one (stepD_in (lost := 0) (now := (3 : Nat)) (a := bS0 x) (ev := .none) (pk := 2) (o := ⟨0, x.dt, ⟨10, 0, x.cb⟩⟩) (lostB_zero _) (Nat.le_of_ble_eq_true rfl) (by rfl) hc)
  exact turnD_mk (T := T2 x) _ ({ (T2 x).a with row := [] }, .none, 3) _ _ ⟨Nat.le_of_ble_eq_true rfl, Nat.le_of_ble_eq_true rfl, Nat.le_of_ble_eq_true rfl, Nat.le_of_ble_eq_true rfl⟩ h1 rfl (tickD_idle (.inr (by show (3 : Int) < 5; omega))) (tickD_idle (.inl rfl)) ⟨Nat.le_of_ble_eq_true rfl, Nat.le_of_ble_eq_true rfl, Nat.le_of_ble_eq_true rfl⟩
theorem turn4 (x : PairK) (h : x.Ok) : turnD 0 (T3 x) = some (T4 x) := by
  have hc : chunkD { (T2 x).a with row := [] } (4 : Nat) 0 ⟨11, 0, []⟩ = some (aM x, (eA1 x)) := by
    rw [chunkD_cack ⟨okA_of (Nat.le_of_ble_eq_true rfl) (Nat.le_of_ble_eq_true rfl) h.dt_lt (Nat.le_of_ble_eq_true rfl) (Nat.le_of_ble_eq_true rfl), by decide⟩ rfl rfl]
    rfl
  have h1 := stepsD_one (stepD_in (lost := 0) (now := (4 : Nat)) (a := { (T2 x).a with row := [] }) (ev := .none) (pk := 3) (o := ⟨0, 1, ⟨11, 0, []⟩⟩) (lostB_zero _) (Nat.le_of_ble_eq_true rfl) (by rfl) hc)
  exact turnD_mk (T := T3 x) ({ (T3 x).b with row := [] }, (eB1 x), 3) _ _ _ ⟨Nat.le_of_ble_eq_true rfl, Nat.le_of_ble_eq_true rfl, Nat.le_of_ble_eq_true rfl, Nat.le_of_ble_eq_true rfl⟩ rfl h1 (tickD_idle (.inl rfl)) (tickD_idle (.inl rfl)) ⟨Nat.le_of_ble_eq_true rfl, Nat.le_of_ble_eq_true rfl, Nat.le_of_ble_eq_true rfl⟩
/-- Where nothing is on its way, and no timer runs, a turn lets time pass. -/
theorem turn_still (lost : Nat) (T : TwoD) (h0 : T.now < 1000000 ∧ T.pk < 1000000) (ha : T.a.row = [] ∧ T.a.timer = -1 ∧ T.a.st ≠ 5 ∧ T.a.st ≠ 7) (hb : T.b.row = [] ∧ T.b.timer = -1 ∧ T.b.st ≠ 5 ∧ T.b.st ≠ 7) : turnD lost T = some { T with now := T.now + 1 } := by
  have ea : ({ T.a with row := [] } : AsD) = T.a := by rw [← ha.1]
  have eb : ({ T.b with row := [] } : AsD) = T.b := by rw [← hb.1]
  have h := turnD_mk (lost := lost) (T := T) (T.b, T.eb, T.pk) (T.a, T.ea, T.pk) (T.a, .none) (T.b, .none) ⟨h0.1, h0.2, by rw [ha.1]; exact Nat.zero_le _, by rw [hb.1]; exact Nat.zero_le _⟩ (by rw [eb, ha.1]; rfl) (by rw [ea, hb.1]; rfl) (tickD_idle (.inl ha.2.1)) (tickD_idle (.inl hb.2.1)) ⟨by rw [ha.1]; exact Nat.zero_le _, by rw [hb.1]; exact Nat.zero_le _, by show T.pk < _; omega⟩
  rw [h]
  simp only [note_none]
  unfold drainD
  rw [if_neg ha.2.2.1, if_neg ha.2.2.2, if_neg hb.2.2.1, if_neg hb.2.2.2]
theorem runs_still (lost : Nat) : ∀ (n : Nat) (T : TwoD), T.now + n < 1000000 ∧ T.pk < 1000000 → (T.a.row = [] ∧ T.a.timer = -1 ∧ T.a.st ≠ 5 ∧ T.a.st ≠ 7) → (T.b.row = [] ∧ T.b.timer = -1 ∧ T.b.st ≠ 5 ∧ T.b.st ≠ 7) → runsD lost n T = some { T with now := T.now + n }
  | 0, _, _, _, _ => rfl
  | n + 1, T, h0, ha, hb => by
    unfold runsD
    rw [turn_still lost T ⟨by omega, h0.2⟩ ha hb]
    simp only [Option.bind_some]
    rw [runs_still lost n { T with now := T.now + 1 } ⟨by show T.now + 1 + n < _; omega, h0.2⟩ ha hb]
    show some { T with now := T.now + 1 + n } = some { T with now := T.now + (n + 1) }
    rw [show T.now + 1 + n = T.now + (n + 1) by omega]
/-- Behind forty turns. -/
def TM (x : PairK) : TwoD := ⟨aM x, bM x, (eA1 x), (eB1 x), 40, 4⟩
theorem runsD_step {lost n : Nat} {T T' : TwoD} (h : turnD lost T = some T') : runsD lost (n + 1) T = runsD lost n T' := by
  rw [runsD, h]
  rfl
theorem meet (x : PairK) (h : x.Ok) : runsD 0 40 (T0 x) = some (TM x) := by
  rw [runsD_step (n := 39) (turn1 x h), runsD_step (n := 38) (turn2 x h), runsD_step (n := 37) (turn3 x h), runsD_step (n := 36) (turn4 x h)]
  exact runs_still 0 36 (T4 x) ⟨Nat.le_of_ble_eq_true rfl, Nat.le_of_ble_eq_true rfl⟩ ⟨rfl, rfl, (by decide : (4 : Nat) ≠ 5), (by decide : (4 : Nat) ≠ 7)⟩ ⟨rfl, rfl, (by decide : (4 : Nat) ≠ 5), (by decide : (4 : Nat) ≠ 7)⟩
theorem meet_met (x : PairK) (h : x.Ok) : metD (TM x) := ⟨rfl, rfl, rfl, rfl, (by decide : (1 : Nat) ≠ 0), h.dt_ne, rfl, rfl, rfl, rfl, rfl, rfl⟩
/-- The one is shut down, and the two of them part. -/
def TS (x : PairK) : TwoD := { TM x with a := { aM x with st := 5 } }
def aS1 (x : PairK) : AsD := ⟨x.p, 40, kA, 6, 1, 10, (iB x), 0, 0, [⟨0, x.dt, cumChk 7⟩], 44, ⟨0, x.dt, cumChk 7⟩, 3, 0⟩
def bS2 (x : PairK) : AsD := ⟨x.p, 40, kB, 8, x.dt, x.ds, ⟨1, 65536, 2, 2, 10, []⟩, 0, 0, [⟨0, 1, ⟨8, 0, []⟩⟩], 45, ⟨0, 1, ⟨8, 0, []⟩⟩, 3, 0⟩
def aS3 (x : PairK) : AsD := ⟨x.p, 40, kA, 0, 0, 0, .zero, 1, x.dt, [⟨0, x.dt, ⟨14, 0, []⟩⟩], -1, ⟨0, x.dt, cumChk 7⟩, 3, 0⟩
def bS4 (x : PairK) : AsD := ⟨x.p, 40, kB, 0, 0, 0, .zero, x.dt, 1, [], -1, ⟨0, 1, ⟨8, 0, []⟩⟩, 3, 0⟩
def eEnd : EvD := ⟨false, true, true, .zero, 0⟩
def TS1 (x : PairK) : TwoD := ⟨aS1 x, bM x, (eA1 x), (eB1 x), 41, 4⟩
def TS2 (x : PairK) : TwoD := ⟨{ aS1 x with row := [] }, bS2 x, (eA1 x), (eB1 x), 42, 5⟩
def TS3 (x : PairK) : TwoD := ⟨aS3 x, { bS2 x with row := [] }, eEnd, (eB1 x), 43, 6⟩
def TS4 (x : PairK) : TwoD := ⟨{ aS3 x with row := [] }, bS4 x, eEnd, eEnd, 44, 7⟩
theorem partt1 (x : PairK) (h : x.Ok) : turnD 0 (TS x) = some (TS1 x) :=
  turnD_mk (T := TS x) (bM x, (eB1 x), 4) ({ aM x with st := 5 }, (eA1 x), 4) _ _ ⟨Nat.le_of_ble_eq_true rfl, Nat.le_of_ble_eq_true rfl, Nat.le_of_ble_eq_true rfl, Nat.le_of_ble_eq_true rfl⟩ rfl rfl (tickD_idle (.inl rfl)) (tickD_idle (.inl rfl)) ⟨Nat.le_of_ble_eq_true rfl, Nat.le_of_ble_eq_true rfl, Nat.le_of_ble_eq_true rfl⟩
theorem takes_open {a : AsD} {tag : Nat} {c : Chk} (hk1 : c.k ≠ 1) (hk2 : c.k ≠ 10) (h0 : a.st ≠ 0 ∧ a.st ≠ 1) (ht : tag = a.tag) : takesB a tag [c] = true := by
  unfold takesB
  rw [if_neg (by simp), if_neg (by simp [kindIs, hk1]), if_neg (by simp [hk2]), if_neg (by omega)]
  simp [ht]
theorem partt2 (x : PairK) (h : x.Ok) : turnD 0 (TS1 x) = some (TS2 x) := by
  have hc : chunkD (bM x) (42 : Nat) 0 (cumChk 7) = some ({ bM x with st := 7 }, .none) := by
    rw [chunkD_shut ⟨okA_of (Nat.le_of_ble_eq_true rfl) (Nat.le_of_ble_eq_true rfl) (Nat.le_of_ble_eq_true rfl) (Nat.le_of_ble_eq_true rfl) (Nat.le_of_ble_eq_true rfl), by decide⟩ rfl]
    unfold onShutdownD
    rw [cumGet_chk 7 (by decide), if_pos rfl, if_pos (.inl rfl)]
  have h1 := stepsD_one (stepD_in (lost := 0) (now := (42 : Nat)) (a := bM x) (ev := (eB1 x)) (pk := 4) (o := ⟨0, x.dt, cumChk 7⟩) (lostB_zero _) (Nat.le_of_ble_eq_true rfl) (takes_open (show (7 : UInt8) ≠ 1 from by decide) (show (7 : UInt8) ≠ 10 from by decide) ⟨(by decide : (4 : Nat) ≠ 0), (by decide : (4 : Nat) ≠ 1)⟩ rfl) hc)
  exact turnD_mk (T := TS1 x) _ ({ aS1 x with row := [] }, (eA1 x), 5) _ _ ⟨Nat.le_of_ble_eq_true rfl, Nat.le_of_ble_eq_true rfl, Nat.le_of_ble_eq_true rfl, Nat.le_of_ble_eq_true rfl⟩ h1 rfl (tickD_idle (.inr (by show (42 : Int) < 44; omega))) (tickD_idle (.inl rfl)) ⟨Nat.le_of_ble_eq_true rfl, Nat.le_of_ble_eq_true rfl, Nat.le_of_ble_eq_true rfl⟩
theorem partt3 (x : PairK) (h : x.Ok) : turnD 0 (TS2 x) = some (TS3 x) := by
  have hc : chunkD { aS1 x with row := [] } (43 : Nat) 0 ⟨8, 0, []⟩ = some (aS3 x, eEnd) := by
    rw [chunkD_shack ⟨okA_of (Nat.le_of_ble_eq_true rfl) (Nat.le_of_ble_eq_true rfl) h.dt_lt (Nat.le_of_ble_eq_true rfl) (Nat.le_of_ble_eq_true rfl), by decide⟩ rfl]
    unfold onShutAckD
    rw [if_pos (.inl rfl)]
    unfold endsD ghostD
    simp only [List.nil_append, show (aS1 x).peer.tag = x.dt from rfl, if_neg h.dt_ne]
    rfl
  have h1 := stepsD_one (stepD_in (lost := 0) (now := (43 : Nat)) (a := { aS1 x with row := [] }) (ev := (eA1 x)) (pk := 5) (o := ⟨0, 1, ⟨8, 0, []⟩⟩) (lostB_zero _) (Nat.le_of_ble_eq_true rfl) (takes_open (show (8 : UInt8) ≠ 1 from by decide) (show (8 : UInt8) ≠ 10 from by decide) ⟨(by decide : (6 : Nat) ≠ 0), (by decide : (6 : Nat) ≠ 1)⟩ rfl) hc)
  exact turnD_mk (T := TS2 x) ({ bS2 x with row := [] }, (eB1 x), 5) _ _ _ ⟨Nat.le_of_ble_eq_true rfl, Nat.le_of_ble_eq_true rfl, Nat.le_of_ble_eq_true rfl, Nat.le_of_ble_eq_true rfl⟩ rfl h1 (tickD_idle (.inl rfl)) (tickD_idle (.inr (by show (43 : Int) < 45; omega))) ⟨Nat.le_of_ble_eq_true rfl, Nat.le_of_ble_eq_true rfl, Nat.le_of_ble_eq_true rfl⟩
theorem partt4 (x : PairK) (h : x.Ok) : turnD 0 (TS3 x) = some (TS4 x) := by
  have hc : chunkD { bS2 x with row := [] } (44 : Nat) 0 ⟨14, 0, []⟩ = some (bS4 x, eEnd) := by
    rw [chunkD_done ⟨okA_of (Nat.le_of_ble_eq_true rfl) (Nat.le_of_ble_eq_true rfl) (Nat.le_of_ble_eq_true rfl) (Nat.le_of_ble_eq_true rfl) (Nat.le_of_ble_eq_true rfl), by decide⟩ rfl]
    rw [if_pos (show ({ bS2 x with row := [] } : AsD).st = 8 from rfl)]
    rfl
  have h1 := stepsD_one (stepD_in (lost := 0) (now := (44 : Nat)) (a := { bS2 x with row := [] }) (ev := (eB1 x)) (pk := 6) (o := ⟨0, x.dt, ⟨14, 0, []⟩⟩) (lostB_zero _) (Nat.le_of_ble_eq_true rfl) (takes_open (show (14 : UInt8) ≠ 1 from by decide) (show (14 : UInt8) ≠ 10 from by decide) ⟨(by decide : (8 : Nat) ≠ 0), (by decide : (8 : Nat) ≠ 1)⟩ rfl) hc)
  exact turnD_mk (T := TS3 x) _ ({ aS3 x with row := [] }, eEnd, 7) _ _ ⟨Nat.le_of_ble_eq_true rfl, Nat.le_of_ble_eq_true rfl, Nat.le_of_ble_eq_true rfl, Nat.le_of_ble_eq_true rfl⟩ h1 rfl (tickD_idle (.inl rfl)) (tickD_idle (.inl rfl)) ⟨Nat.le_of_ble_eq_true rfl, Nat.le_of_ble_eq_true rfl, Nat.le_of_ble_eq_true rfl⟩
def TP (x : PairK) : TwoD := { TS4 x with now := 80 }
theorem part (x : PairK) (h : x.Ok) : runsD 0 40 (TS x) = some (TP x) := by
  rw [runsD_step (n := 39) (partt1 x h), runsD_step (n := 38) (partt2 x h), runsD_step (n := 37) (partt3 x h), runsD_step (n := 36) (partt4 x h)]
  exact runs_still 0 36 (TS4 x) ⟨Nat.le_of_ble_eq_true rfl, Nat.le_of_ble_eq_true rfl⟩ ⟨rfl, rfl, (by decide : (0 : Nat) ≠ 5), (by decide : (0 : Nat) ≠ 7)⟩ ⟨rfl, rfl, (by decide : (0 : Nat) ≠ 5), (by decide : (0 : Nat) ≠ 7)⟩
theorem part_parted (x : PairK) (h : x.Ok) : partedD (TP x) = true := rfl
end Go.FL

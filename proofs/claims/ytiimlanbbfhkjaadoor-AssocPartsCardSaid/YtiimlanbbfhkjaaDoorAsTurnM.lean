/- What a turn leans on: a chunk by its kind, Tick; a struct out of the midst of a block. Conditions: what lies, lies as it should. -/
import Derived.Test.YtiimlanbbfhkjaaDoorAsPair
import Derived.Test.YtiimlanbbfhkjaaDoorAsChunk
import Derived.Test.YtiimlanbbfhkjaaDoorAsFire
import Derived.Laws.Bits64b
set_option linter.unusedSimpArgs false
set_option linter.unusedVariables false





namespace Go.FL

open Go.RowKit

theorem range3 {w : World} {g off : Nat} {a b c : Value} (h0 : w.cell? ⟨g, off, none⟩ = some a) (h1 : w.cell? ⟨g, off + 1, none⟩ = some b) (h2 : w.cell? ⟨g, off + 2, none⟩ = some c) : w.rangeAt g off [a, b, c] := by
  intro j v hj
  match j with
  | 0 => simp at hj; subst hj; exact h0
  | 1 => simp at hj; subst hj; exact h1
  | 2 => simp at hj; subst hj; exact h2
  | j + 3 => simp at hj
/-- First P, behind the one call Q. -/
def JJ (P Q : World → Prop) : Nat → World → Prop
  | 0 => P
  | _ + 1 => Q
theorem JJ.st {P Q : World → Prop} (hP : ∀ a b, P a → GrR a b → P b) (hQ : ∀ a b, Q a → GrR a b → Q b) : ∀ c a b, JJ P Q c a → GrR a b → JJ P Q c b
  | 0, a, b, h, k => hP a b h k
  | _ + 1, a, b, h, k => hQ a b h k
/-- An element of a row of what is to be sent, its four cells and the body. -/
theorem OutsAt.elem {eO eB B : Nat} {w : World} {v : Value} {l : List OutD} (h : OutsAt eO eB B w v l) (i : Nat) (hi : i < l.length) :
    ∃ rb c s, v = .slice (some ⟨rb, 0, none⟩) l.length c ∧ B ≤ rb ∧ w.cell? ⟨rb, i * 5, none⟩ = some (.int .i64 (l[i].path : Int)) ∧ w.cell? ⟨rb, i * 5 + 1, none⟩ = some (.int .u32 (l[i].tag : Int)) ∧ w.cell? ⟨rb, i * 5 + 2, none⟩ = some (.int .u8 (l[i].c.k.toNat : Int)) ∧ w.cell? ⟨rb, i * 5 + 2 + 1, none⟩ = some (.int .u8 (l[i].c.f.toNat : Int)) ∧ w.cell? ⟨rb, i * 5 + 2 + 2, none⟩ = some s ∧ Own w B eB s l[i].c.b := by
  obtain ⟨ss, h1, ⟨h0, ⟨rfl, h2⟩ | ⟨g, m, sp, hB, rfl, hsp, hg, hm⟩⟩, h3⟩ := h
  · omega
  · have hr : RowV w g eO (outCells l ss ++ sp) := hg
    have ha := outCells_at l ss i hi (by omega)
    have hlen := outCells_length l ss h1
    have hp : ∀ j, j < 5 → (outCells l ss ++ sp)[i * 5 + j]? = (outCells l ss)[i * 5 + j]? := fun j hj => List.getElem?_append_left (by omega)
    exact ⟨g, _, ss[i]'(by omega), rfl, hB, by rw [hr.cell]; exact (hp 0 (by omega)).trans ha.1, by rw [hr.cell]; exact (hp 1 (by omega)).trans ha.2.1, by rw [hr.cell]; exact (hp 2 (by omega)).trans ha.2.2.1, by rw [hr.cell]; exact (hp 3 (by omega)).trans ha.2.2.2.1, by rw [hr.cell]; exact (hp 4 (by omega)).trans ha.2.2.2.2, h3 i hi (by omega)⟩
theorem outCells_one {w : World} {B eB : Nat} : ∀ (l : List OutD) (ss : List Value), l.length = ss.length → (∀ i (_ : i < l.length) (_ : i < ss.length), Own w B eB ss[i] l[i].c.b) → ∀ u ∈ outCells l ss, u.oneCell' = true
  | [], [], _, _ => fun u hu => by simp [outCells] at hu
  | o :: l, s :: ss, h, k => fun u hu => by
    unfold outCells at hu
    rw [List.mem_append] at hu
    rcases hu with hu | hu
    · exact outCell_one o (k 0 (by simp) (by simp)) u hu
    · exact outCells_one l ss (by simpa using h) (fun i a b => by
        have := k (i + 1) (by simpa using a) (by simpa using b)
        simpa using this) u hu
/-- A row that was copied into new memory. -/
theorem OutsAt.copied {eO eB B : Nat} {w w' : World} {v : Value} {l : List OutD} {so : List Value} (hl : l.length = so.length) (hB : B ≤ w.heap.size) (hr : OwnK w' w.heap.size eO 5 v l.length (outCells l so)) (hb : Below w.heap.size w w') (hs : ∀ i (_ : i < l.length) (_ : i < so.length), Own w B eB so[i] l[i].c.b) : OutsAt eO eB B w' v l := by
  exact ⟨so, hl, hr.base hB, fun i a b => (hs i a b).mono hb⟩
/-- A row in new memory is apart from all that was there. -/
theorem Sepv.fresh {w : World} {u v : Value} (hu : ∀ k, u.ownBlock = some k → w.heap.size ≤ k) (hv : ∀ k, v.ownBlock = some k → k < w.heap.size) : Sepv u v := fun k h1 h2 => by
  have := hu k h1
  have := hv k h2
  omega
/-- What comes new is on its way to b, or to a. -/
theorem MidAt.newA {eA eO eB eT B : Nat} {w w' : World} {t ga gb : Nat} {vra vrb xa xa' xb : Value} {T : TwoD} {A A' L : List OutD} (h : MidAt eA eO eB eT B w t ga gb vra vrb xa xb T A L) (hb : Below w.heap.size w w') (hn : OutsAt eO eB B w' xa' A') (hx : ∀ k, xa'.ownBlock = some k → w.heap.size ≤ k) : MidAt eA eO eB eT B w' t ga gb vra vrb xa' xb T A' L := by
  have k := h.mono hb
  exact ⟨k.two, k.tB, k.pa, k.pb, k.ne, k.ab, hn, k.lb, .fresh hx h.pa.outs.lt, .fresh hx h.pb.outs.lt, k.xba, k.xbb⟩
theorem MidAt.newB {eA eO eB eT B : Nat} {w w' : World} {t ga gb : Nat} {vra vrb xa xb' xb : Value} {T : TwoD} {A L' L : List OutD} (h : MidAt eA eO eB eT B w t ga gb vra vrb xa xb T A L) (hb : Below w.heap.size w w') (hn : OutsAt eO eB B w' xb' L') (hx : ∀ k, xb'.ownBlock = some k → w.heap.size ≤ k) : MidAt eA eO eB eT B w' t ga gb vra vrb xa xb' T A L' := by
  have k := h.mono hb
  exact ⟨k.two, k.tB, k.pa, k.pb, k.ne, k.ab, k.la, hn, k.xaa, k.xab, .fresh hx h.pa.outs.lt, .fresh hx h.pb.outs.lt⟩
theorem stepsD_cons {lost : Nat} {now : Int} {x X : AsD × EvD × Nat} {A : List OutD} {i : Nat} (hi : i < A.length) (h : stepsD lost now x (A.drop i) = some X) : ∃ y, stepD lost now x A[i] = some y ∧ stepsD lost now y (A.drop (i + 1)) = some X := by
  rw [List.drop_eq_getElem_cons hi] at h
  unfold stepsD at h
  cases hq : stepD lost now x A[i] with
  | none => rw [hq] at h; cases h
  | some y => rw [hq] at h; exact ⟨y, rfl, h⟩
theorem stepsD_nil {lost : Nat} {now : Int} {x X : AsD × EvD × Nat} {A : List OutD} {i : Nat} (hi : A.length ≤ i) (h : stepsD lost now x (A.drop i) = some X) : X = x := by
  rw [List.drop_eq_nil_of_le hi] at h
  simp only [stepsD, Option.some.injEq] at h
  exact h.symm
theorem turnD_some {lost : Nat} {T T' : TwoD} (h : turnD lost T = some T') : ∃ b1 eb1 pk1 a1 ea1 pk2 a2 va b2 vb, stepsD lost (T.now + 1 : Nat) ({ T.b with row := [] }, T.eb, T.pk) T.a.row = some (b1, eb1, pk1) ∧ stepsD lost (T.now + 1 : Nat) ({ T.a with row := [] }, T.ea, pk1) T.b.row = some (a1, ea1, pk2) ∧ tickD a1 (T.now + 1 : Nat) = some (a2, va) ∧ tickD b1 (T.now + 1 : Nat) = some (b2, vb) ∧ a2.row.length ≤ 1000000 ∧ b2.row.length ≤ 1000000 ∧
    T' = ⟨drainD a2 (T.now + 1 : Nat) 7, drainD b2 (T.now + 1 : Nat) 8, noteE ea1 va, noteE eb1 vb, T.now + 1, pk2⟩ := by
  unfold turnD at h
  split at h
  · cases h1 : stepsD lost (T.now + 1 : Nat) ({ T.b with row := [] }, T.eb, T.pk) T.a.row with
    | none => rw [h1] at h; cases h
    | some x =>
      rw [h1] at h
      simp only [Option.bind_some] at h
      cases h2 : stepsD lost (T.now + 1 : Nat) ({ T.a with row := [] }, T.ea, x.2.2) T.b.row with
      | none => rw [h2] at h; cases h
      | some y =>
        rw [h2] at h
        simp only [Option.bind_some] at h
        cases h3 : tickD y.1 (T.now + 1 : Nat) with
        | none => rw [h3] at h; cases h
        | some p =>
          rw [h3] at h
          simp only [Option.bind_some] at h
          cases h4 : tickD x.1 (T.now + 1 : Nat) with
          | none => rw [h4] at h; cases h
          | some q =>
            rw [h4] at h
            simp only [Option.bind_some] at h
            split at h
            · rename_i hb
              simp only [Option.some.injEq] at h
              exact ⟨x.1, x.2.1, x.2.2, y.1, y.2.1, y.2.2, p.1, p.2, q.1, q.2, rfl, h2, h3, h4, hb.1, hb.2.1, h.symm⟩
            · cases h
  · cases h
theorem lost_bit (lost k : Nat) (h : lost < 18446744073709551616) : (bits .and .u64 ((lost : Int) / 2 ^ (k - 1)) 1 == 1) = decide (lost / 2 ^ (k - 1) % 2 = 1) := by
  have h1 : (lost : Int) / 2 ^ (k - 1) = ((lost / 2 ^ (k - 1) : Nat) : Int) := by
    rw [Int.natCast_ediv, Int.natCast_pow]
    rfl
  have h2 : lost / 2 ^ (k - 1) < 18446744073709551616 := Nat.lt_of_le_of_lt (Nat.div_le_self _ _) h
  have h3 : bits .and .u64 ((lost / 2 ^ (k - 1) : Nat) : Int) 1 = ((lost / 2 ^ (k - 1) % 2 : Nat) : Int) := by
    have := bits_and_u64_nat (lost / 2 ^ (k - 1)) 1 h2 (by omega)
    rw [Nat.and_one_is_mod] at this
    exact this
  rw [h1, h3, Bool.eq_iff_iff]
  simp
  omega
/-- One chunk in new memory. -/
theorem chs_new (w : World) (e : Nat) (c : Chk) (s : Value) (h : Rd w s c.b) : ChunksAt (w.alloc (.cells #[.int .u8 (c.k.toNat : Int), .int .u8 (c.f.toNat : Int), s] e (0, 0))) (.slice (some ⟨w.heap.size, 0, none⟩) 1 1) [c] := by
  have hr := RowV.new w e [.int .u8 (c.k.toNat : Int), .int .u8 (c.f.toNat : Int), s]
  refine ⟨some ⟨w.heap.size, 0, none⟩, 1, rfl, by simp, by unfold maxLen; omega, fun i hi => ?_⟩
  have hi0 : i = 0 := by simpa using hi
  subst hi0
  exact ⟨w.heap.size, 0, s, rfl, hr.at 0 (by simp), hr.at 1 (by simp), hr.at 2 (by simp), h.mono ((Below.refl _ _).alloc (Nat.le_refl _) _)⟩
def ChsF (cs : List Chk) : Value → World → Prop := fun v w => ChunksAt w v cs
theorem ChsF.gr (cs : List Chk) : Stab GrR (ChsF cs) := fun _ _ _ h k => ChunksAt.mono h k
def PkF (tag : Nat) (cs : List Chk) : Value → World → Prop := fun v w => PkAt w v tag cs
theorem PkF.gr (tag : Nat) (cs : List Chk) : Stab GrR (PkF tag cs) := fun _ _ _ ⟨s, h1, h2⟩ k => ⟨s, h1, h2.mono k⟩
/-- What a packet on its way does. -/
theorem stepD_cases {lost : Nat} {now : Int} {x y : AsD × EvD × Nat} {o : OutD} (h : stepD lost now x o = some y) :
    (lostB lost (x.2.2 + 1) = true ∧ y = (x.1, x.2.1, x.2.2 + 1)) ∨ (lostB lost (x.2.2 + 1) = false ∧ x.1.st < 256 ∧ ((takesB x.1 o.tag [o.c] = false ∧ y = (x.1, x.2.1, x.2.2 + 1)) ∨ (takesB x.1 o.tag [o.c] = true ∧ ∃ r, chunkD x.1 now o.path o.c = some r ∧ y = (r.1, noteE x.2.1 r.2, x.2.2 + 1)))) := by
  unfold stepD at h
  cases hl : lostB lost (x.2.2 + 1) with
  | true =>
    rw [hl, if_pos rfl] at h
    cases h
    exact .inl ⟨rfl, rfl⟩
  | false =>
    rw [hl, if_neg (by decide)] at h
    split at h
    · cases h
    · rename_i hs
      refine .inr ⟨rfl, by omega, ?_⟩
      cases ht : takesB x.1 o.tag [o.c] with
      | false =>
        rw [ht, if_neg (by decide)] at h
        cases h
        exact .inl ⟨rfl, rfl⟩
      | true =>
        rw [ht, if_pos rfl] at h
        cases hc : chunkD x.1 now o.path o.c with
        | none => rw [hc] at h; cases h
        | some r =>
          rw [hc] at h
          cases h
          exact .inr ⟨rfl, r, rfl, rfl⟩
/-- A row of what is to be sent, as one reads it. -/
theorem OutsAt.form {eO eB B : Nat} {w : World} {v : Value} {l : List OutD} (h : OutsAt eO eB B w v l) : ∃ p c, v = .slice p l.length c := by
  obtain ⟨ss, h1, ⟨h0, ⟨rfl, h2⟩ | ⟨g, m, sp, hB, rfl, hsp, hg, hm⟩⟩, h3⟩ := h
  · exact ⟨none, 0, by rw [h2]⟩
  · exact ⟨_, _, rfl⟩
end Go.FL

namespace Go.Proofs.YtiimlanbbfhkjaaDoor

open Go.RowKit Go.FL Go.ChangeShapes

theorem chunkD_any (w0 : World) (hlaid : ShaLaid w0) (w : World) (g : Nat) (vr : Value) (a : AsD) (h : As w0.heap.size w g vr a) (hb0 : Below w0.heap.size w0 w) (now : Int) (hnow : 0 ≤ now ∧ now ≤ 2305843009213693952) (path : Nat) (c : Chk) (s : Value) (hs : Own w w0.heap.size 5 s c.b) (a' : AsD) (ev : EvD) (hc : chunkD a now path c = some (a', ev)) :
    Calls Tryd.prog 27 #[.pointer (some ⟨g, 0, none⟩), .int .i64 now, .int .i64 (path : Int), .agg #[.int .u8 (c.k.toNat : Int), .int .u8 (c.f.toNat : Int), s]] w fun e w' => e = .returned ev.val ∧ DidA w0.heap.size w g vr a' w' := by
  refine chunk_any w0.heap.size w g vr a h now path c s hs ev a' fun w' hb has hbs => ?_
  have hl' : ShaLaid w' := hlaid.mono (Below.trans hb0 (hb.mono hb0.size))
  unfold chunkD at hc
  split at hc
  case isFalse => cases hc
  rename_i hok
  obtain ⟨h1, h2⟩ := hok
  simp only [okA, decide_eq_true_eq] at h1
  obtain ⟨o1, o2, o3, o4, o5⟩ := h1
  by_cases e1 : c.k = 1
  · rw [if_pos e1] at hc
    split at hc
    · rename_i q
      simp only [Option.some.injEq, Prod.mk.injEq] at hc
      obtain ⟨rfl, rfl⟩ := hc
      rw [show whoF c.k = 50 by rw [e1]; rfl]
      exact onInit_listen _ w' g vr a has now hnow path c s hbs hl' o1 h2 o2 q.1 q.2
    · cases hc
  rw [if_neg e1] at hc
  by_cases e2 : c.k = 2
  · rw [if_pos e2] at hc
    simp only [Option.some.injEq, Prod.mk.injEq] at hc
    obtain ⟨rfl, rfl⟩ := hc
    rw [show whoF c.k = 51 by rw [e2]; rfl]
    exact onInitAck_any _ w' g vr a has now hnow path c s hbs h2 o2
  rw [if_neg e2] at hc
  by_cases e3 : c.k = 10
  · rw [if_pos e3] at hc
    split at hc
    · rename_i q
      simp only [Option.some.injEq, Prod.mk.injEq] at hc
      obtain ⟨rfl, rfl⟩ := hc
      rw [show whoF c.k = 52 by rw [e3]; rfl]
      refine onEcho_listen _ w' g vr a has now hnow path c s hbs hl' o1 h2 o2 q.1 (cookTells a.key c.b).2 ?_ ?_ q.2.2
      · rw [← q.2.1]
      · unfold cookTells
        repeat' split
        all_goals first | exact cookOf_wf _ | (refine ⟨⟨?_, ?_⟩, ?_, ?_, ?_, ?_, ?_, ?_, ?_⟩ <;> simp [CookD.zero])
    · cases hc
  rw [if_neg e3] at hc
  by_cases e4 : c.k = 11
  · rw [if_pos e4] at hc
    have k := onCookieAck_any _ w' g vr a has now hnow path c s hbs
    rw [show whoF c.k = 53 by rw [e4]; rfl]
    by_cases q : a.st = 3
    · rw [if_pos q] at hc
      simp only [if_pos q] at k
      simp only [Option.some.injEq, Prod.mk.injEq] at hc
      obtain ⟨rfl, rfl⟩ := hc
      exact k
    · rw [if_neg q] at hc
      simp only [if_neg q] at k
      simp only [Option.some.injEq, Prod.mk.injEq] at hc
      obtain ⟨rfl, rfl⟩ := hc
      exact k
  rw [if_neg e4] at hc
  by_cases e5 : c.k = 7
  · rw [if_pos e5] at hc
    simp only [Option.some.injEq, Prod.mk.injEq] at hc
    obtain ⟨rfl, rfl⟩ := hc
    rw [show whoF c.k = 56 by rw [e5]; rfl]
    exact onShutdown_any _ w' g vr a has now hnow path c s hbs h2 o2
  rw [if_neg e5] at hc
  by_cases e6 : c.k = 8
  · rw [if_pos e6] at hc
    simp only [Option.some.injEq] at hc
    rw [show whoF c.k = 57 by rw [e6]; rfl]
    have k := onShutAck_any _ w' g vr a has now hnow path c s hbs o3 o4 o5 o2
    rw [hc] at k
    exact k
  rw [if_neg e6] at hc
  by_cases e7 : c.k = 14
  · rw [if_pos e7] at hc
    have k := onComplete_any _ w' g vr a has now hnow path c s hbs o3
    rw [show whoF c.k = 58 by rw [e7]; rfl]
    by_cases q : a.st = 8
    · rw [if_pos q] at hc
      simp only [if_pos q] at k
      simp only [Option.some.injEq, Prod.mk.injEq] at hc
      obtain ⟨rfl, rfl⟩ := hc
      exact k
    · rw [if_neg q] at hc
      simp only [if_neg q] at k
      simp only [Option.some.injEq, Prod.mk.injEq] at hc
      obtain ⟨rfl, rfl⟩ := hc
      exact k
  rw [if_neg e7] at hc
  cases hc
theorem tick_any (B : Nat) (w : World) (g : Nat) (vr : Value) (a : AsD) (h : As B w g vr a) (now : Int) (hnow : 0 ≤ now ∧ now ≤ 2305843009213693952) (a' : AsD) (ev : EvD) (ht : tickD a now = some (a', ev)) :
    Calls Tryd.prog 20 #[.pointer (some ⟨g, 0, none⟩), .int .i64 now] w fun e w' => e = .returned ev.val ∧ DidA B w g vr a' w' := by
  unfold tickD at ht
  split at ht
  · rename_i q
    simp only [Option.some.injEq, Prod.mk.injEq] at ht
    obtain ⟨rfl, rfl⟩ := ht
    exact tick_idle B w g vr a h now hnow q
  · rename_i q
    split at ht
    · rename_i q2
      simp only [Option.some.injEq] at ht
      have k := tick_fire B w g vr a h now hnow ⟨fun e => q (.inl e), fun e => q (.inr e)⟩ q2
      rw [ht] at k
      exact k
    · cases ht
end Go.Proofs.YtiimlanbbfhkjaaDoor

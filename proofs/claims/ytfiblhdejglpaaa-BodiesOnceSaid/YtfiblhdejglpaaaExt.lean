/- Worlds that go on: below a block all stays, every cell keeps what it holds. Conditions: none. No program in sight. -/
import Derived.Test.YtfiblhdejglpaaaMem
namespace Go.FL
open Go.RowKit

/-- Below B all is as it was; every cell that was there holds what it held. -/
def Ext (B : Nat) (a b : World) : Prop := Below B a b ∧ ∀ p v, a.cell? p = some v → b.cell? p = some v
theorem Ext.refl (B : Nat) (a : World) : Ext B a a := ⟨Below.refl _ _, fun _ _ h => h⟩
theorem Ext.trans {B : Nat} {a b c : World} (h : Ext B a b) (k : Ext B b c) : Ext B a c := ⟨h.1.trans k.1, fun p v hv => k.2 p v (h.2 p v hv)⟩
theorem Ext.of_gr {B : Nat} {a b : World} (h : Below a.heap.size a b) (hB : B ≤ a.heap.size) : Ext B a b := ⟨h.mono hB, fun _ _ hv => cell?_of_below h hv⟩
theorem Ext.drew (B : Nat) (a : World) : Ext B a a.drew := ⟨(Below.refl _ _).drew, fun _ _ h => h⟩
theorem Rd.ext {B : Nat} {w w' : World} {v : Value} {l : List UInt8} (h : Rd w v l) (hb : Ext B w w') : Rd w' v l := by
  obtain ⟨p, c, h1, h2, h3, h4, h5⟩ := h
  exact ⟨p, c, h1, h2, h3, h4, fun j hj => let ⟨b, off, e, hc⟩ := h5 j hj; ⟨b, off, e, hb.2 _ _ hc⟩⟩

/-- A slice over a block of one's own. -/
def InOwn (B : Nat) (w : World) (v : Value) : Prop := ∃ g off n c o u, v = .slice (some ⟨g, off, none⟩) n c ∧ B ≤ g ∧ w.cell? ⟨g, o, none⟩ = some u
theorem InOwn.ext {B : Nat} {w w' : World} {v : Value} (h : InOwn B w v) (hb : Ext B w w') : InOwn B w' v := by
  obtain ⟨g, off, n, c, o, u, h1, h2, h3⟩ := h
  exact ⟨g, off, n, c, o, u, h1, h2, hb.2 _ _ h3⟩
theorem InOwn.new {B : Nat} {w : World} {l : List UInt8} {g n c : Nat} (h : Rd w (.slice (some ⟨g, 0, none⟩) n c) l) (hl : 0 < l.length) (hg : B ≤ g) : InOwn B w (.slice (some ⟨g, 0, none⟩) n c) := by
  obtain ⟨b, off, c', h1, _, _, h2⟩ := h.at hl
  simp at h1
  obtain ⟨⟨rfl, rfl⟩, _, _⟩ := h1
  exact ⟨_, _, _, _, _, _, rfl, hg, h2 0 hl⟩

theorem freeze_ext (B : Nat) (w : World) (g k : Nat) (hB : B ≤ g) : Ext B w (w.freeze ⟨g, k, none⟩ 1) := by
  unfold World.freeze
  rw [if_neg (by decide)]
  refine ⟨⟨rfl, rfl, rfl, by simp, fun i hi => ?_⟩, ?_⟩
  · show (w.heap.modify g _)[i]? = _
    rw [Array.getElem?_modify, if_neg (by omega)]
  · intro p v hv
    unfold World.cell? at hv ⊢
    show (match (w.heap.modify g _)[p.block]? with | some (.cells c _ _) => if p.spot.isSome then none else c[p.off]? | _ => none) = _
    rw [Array.getElem?_modify]
    by_cases hg : g = p.block
    · rw [if_pos hg]
      cases ho : w.heap[p.block]? with
      | none => rw [ho] at hv; simp at hv
      | some o => rw [ho] at hv; cases o <;> first | exact hv | (simp at hv; done)
    · rw [if_neg hg]
      exact hv

/-- '[]byte("..")': a slice turned into its own type: the value stays; its block gets a mark behind its last cell. -/
theorem run_convert_own {P : Program} (B : Nat) (w : World) (t e : TypeId) (ht : P.underlying t = some (.slice e)) (he : P.underlying e = some (.int .u8)) (v : Value) (h : InOwn B w v) :
    ∃ w', (convert t t v).run P w = .ok v w' ∧ Ext B w w' := by
  obtain ⟨g, off, n, c, o, u, rfl, hB, hcell⟩ := h
  obtain ⟨C, e', fr, hg⟩ : ∃ C e' fr, w.heap[g]? = some (.cells C e' fr) := by
    unfold World.cell? at hcell
    cases ho : w.heap[g]? with
    | none => simp only [ho] at hcell; cases hcell
    | some ob => simp only [ho] at hcell; cases ob <;> first | exact ⟨_, _, _, rfl⟩ | (simp at hcell; done)
  refine ⟨w.freeze ⟨g, C.size, none⟩ 1, ?_, freeze_ext B w g C.size hB⟩
  have hsh : w.shape? g = some (e', C.size) := by
    unfold World.shape?
    rw [hg]
  simp [convert, run_underlying ht, run_underlying he, markStringish, hsh]

/-- 'append' to a row of one's own behind a guard that says yes. -/
theorem wpList_append_OwnG {P : Program} {w : World} {ops : Array Oper} {rest : List Oper} {o : Oper} {a : Act} {Q : Exit → Act → World → Prop} (hgd : Region.wanted o (yielded ops a.tmps) = true) (s x : Operand) (t : TypeId)
    (ho : o.op = .call { callee := .builtin .append, args := #[s, x], argTypes := #[t, t] })
    (base e : Nat) (ht : P.underlying t = some (.slice e)) (hi : (P.info? e).map (fun i => (i.zero, i.size, i.bytes)) = some (some (.int .u8 0), 1, 1))
    (v u : Value) (l m : List UInt8) (hs : a.eval s = v) (hown : Own w base e v l) (hx : a.eval x = u) (hrd : Rd w u m) (hlen : l.length + m.length ≤ 140737488355328) (hbase : base ≤ w.heap.size)
    (h : ∀ v' w', Own w' base e v' (l ++ m) → w.grownBy w' v.ownBlock → wpList P ops Q rest (a.put o.dst v') w') : wpList P ops Q (o :: rest) a w := by
  refine wpList_step fun K hK => ?_
  rw [if_pos hgd]
  obtain ⟨v', w', hr, h2, h3⟩ := run_append_Own (P := P) w base t o.type e ht hi v u l m hown hrd hlen hbase
  unfold Oper.wp execOp
  simp only [ho, resolve, invoke, builtin, Sem.run_bind, Sem.run_pure, Result.andThen_ok, List.map_toArray, List.map_cons, List.map_nil, hs, hx, hr]
  exact hK _ _ (h v' w' h2 h3)

/-- The first bytes of a slice. -/
theorem Rd.take {w : World} {p : Option Addr} {n c : Nat} {l : List UInt8} (h : Rd w (.slice p n c) l) (k : Nat) (hk : k ≤ l.length) : Rd w (.slice p k c) (l.take k) := by
  obtain ⟨p', c', h1, h2, h3, h4, h5⟩ := h
  simp at h1
  obtain ⟨rfl, rfl, rfl⟩ := h1
  have hl : (l.take k).length = k := by simp; omega
  refine ⟨p, c, by rw [hl], by omega, h3, h4, fun j hj => ?_⟩
  obtain ⟨b, off, e, hc⟩ := h5 j (by omega)
  exact ⟨b, off, e, by simpa using hc⟩
/-- Those behind a place. -/
theorem Rd.drop {w : World} {b off n c : Nat} {l : List UInt8} (h : Rd w (.slice (some ⟨b, off, none⟩) n c) l) (k : Nat) (hk : k ≤ l.length) : Rd w (.slice (some ⟨b, off + k, none⟩) (n - k) (c - k)) (l.drop k) := by
  obtain ⟨p', c', h1, h2, h3, h4, h5⟩ := h
  simp at h1
  obtain ⟨rfl, rfl, rfl⟩ := h1
  have hl : (l.drop k).length = l.length - k := by simp
  refine ⟨_, c - k, by rw [hl], by omega, by omega, by simp, fun j hj => ?_⟩
  obtain ⟨b', off', e, hc⟩ := h5 (k + j) (by omega)
  simp at e
  obtain ⟨rfl, rfl⟩ := e
  refine ⟨b, off + k, rfl, ?_⟩
  rw [Nat.add_assoc, hc]
  simp
/-- A piece, as the walk writes it: the two ways of its address. -/
theorem Rd.cutL {w : World} {p : Option Addr} {n c : Nat} {l : List UInt8} (h : Rd w (.slice p n c) l) (i k : Nat) (hik : i + k ≤ l.length) (e : c = i) : Rd w (.slice p k 0) ((l.drop i).take k) := by
  have := h.cut i (i + k) (by omega) hik
  rw [Nat.add_sub_cancel_left, sliced, if_pos e, Nat.add_sub_cancel_left, show c - i = 0 by omega] at this
  exact this
theorem Rd.cutR {w : World} {p : Option Addr} {n c : Nat} {l : List UInt8} (h : Rd w (.slice p n c) l) (i k : Nat) (hik : i + k ≤ l.length) (e : ¬ c = i) : Rd w (.slice (Option.map (fun x => x.add i) p) k (c - i)) ((l.drop i).take k) := by
  have := h.cut i (i + k) (by omega) hik
  rw [Nat.add_sub_cancel_left, sliced, if_neg e, Nat.add_sub_cancel_left, Nat.mul_one] at this
  exact this
theorem Rd.drop0 {w : World} {b n c : Nat} {l : List UInt8} (h : Rd w (.slice (some ⟨b, 0, none⟩) n c) l) (k : Nat) (hk : k ≤ l.length) : Rd w (.slice (some ⟨b, k, none⟩) (n - k) (c - k)) (l.drop k) := by
  have := h.drop k hk
  rwa [Nat.zero_add] at this
end Go.FL

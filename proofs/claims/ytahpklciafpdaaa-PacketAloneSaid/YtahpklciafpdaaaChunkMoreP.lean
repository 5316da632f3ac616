/- chunk.Read of any bytes; what the chapter's own helpers answer. Conditions: what comes in reads as it should. -/
import Derived.Test.YtahpklciafpdaaaBaseF
import Derived.Test.YtahpklciafpdaaaBaseE
set_option linter.unusedSimpArgs false
set_option linter.unusedVariables false
namespace Go.FL
open Go.RowKit
def chkEq (c d : Chk) : Bool := decide (c.k = d.k) && (decide (c.f = d.f) && decide (c.b = d.b))
theorem chkEq_iff (c d : Chk) : chkEq c d = true ↔ c = d := by
  constructor
  · intro h
    simp [chkEq] at h
    exact Chk.ext' h.1 h.2.1 h.2.2
  · rintro rfl
    simp [chkEq]
theorem ChkAt.of_own {w : World} {base e : Nat} {c : Chk} {s : Value} (h : Own w base e s c.b) : ChkAt w (.agg #[.int .u8 (c.k.toNat : Int), .int .u8 (c.f.toNat : Int), s]) c := ⟨s, rfl, h.rd⟩
theorem chkTells_back (c : Chk) (m : List UInt8) (h : c.b.length ≤ 65531) : chkTells (c.bytes ++ m) = (c, c.bytes.length, 0) := by
  obtain ⟨h1, h2, h3⟩ := chk_back c m h
  rw [chkTells, if_pos h1, h2, h3]
theorem run_slice_to {P : Program} (t e : TypeId) (ht : P.underlying t = some (.slice e)) (p : Option Addr) (n c i : Nat) (hi : i ≤ c) (hc : 0 < c) (k : IntKind) (hz : (P.info? e).map (·.size) = some 1) (w : World) :
    (Instr.slice t (.slice p n c) none (some (.int k (i : Int))) none).run P w = .ok (.slice p i c) w := by
  cases hq : P.info? e with
  | none => simp [hq] at hz
  | some inf =>
    have hs : inf.size = 1 := by simpa [hq] using hz
    have hc0 : ¬ c = 0 := by omega
    simp [Instr.slice, run_underlying ht, Instr.sliceBounds, run_sliceBound, sizeOf, typeInfo, hq, hs, hi, hc0]
    cases p <;> simp [Addr.add]
theorem Own.lt {w : World} {base e : Nat} {v : Value} {l : List UInt8} (h : Own w base e v l) : ∀ k, v.ownBlock = some k → k < w.heap.size := by
  intro k hk
  rcases h with ⟨rfl, rfl⟩ | ⟨g, sp, _, rfl, hr, _⟩
  · simp [Value.ownBlock] at hk
  · simp [Value.ownBlock] at hk
    subst hk
    exact hr.lt
theorem RowV.three {w : World} {g e : Nat} {a b c : Value} (h : RowV w g e [a, b, c]) : w.cell? ⟨g, 0, none⟩ = some a ∧ w.cell? ⟨g, 1, none⟩ = some b ∧ w.cell? ⟨g, 2, none⟩ = some c :=
  ⟨h.at 0 (by simp), h.at 1 (by simp), h.at 2 (by simp)⟩
theorem ChkAt.boxed {w w' : World} {v : Value} {c : Chk} (h : ChkAt w v c) (e : Nat) (hw : Below w.heap.size w w') : ChkAt w' v c := h.mono hw
theorem chkAt_zero (w : World) : ChkAt w (.agg #[.int .u8 0, .int .u8 0, .slice none 0 0]) Chk.zero := ⟨_, rfl, Rd.nil w⟩
theorem Own.shape {w : World} {base e : Nat} {v : Value} {l : List UInt8} (h : Own w base e v l) : ∃ z cc, v = .slice z l.length cc ∧ l.length ≤ cc ∧ cc ≤ maxLen := by
  obtain ⟨p, c, rfl, h1, h2, _⟩ := h.rd
  exact ⟨p, c, rfl, h1, h2⟩
end Go.FL
namespace Go.Proofs.Ytahpklciafpdaaa
open Go.RowKit Go.FL

set_option maxRecDepth 20000 in
theorem cwrite_all (v : Value) (c : Chk) (w : World) (h : ChkAt w v c) :
    Calls Try.prog 33 #[v] w (RetOwn w 5 c.bytes) := by
  by_cases hbig : 65531 < c.b.length
  · obtain ⟨s, rfl, hrd⟩ := h
    obtain ⟨p, cp, rfl, hlc, hcm, hpn, hcell⟩ := hrd
    unfold maxLen at hcm
    clear hcell
    have HB := hid (Chk.bytes_big c hbig)
    go_enter Try.func33, Try.ntmps33
    go_wp2
    go_ret
    exact ⟨_, rfl, by rw [HB.out]; exact Own.nil _ _ _, (Below.refl _ _).alloc (Nat.le_refl _) _⟩
  · exact cwrite_any v c w h (by omega)
theorem cread_any (v : Value) (l : List UInt8) (w : World) (hv : Rd w v l) (hs : l.length ≤ 140737488355320) :
    Calls Try.prog 61 #[v] w (TellsChk w 5 (chkTells l)) := by
  by_cases h4 : l.length < 4
  · exact cread_short v l w hv h4
  · exact cread_long v l w hv (by omega) hs
/-- What Read tells, the answer by name. -/
theorem cread_is (v : Value) (l : List UInt8) (c : Chk) (n : Nat) (er : Int) (ht : chkTells l = (c, n, er)) (w : World) (hv : Rd w v l) (hs : l.length ≤ 140737488355320) :
    Calls Try.prog 61 #[v] w fun en w' => ∃ s, en = .returned (.tuple #[.agg #[.int .u8 (c.k.toNat : Int), .int .u8 (c.f.toNat : Int), s], .int .i64 (n : Int), .int .i64 er]) ∧ Own w' w.heap.size 5 s c.b ∧ Below w.heap.size w w' := by
  refine (cread_any v l w hv hs).mono ?_
  rw [ht]
  exact fun _ _ h => h

/-- Where there is none. -/
theorem cread_bad (v : Value) (l : List UInt8) (ht : chkOk l = false) (w : World) (hv : Rd w v l) (hs : l.length ≤ 140737488355320) :
    Calls Try.prog 61 #[v] w fun en w' => ∃ p c, en = .returned (.tuple #[.agg #[.int .u8 0, .int .u8 0, .slice p 0 c], .int .i64 0, .int .i64 7]) ∧ Own w' w.heap.size 5 (.slice p 0 c) [] ∧ Below w.heap.size w w' := by
  refine (cread_is v l Chk.zero 0 7 (by rw [chkTells, if_neg (by simp [ht])]) w hv hs).mono ?_
  rintro e w2 ⟨s2, rfl, ho2, hb2⟩
  obtain ⟨p, c, rfl, _⟩ := ho2.rd
  exact ⟨p, c, rfl, ho2, hb2⟩
/-- Where there is one. -/
theorem cread_good (v : Value) (l : List UInt8) (c : Chk) (n : Nat) (ht : chkTells l = (c, n, 0)) (w : World) (hv : Rd w v l) (hs : l.length ≤ 140737488355320) :
    Calls Try.prog 61 #[v] w fun en w' => ∃ p cp, en = .returned (.tuple #[.agg #[.int .u8 (c.k.toNat : Int), .int .u8 (c.f.toNat : Int), .slice p c.b.length cp], .int .i64 (n : Int), .int .i64 0]) ∧ Own w' w.heap.size 5 (.slice p c.b.length cp) c.b ∧ Below w.heap.size w w' := by
  refine (cread_is v l c n 0 ht w hv hs).mono ?_
  rintro e w2 ⟨s2, rfl, ho2, hb2⟩
  obtain ⟨p, cp, rfl, _⟩ := ho2.rd
  exact ⟨p, cp, rfl, ho2, hb2⟩

set_option maxRecDepth 20000 in
set_option maxHeartbeats 1000000 in
theorem chkSame_any (v u : Value) (c d : Chk) (w : World) (h : ChkAt w v c) (k : ChkAt w u d) :
    Calls Try.prog 40 #[v, u] w fun e w' => e = .returned (.bool (chkEq c d)) ∧ Below w.heap.size w w' := by
  obtain ⟨s, rfl, hrd⟩ := h
  obtain ⟨t, rfl, hrt⟩ := k
  obtain ⟨k1, f1, b1⟩ := c
  obtain ⟨k2, f2, b2⟩ := d
  simp only at *
  have HV := hid hrd
  have HU := hid hrt
  obtain ⟨p, cp, rfl, hlc, hcm, hpn, hcell⟩ := hrd
  obtain ⟨q, cq, rfl, hlq, hcq, hqn, hcelq⟩ := hrt
  clear hcell hcelq
  have hb1 := byte_lt k1
  have hb2 := byte_lt k2
  have hb3 := byte_lt f1
  have hb4 := byte_lt f2
  obtain ⟨W, hW⟩ : ∃ W, W = (w.alloc (.cells #[.int .u8 (k1.toNat : Int), .int .u8 (f1.toNat : Int), .slice p b1.length cp] 41 (0, 0))).alloc (.cells #[.int .u8 (k2.toNat : Int), .int .u8 (f2.toNat : Int), .slice q b2.length cq] 41 (0, 0)) := ⟨_, rfl⟩
  have HW := hid (show Below w.heap.size w W by rw [hW]; exact ((Below.refl _ _).alloc (Nat.le_refl _) _).alloc (by simp) _)
  have HE := hid hW
  clear hW
  have ne8 : ∀ x y : UInt8, ((x.toNat : Int) == (y.toNat : Int)) = decide (x = y) := fun x y => by
    rw [Bool.eq_iff_iff]
    simp only [beq_iff_eq, decide_eq_true_eq]
    exact ⟨fun h => UInt8.toNat_inj.1 (by omega), fun h => by rw [h]⟩
  by_cases h1 : k1 = k2
  · subst h1
    by_cases h2 : f1 = f2
    · subst h2
      have HQ := hid (show chkEq ⟨k1, f1, b1⟩ ⟨k1, f1, b2⟩ = decide (b1 = b2) by simp [chkEq])
      clear ne8
      go_enter Try.func40, Try.ntmps40
      go_wp2_with fail
      rw [← HE.out]
      refine (eqBytes_gr _ _ b1 b2 _ (HV.out.mono HW.out) (HU.out.mono HW.out)).mono ?_
      rintro e w' ⟨rfl, hb⟩
      have HB := hid (gr_trans HW.out hb)
      clear hb
      go_wp2_with fail
      go_ret
      exact ⟨by rw [HQ.out]; rfl, HB.out⟩
    · have HQ := hid (show chkEq ⟨k1, f1, b1⟩ ⟨k1, f2, b2⟩ = false by simp [chkEq, h2])
      have hn := ne8 f1 f2
      rw [decide_eq_false h2] at hn
      clear ne8 h2
      go_enter Try.func40, Try.ntmps40
      go_wp2_with fail
      go_ret
      exact ⟨by rw [HQ.out]; rfl, by rw [← HE.out]; exact HW.out⟩
  · have HQ := hid (show chkEq ⟨k1, f1, b1⟩ ⟨k2, f2, b2⟩ = false by simp [chkEq, h1])
    have hn := ne8 k1 k2
    rw [decide_eq_false h1] at hn
    clear ne8 h1
    go_enter Try.func40, Try.ntmps40
    go_wp2_with fail
    go_ret
    exact ⟨by rw [HQ.out]; rfl, by rw [← HE.out]; exact HW.out⟩
theorem chkSame_yes (v u : Value) (c : Chk) (w : World) (h : ChkAt w v c) (k : ChkAt w u c) :
    Calls Try.prog 40 #[v, u] w fun e w' => e = .returned (.bool true) ∧ Below w.heap.size w w' := by
  refine (chkSame_any v u c c w h k).mono ?_
  rintro e w' ⟨rfl, hb⟩
  exact ⟨by rw [(chkEq_iff c c).2 rfl], hb⟩
end Go.Proofs.Ytahpklciafpdaaa

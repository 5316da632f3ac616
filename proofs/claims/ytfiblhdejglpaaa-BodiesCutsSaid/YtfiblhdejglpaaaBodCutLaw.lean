/- What BodiesCuts says of one chunk: plain laws; five chunks in a row. Conditions: none. -/
import Derived.Test.YtfiblhdejglpaaaBodCutMath
import Derived.Test.YtfiblhdejglpaaaBodRoom
namespace Go.FL
open Go.RowKit
/-- Is a cut one a whole one? -/
def wh (c : Chk) (k : Nat) : Bool := if c.k = 192 then wholeF k else decide (k = c.b.length)
def CutLaw (c : Chk) : Prop := c.f = 0 ∧ c.k ≠ 0 ∧ 4 ≤ c.b.length ∧ c.b.length ≤ 1000000 ∧ ∀ k, k ≤ c.b.length → gotN (cutC c k) = if wh c k = true then gotN c else 0
theorem cutLaw_of (c : Chk) (hf : c.f = 0) (h0 : c.k ≠ 0) (h192 : c.k ≠ 192) (h4 : 4 ≤ c.b.length) (hl : c.b.length ≤ 1000000) (hc : ∀ k, k < c.b.length → gotN (cutC c k) = 0) : CutLaw c := by
  refine ⟨hf, h0, h4, hl, fun k hk => ?_⟩
  unfold wh
  rw [if_neg h192]
  by_cases e : k = c.b.length
  · subst e
    simp [cut_whole c hf]
  · simp [e, hc k (by omega)]
theorem cutLaw_init (i : InitD) (hc : i.ck.length ≤ 8192) : CutLaw (i.chk 2) := by
  have hll : (i.chk 2).b.length = (20 + i.ck.length + 3) / 4 * 4 := by
    show (i.body 2).length = _
    rw [InitD.body, if_pos rfl, padded_length, InitD.more_length, roundN]
  exact cutLaw_of _ rfl (show (2 : UInt8) ≠ 0 by decide) (show (2 : UInt8) ≠ 192 by decide) (by omega) (by omega) (fun k hk => cut_init i hc k hk)
theorem cutLaw_sack (s : SackD) (hg : s.gaps.length ≤ 2048) (hd : s.dups.length ≤ 2048) : CutLaw s.chk := by
  have hll : s.chk.b.length = 12 + 4 * s.gaps.length + 4 * s.dups.length := s.body_length
  exact cutLaw_of _ rfl (show (3 : UInt8) ≠ 0 by decide) (show (3 : UInt8) ≠ 192 by decide) (by omega) (by omega) (fun k hk => cut_sack s (by omega) (by omega) k hk)
theorem cutLaw_time (a : Int) : CutLaw (timeChk 4 a) := by
  have hll : (timeChk 4 a).b.length = 12 := timeBody_length a
  exact cutLaw_of _ rfl (show (4 : UInt8) ≠ 0 by decide) (show (4 : UInt8) ≠ 192 by decide) (by omega) (by omega) (fun k hk => cut_time a k hk)
theorem cutLaw_cum (m : Nat) : CutLaw (cumChk m) := by
  have hll : (cumChk m).b.length = 4 := beBytes_length _ _
  exact cutLaw_of _ rfl (show (7 : UInt8) ≠ 0 by decide) (show (7 : UInt8) ≠ 192 by decide) (by omega) (by omega) (fun k hk => cut_cum m k hk)
theorem cutLaw_fwd (f : FwdD) (hw : f.wf) (hs : f.skips.length ≤ 2048) : CutLaw f.chk := by
  have hll : f.chk.b.length = 4 + 4 * f.skips.length := f.body_length
  refine ⟨rfl, show (192 : UInt8) ≠ 0 by decide, by omega, by omega, fun k hk => ?_⟩
  have e1 := cut_fwd f hw f.chk.b.length (Nat.le_refl _)
  rw [cut_whole f.chk rfl] at e1
  have e2 : wholeF f.chk.b.length = true := by
    unfold wholeF
    simp
    omega
  rw [if_pos e2] at e1
  rw [cut_fwd f hw k hk, e1, wh, if_pos (show f.chk.k = 192 from rfl)]
theorem flag_law (c : Chk) (hf : c.f = 0) (h0 : c.k ≠ 0) (fl : UInt8) : gotN ⟨c.k, fl, c.b⟩ = if fl = 0 then gotN c else 0 := by
  by_cases e : fl = 0
  · rw [if_pos e, e, ← hf]
  · rw [if_neg e]
    exact gotN_flags _ h0 e
/-- Chunks, three cells each, one behind the other in a block. -/
def RdC (w : World) (g : Nat) (cs : List Chk) : Prop := ∀ j (_ : j < cs.length), ∃ p n c, w.cell? ⟨g, j * 3, none⟩ = some (.int .u8 ((cs[j].k.toNat : Nat) : Int)) ∧ w.cell? ⟨g, j * 3 + 1, none⟩ = some (.int .u8 ((cs[j].f.toNat : Nat) : Int)) ∧ w.cell? ⟨g, j * 3 + 2, none⟩ = some (.slice p n c) ∧ Rd w (.slice p n c) cs[j].b
theorem RdC.mono {w w' : World} {g : Nat} {cs : List Chk} (h : RdC w g cs) (hb : Below w.heap.size w w') : RdC w' g cs := by
  intro j hj
  obtain ⟨p, n, c, h1, h2, h3, h4⟩ := h j hj
  exact ⟨p, n, c, cell?_of_below hb h1, cell?_of_below hb h2, cell?_of_below hb h3, h4.mono hb⟩
theorem RdC.five {w : World} {g e : Nat} {c0 c1 c2 c3 c4 : Chk} {s0 s1 s2 s3 s4 : Value}
    (hr : RowV w g e [.int .u8 (c0.k.toNat : Int), .int .u8 (c0.f.toNat : Int), s0, .int .u8 (c1.k.toNat : Int), .int .u8 (c1.f.toNat : Int), s1, .int .u8 (c2.k.toNat : Int), .int .u8 (c2.f.toNat : Int), s2, .int .u8 (c3.k.toNat : Int), .int .u8 (c3.f.toNat : Int), s3, .int .u8 (c4.k.toNat : Int), .int .u8 (c4.f.toNat : Int), s4])
    (h0 : Rd w s0 c0.b) (h1 : Rd w s1 c1.b) (h2 : Rd w s2 c2.b) (h3 : Rd w s3 c3.b) (h4 : Rd w s4 c4.b) : RdC w g [c0, c1, c2, c3, c4] := by
  intro j hj
  simp at hj
  have hc : j = 0 ∨ j = 1 ∨ j = 2 ∨ j = 3 ∨ j = 4 := by omega
  rcases hc with rfl | rfl | rfl | rfl | rfl
  · obtain ⟨p, n, c, rfl⟩ := h0.form
    exact ⟨p, n, c, hr.at 0 (by simp), hr.at 1 (by simp), hr.at 2 (by simp), h0⟩
  · obtain ⟨p, n, c, rfl⟩ := h1.form
    exact ⟨p, n, c, hr.at 3 (by simp), hr.at 4 (by simp), hr.at 5 (by simp), h1⟩
  · obtain ⟨p, n, c, rfl⟩ := h2.form
    exact ⟨p, n, c, hr.at 6 (by simp), hr.at 7 (by simp), hr.at 8 (by simp), h2⟩
  · obtain ⟨p, n, c, rfl⟩ := h3.form
    exact ⟨p, n, c, hr.at 9 (by simp), hr.at 10 (by simp), hr.at 11 (by simp), h3⟩
  · obtain ⟨p, n, c, rfl⟩ := h4.form
    exact ⟨p, n, c, hr.at 12 (by simp), hr.at 13 (by simp), hr.at 14 (by simp), h4⟩
/-- A slice of five. -/
def L5F (cs : List Chk) : Value → World → Prop := fun v w => ∃ g, v = .slice (some ⟨g, 0, none⟩) 5 5 ∧ RdC w g cs
theorem L5F.gr (cs : List Chk) : Stab GrR (L5F cs) := fun _ _ _ ⟨g, h1, h2⟩ k => ⟨g, h1, h2.mono k⟩
/-- What GetData answers. -/
def GDF (e : Int) : Value → World → Prop := fun v _ => ∃ a0 a1 a2 a3 a4 a5 p n c, v = .tuple #[.agg #[.int .u32 a0, .int .u16 a1, .int .u16 a2, .bool a3, .bool a4, .bool a5, .slice p n c], .int .i64 e]
theorem GDF.gr (e : Int) : Stab GrR (GDF e) := fun _ _ _ h _ => h
def GD1 : Value → World → Prop := fun v _ => ∃ a0 a1 a2 a3 a4 a5 p n c, v = .agg #[.int .u32 a0, .int .u16 a1, .int .u16 a2, .bool a3, .bool a4, .bool a5, .slice p n c]
theorem GD1.gr : Stab GrR GD1 := fun _ _ _ h _ => h
end Go.FL

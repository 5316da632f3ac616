/- bodies.GetSack: an acknowledgement. Conditions: what comes in reads as it should. -/
import Derived.Test.YtfiblhdejglpaaaGetsA
import Derived.Test.YtfiblhdejglpaaaBodGetF
import Derived.Test.YtfiblhdejglpaaaPutsB
namespace Go.FL
open Go.RowKit
/-- Whether pairs rise so far, and where the last ends. -/
def apartStep (s : Bool × Nat) (g : Nat × Nat) : Bool × Nat := (s.1 && decide (s.2 + 2 ≤ g.1) && decide (g.1 ≤ g.2), g.2)
def apartS (l : List (Nat × Nat)) : Bool × Nat := l.foldl apartStep (true, 0)
theorem apartS_snoc (l : List (Nat × Nat)) (g : Nat × Nat) : apartS (l ++ [g]) = apartStep (apartS l) g := by simp [apartS]
theorem apartS_lt (l : List (Nat × Nat)) (h : pairsWf l) : (apartS l).2 < 65536 := by
  rcases List.eq_nil_or_concat l with rfl | ⟨m, g, rfl⟩
  · simp [apartS]
  · rw [List.concat_eq_append, apartS_snoc]
    exact (h g (by simp)).2
def cnt4 (n a : Nat) : Nat := (n - a + 3) / 4
theorem cnt4_lt (n a j : Nat) : j < cnt4 n a ↔ a + 4 * j < n := by unfold cnt4; omega
def sackNG (c : Chk) : Nat := min (numAt c.b 8 2) (cnt4 c.b.length 12)
def sackND (c : Chk) : Nat := min (numAt c.b 10 2) (cnt4 c.b.length (12 + 4 * sackNG c))
def sackOf (c : Chk) : SackD := ⟨numAt c.b 0 4, numAt c.b 4 4, pairsAt c.b 12 (sackNG c), numsAt c.b (12 + 4 * sackNG c) (sackND c)⟩
def sackGet (c : Chk) : SackD × Int := if (apartS (sackOf c).gaps).1 = true ∧ (sackOf c).chk = c then (sackOf c, 0) else (.zero, 7)
theorem numsAt_wf (l : List UInt8) (a n : Nat) : numsWf (numsAt l a n) := by
  intro g hg
  simp only [numsAt, List.mem_map] at hg
  obtain ⟨i, _, rfl⟩ := hg
  exact numAt_lt l _ 4
theorem RowV.rdV {w : World} {h e n : Nat} {l : List Value} (hr : RowV w h e l) (hl : n = l.length) (hn : n ≤ maxLen) : RdV w (.slice (some ⟨h, 0, none⟩) n n) l := by
  subst hl
  exact ⟨_, _, rfl, Nat.le_refl _, hn, by simp, fun j hj => ⟨h, 0, rfl, by rw [Nat.zero_add]; exact hr.at j hj⟩⟩
theorem OwnP.lt {w : World} {base e : Nat} {v : Value} {l : List (Nat × Nat)} (h : OwnP w base e v l) : ∀ k, v.ownBlock = some k → k < w.heap.size := by
  intro k hk
  obtain ⟨h0, ⟨rfl, h2⟩ | ⟨g, m, sp, h1, rfl, h2, hr, hm⟩⟩ := h
  · simp [Value.ownBlock] at hk
  · simp [Value.ownBlock] at hk
    have := (Array.getElem?_eq_some_iff.1 hr).1
    omega
def NumsO (w : World) (base e : Nat) (v : Value) (l : List Nat) : Prop := OwnV w base e v (l.map fun x : Nat => Value.int .u32 (x : Int))
theorem NumsO.form {w : World} {base e : Nat} {v : Value} {l : List Nat} (h : NumsO w base e v l) : ∃ p c, v = .slice p l.length c ∧ c ≤ maxLen := by
  obtain ⟨p, c, h1, h2, h3, h4, h5⟩ := OwnV.rd h
  rw [List.length_map] at h1
  exact ⟨p, c, h1, h3⟩
end Go.FL
namespace Go.Proofs.Ytfiblhdejglpaaa
open Go.RowKit Go.FL Go.ChangeShapes

theorem infoGap : (Try.prog.info? 80).map (fun i => (i.zero, i.size, i.bytes)) = some (some (.agg #[.int .u16 0, .int .u16 0]), 2, 4) := by kernel_rfl
theorem infoU32g : (Try.prog.info? 22).map (fun i => (i.zero, i.size, i.bytes)) = some (some (.int .u32 0), 1, 4) := by kernel_rfl

theorem getSack_ret {a : Act} {W : World} {g : Nat} {R : Ending → World → Prop} (v0 v1 v2 v3 : Value) (er : Int) (h2 : a.tmps.getD 2 undef = .pointer (some ⟨g, 0, none⟩)) (h3 : a.tmps.getD 3 undef = .int .i64 er) (hd : a.defers = [])
    (hc : RowV W g 45 [v0, v1, v2, v3]) (hR : R (.returned (.tuple #[.agg #[v0, v1, v2, v3], .int .i64 er])) W) : bodyPost Try.prog Try.f25 R .ret a W := by
  refine bodyPost_ret (v := .tuple #[.agg #[v0, v1, v2, v3], .int .i64 er]) ?_ hd hR
  obtain ⟨c0, c1, c2, c3, -⟩ := rowSack hc
  simp only [Array.getD_eq_getD_getElem?] at h2 h3
  simp [results, Try.results25, go_sem, h2, h3, asAddr, c0, c1, c2, c3]

set_option maxRecDepth 100000 in
set_option maxHeartbeats 8000000 in
theorem getSack_any (v : Value) (ch : Chk) (w : World) (h : ChkV w v ch) (hl : ch.b.length ≤ 1000000) :
    Calls Try.prog 25 #[v] w fun e w' => ∃ s, e = .returned (.tuple #[s, .int .i64 (sackGet ch).2]) ∧ SackAt w' s (sackGet ch).1 ∧ Below w.heap.size w w' := by
  obtain ⟨s, rfl, hrd⟩ := h
  have HV := hid hrd
  obtain ⟨p, c, rfl, hlc, hcm, hpn, hcell⟩ := hrd
  unfold maxLen at hcm
  clear hcell
  obtain ⟨kc, fc, bc⟩ := ch
  simp only at *
  have hn0 := numAt_lt bc 0 4
  have hn1 := numAt_lt bc 4 4
  have hn2 := numAt_lt bc 8 2
  have hn3 := numAt_lt bc 10 2
  obtain ⟨NG, hNG⟩ : ∃ N, N = sackNG ⟨kc, fc, bc⟩ := ⟨_, rfl⟩
  obtain ⟨ND, hND⟩ : ∃ N, N = sackND ⟨kc, fc, bc⟩ := ⟨_, rfl⟩
  have HDO := hid (show sackOf ⟨kc, fc, bc⟩ = ⟨numAt bc 0 4, numAt bc 4 4, pairsAt bc 12 NG, numsAt bc (12 + 4 * NG) ND⟩ by rw [hNG, hND]; rfl)
  have hNG2 : NG = min (numAt bc 8 2) (cnt4 bc.length 12) := hNG
  have hND2 : ND = min (numAt bc 10 2) (cnt4 bc.length (12 + 4 * NG)) := by rw [hND, hNG]; rfl
  obtain ⟨x0, hx0⟩ : ∃ x, x = numAt bc 0 4 := ⟨_, rfl⟩
  obtain ⟨x1, hx1⟩ : ∃ x, x = numAt bc 4 4 := ⟨_, rfl⟩
  obtain ⟨gaps, hx2⟩ : ∃ x, x = numAt bc 8 2 := ⟨_, rfl⟩
  obtain ⟨dups, hx3⟩ : ∃ x, x = numAt bc 10 2 := ⟨_, rfl⟩
  rw [← hx0] at hn0 HDO
  rw [← hx1] at hn1 HDO
  rw [← hx2] at hn2 hNG2
  rw [← hx3] at hn3 hND2
  have HX0 := hid hx0
  have HX1 := hid hx1
  have HX2 := hid hx2
  have HX3 := hid hx3
  have HNL := hid (show ∀ j, j < NG ↔ j < gaps ∧ 12 + 4 * j < bc.length by intro j; rw [hNG2, Nat.lt_min, cnt4_lt])
  have HML := hid (show ∀ i, i < ND ↔ i < dups ∧ 12 + 4 * NG + 4 * i < bc.length by intro i; rw [hND2, Nat.lt_min, cnt4_lt])
  have hN1 : NG ≤ 65535 := by omega
  have hN2 : ND ≤ 65535 := by omega
  obtain ⟨res, hres⟩ : ∃ r, r = sackGet ⟨kc, fc, bc⟩ := ⟨_, rfl⟩
  rw [← hres]
  have HRES := hid hres
  clear hx0 hx1 hx2 hx3 hres hNG hND hNG2 hND2
  have hw0 : IntKind.u32.wrap (x0 : Int) = (x0 : Int) := by rw [wrap_u32_lt]; omega
  have hw1 : IntKind.u32.wrap (x1 : Int) = (x1 : Int) := by rw [wrap_u32_lt]; omega
  obtain ⟨Wa, hWa⟩ : ∃ W0, W0 = w.alloc (.cells #[.int .u8 (kc.toNat : Int), .int .u8 (fc.toNat : Int), .slice p bc.length c] 28 (0, 0)) := ⟨_, rfl⟩
  have hsa : Wa.heap.size = w.heap.size + 1 := by rw [hWa]; simp
  obtain ⟨Wb, hWb⟩ : ∃ W0, W0 = Wa.alloc (.cells #[.int .u32 0, .int .u32 0, .slice none 0 0, .slice none 0 0] 45 (0, 0)) := ⟨_, rfl⟩
  have hsb : Wb.heap.size = w.heap.size + 2 := by rw [hWb]; simp [hsa]
  obtain ⟨W, hW⟩ : ∃ W, W = Wb.alloc (.cells #[(.slice p bc.length c), .int .i64 0] 90 (0, 0)) := ⟨_, rfl⟩
  have HC := hid (show RowV W w.heap.size 28 [.int .u8 (kc.toNat : Int), .int .u8 (fc.toNat : Int), .slice p bc.length c] by rw [hW, hWb, hWa]; exact ((RowV.new w 28 _).alloc _).alloc _)
  have HT := hid (show RowV W (w.heap.size + 1) 45 [.int .u32 0, .int .u32 0, .slice none 0 0, .slice none 0 0] by rw [hW, hWb, ← hsa]; exact (RowV.new Wa 45 _).alloc _)
  have HR := hid (show RdrAt (w.heap.size + 2) (.slice p bc.length c) 0 W by rw [hW, ← hsb]; exact RowV.new Wb 90 _)
  have G0 := hid (show Below w.heap.size w W by rw [hW, hWb, hWa]; exact (((Below.refl _ _).alloc (Nat.le_refl _) _).alloc (by simp) _).alloc (by simp; omega) _)
  have hs1 : W.heap.size = w.heap.size + 3 := by rw [hW]; simp [hsb]
  rw [hWb, hWa] at hW
  have HE := hid hW
  clear hW hWa hWb hsa hsb
  have hkb := byte_lt kc
  have hfb := byte_lt fc
  go_enter Try.func25, Try.ntmps25
  go_wp2_with fail
  rw [← HE.out]
  refine (btake_any _ _ bc 0 4 _ rfl (by omega) _ HR.out (HV.out.mono G0.out) (by omega)).mono ?_
  rw [← HX0.out]
  rintro e w1 ⟨rfl, hj1, hg1⟩
  have HC1 := hid (HC.out.grown hg1 (fun e => by simp at e))
  have HT1 := hid (HT.out.grown hg1 (fun e => by simp at e))
  have HJ1 := hid hj1
  have G1 := hid (show Below w.heap.size w w1 from G0.out.trans (gb_below hg1 (by omega) (by omega)))
  have hsz1 := hg1.size
  clear hj1 hg1
  go_wp2_with fail
  refine (btake_any _ _ bc 4 4 _ rfl (by omega) _ HJ1.out (HV.out.mono G1.out) (by omega)).mono ?_
  rw [← HX1.out]
  rintro e w2 ⟨rfl, hj2, hg2⟩
  have HC2 := hid (HC1.out.grown hg2 (fun e => by simp at e))
  have HT2 := hid (HT1.out.grown hg2 (fun e => by simp at e))
  have HJ2 := hid hj2
  have G2 := hid (show Below w.heap.size w w2 from G1.out.trans (gb_below hg2 (by omega) (by omega)))
  have hsz2 := hg2.size
  clear hj2 hg2
  obtain ⟨W3, hW3⟩ : ∃ W3, W3 = w2.alloc (.cells #[.int .u32 (x0 : Int), .int .u32 (x1 : Int), .slice none 0 0, .slice none 0 0] 45 (0, 0)) := ⟨_, rfl⟩
  have g3 : Below w2.heap.size w2 W3 := by rw [hW3]; exact (Below.refl _ _).alloc (Nat.le_refl _) _
  have hs3 : W3.heap.size = w2.heap.size + 1 := by rw [hW3]; simp
  have HC3 := hid (HC2.out.mono g3)
  have HT3 := hid (HT2.out.mono g3)
  have HJ3 := hid (show RdrAt (w.heap.size + 2) (.slice p bc.length c) 8 W3 from RowV.mono HJ2.out g3)
  have HF3 := hid (show RowV W3 w2.heap.size 45 [.int .u32 (x0 : Int), .int .u32 (x1 : Int), .slice none 0 0, .slice none 0 0] by rw [hW3]; exact RowV.new w2 45 _)
  have G3 := hid (gr_trans G2.out g3)
  have HE3 := hid hW3
  obtain ⟨h, hh⟩ : ∃ h, h = w2.heap.size := ⟨_, rfl⟩
  clear hW3 g3
  go_wp2_with fail
  rw [← HE3.out]
  rw [← hh] at HF3 hsz2 hs3 ⊢
  clear hh HE3
  refine (btake_any _ _ bc 8 2 _ rfl (by omega) _ HJ3.out (HV.out.mono G3.out) (by omega)).mono ?_
  rw [← HX2.out]
  rintro e w4 ⟨rfl, hj4, hg4⟩
  have HC4 := hid (HC3.out.grown hg4 (fun e => by simp at e))
  have HT4 := hid (HT3.out.grown hg4 (fun e => by simp at e))
  have HF4 := hid (HF3.out.grown hg4 (fun e => by simp at e; omega))
  have HJ4 := hid hj4
  have G4 := hid (show Below w.heap.size w w4 from G3.out.trans (gb_below hg4 (by omega) (by omega)))
  have hsz4 := hg4.size
  clear hj4 hg4
  go_wp2_with fail
  refine (btake_any _ _ bc 10 2 _ rfl (by omega) _ HJ4.out (HV.out.mono G4.out) (by omega)).mono ?_
  rw [← HX3.out]
  rintro e w5 ⟨rfl, hj5, hg5⟩
  have HC5 := hid (HC4.out.grown hg5 (fun e => by simp at e))
  have HT5 := hid (HT4.out.grown hg5 (fun e => by simp at e))
  have HF5 := hid (HF4.out.grown hg5 (fun e => by simp at e; omega))
  have HJ5 := hid hj5
  have G5 := hid (show Below w.heap.size w w5 from G4.out.trans (gb_below hg5 (by omega) (by omega)))
  have hsz5 := hg5.size
  clear hj5 hg5
  go_wp2_with fail
  go_loopw [8, 9, 10, 27] (fun o8 o9 o10 y wr => ∃ (j : Nat) (z : Value), j ≤ NG ∧ y = .int .u64 (j : Int) ∧ o8 = .bool (apartS (pairsAt bc 12 j)).1 ∧ o9 = .int .i64 ((apartS (pairsAt bc 12 j)).2 : Int) ∧ Hid (RdrAt (w.heap.size + 2) (.slice p bc.length c) (12 + 4 * j) wr) ∧ Hid (RowV wr h 45 [.int .u32 (x0 : Int), .int .u32 (x1 : Int), z, .slice none 0 0]) ∧ Hid (OwnP wr (h + 1) 80 z (pairsAt bc 12 j)) ∧ Hid (Chg (fun k => k = (w.heap.size + 2) ∨ h ≤ k) w5 wr)) (fun _ _ _ y _ => NG - (intOf y).toNat)
  case atStart => exact ⟨0, .slice none 0 0, Nat.zero_le _, rfl, rfl, rfl, HJ5, HF5, hid (OwnP.nil _ _ _), hid (Chg.refl _ _)⟩
  case round =>
    obtain ⟨j, z, hj, rfl, rfl, rfl, HJ, HF, HO, HG⟩ := hrel
    obtain ⟨pz, cz, rfl, hcz⟩ := HO.out.form
    have HCr := hid (HC5.out.chg HG.out (by omega))
    have HTr := hid (HT5.out.chg HG.out (by omega))
    have Gr := hid (show Below w.heap.size w wr from G5.out.trans (HG.out.below (B := w.heap.size) (by omega) (fun k hk => by omega)))
    have hszr := HG.out.size
    have HLP := hid (pairsAt_length bc 12 j)
    rw [HLP.out] at HF HO
    have hlast := apartS_lt _ (pairsAt_wf bc 12 j)
    obtain ⟨ok, hok⟩ : ∃ b, b = (apartS (pairsAt bc 12 j)).1 := ⟨_, rfl⟩
    obtain ⟨last, hlst⟩ : ∃ b, b = (apartS (pairsAt bc 12 j)).2 := ⟨_, rfl⟩
    have HAP := hid (show (apartS (pairsAt bc 12 j)) = (ok, last) by rw [hok, hlst])
    rw [← hlst] at hlast ⊢
    rw [← hok]
    clear hok hlst
    by_cases hlt : j < NG
    · obtain ⟨hltg, hin⟩ := (HNL.out j).1 hlt
      have hlg : (j : Int) < (gaps : Int) := by omega
      have hpos : ¬ (bc.length : Int) - ((12 + 4 * j : Nat) : Int) ≤ 0 := by omega
      have hpos2 : (0 : Int) < (bc.length : Int) - ((12 + 4 * j : Nat) : Int) := by omega
      go_wp2_with fail
      refine (bleft_any _ _ bc (12 + 4 * j) _ HJ.out (HV.out.mono Gr.out) (by omega)).mono ?_
      rintro e w6 ⟨rfl, hb6⟩
      have HJ6 := hid (show RdrAt (w.heap.size + 2) (.slice p bc.length c) (12 + 4 * j) w6 from RowV.mono HJ.out hb6)
      have HF6 := hid (HF.out.mono hb6)
      have HO6 := hid (HO.out.mono hb6)
      have HG6 := hid (HG.out.trans (Chg.of_gr hb6))
      have G6 := hid (gr_trans Gr.out hb6)
      have hsz6 := hb6.size
      clear hb6 HJ HF HO HG
      have hna := numAt_lt bc (12 + 4 * j) 2
      have hnb := numAt_lt bc (12 + 4 * j + 2) 2
      have HSU := hid (show pairsAt bc 12 (j + 1) = pairsAt bc 12 j ++ [(numAt bc (12 + 4 * j) 2, numAt bc (12 + 4 * j + 2) 2)] from pairsAt_succ bc 12 j)
      obtain ⟨xa, hxa⟩ : ∃ x, x = numAt bc (12 + 4 * j) 2 := ⟨_, rfl⟩
      obtain ⟨xb, hxb⟩ : ∃ x, x = numAt bc (12 + 4 * j + 2) 2 := ⟨_, rfl⟩
      rw [← hxa] at hna
      rw [← hxb] at hnb
      rw [← hxa, ← hxb] at HSU
      have HXA := hid hxa
      have HXB := hid hxb
      have hwa : IntKind.u16.wrap (xa : Int) = (xa : Int) := by rw [IntKind.wrap_u16]; omega
      have hwb : IntKind.u16.wrap (xb : Int) = (xb : Int) := by rw [IntKind.wrap_u16]; omega
      have HST := hid (show apartS (pairsAt bc 12 (j + 1)) = (ok && decide (last + 2 ≤ xa) && decide (xa ≤ xb), xb) by rw [HSU.out, apartS_snoc, HAP.out]; rfl)
      clear hxa hxb
      go_wp2_with fail
      refine (btake_any _ _ bc (12 + 4 * j) 2 _ rfl (by omega) _ HJ6.out (HV.out.mono G6.out) (by omega)).mono ?_
      rw [← HXA.out]
      rintro e w7 ⟨rfl, hj7, hg7⟩
      have HJ7 := hid hj7
      have HF7 := hid (HF6.out.grown hg7 (fun e => by simp at e; omega))
      have HO7 := hid (HO6.out.keep hg7 (fun k hk e => by have := HO6.out.ge k hk; simp at e; omega))
      have HG7 := hid (HG6.out.trans ((Chg.of_grown hg7).weak (fun i _ e => .inl (by simpa using e.symm))))
      have G7 := hid (show Below w.heap.size w w7 from G6.out.trans (gb_below hg7 (by omega) (by omega)))
      have hsz7 := hg7.size
      clear hj7 hg7
      go_wp2_with fail
      refine (btake_any _ _ bc (12 + 4 * j + 2) 2 _ rfl (by omega) _ HJ7.out (HV.out.mono G7.out) (by omega)).mono ?_
      rw [← HXB.out]
      rintro e w8 ⟨rfl, hj8, hg8⟩
      have HF8 := hid (HF7.out.grown hg8 (fun e => by simp at e; omega))
      have HO8 := hid (HO7.out.keep hg8 (fun k hk e => by have := HO7.out.ge k hk; simp at e; omega))
      have HG8 := hid (HG7.out.trans ((Chg.of_grown hg8).weak (fun i _ e => .inl (by simpa using e.symm))))
      have hsz8 := hg8.size
      obtain ⟨W9, hW9⟩ : ∃ W, W = w8.alloc (.cells #[.int .u16 (xa : Int), .int .u16 (xb : Int)] 80 (0, 0)) := ⟨_, rfl⟩
      have hs9 : W9.heap.size = w8.heap.size + 1 := by rw [hW9]; simp
      obtain ⟨W10, hW10⟩ : ∃ W, W = W9.alloc (.cells #[.int .u16 (xa : Int), .int .u16 (xb : Int)] 80 (0, 0)) := ⟨_, rfl⟩
      have hs10 : W10.heap.size = w8.heap.size + 2 := by rw [hW10]; simp [hs9]
      have HNR := hid (show RdK W10 2 (.slice (some ⟨w8.heap.size + 1, 0, none⟩) 1 1) 1 [.int .u16 (xa : Int), .int .u16 (xb : Int)] by rw [hW10, ← hs9]; exact (RowV.new W9 80 _).rdK rfl (by unfold maxLen; omega))
      have g10 : Below w8.heap.size w8 W10 := by rw [hW10, hW9]; exact ((Below.refl _ _).alloc (Nat.le_refl _) _).alloc (by simp) _
      have HJ10 := hid (show RdrAt (w.heap.size + 2) (.slice p bc.length c) (12 + 4 * (j + 1)) W10 from RowV.mono hj8 g10)
      have HF10 := hid (HF8.out.mono g10)
      have HO10 := hid (HO8.out.mono g10)
      have HG10 := hid (HG8.out.trans (Chg.of_gr g10))
      have HE10 := hid (show W10 = (w8.alloc (.cells #[.int .u16 (xa : Int), .int .u16 (xb : Int)] 80 (0, 0))).alloc (.cells #[.int .u16 (xa : Int), .int .u16 (xb : Int)] 80 (0, 0)) by rw [hW10, hW9])
      have t2 := (show RowV W9 h 45 _ from HF8.out.mono (by rw [hW9]; exact (Below.refl _ _).alloc (Nat.le_refl _) _)).at 2 (by simp)
      simp only [List.getElem_cons_succ, List.getElem_cons_zero] at t2
      rw [hW9] at t2
      clear hj8 hg8 hW9 hW10 g10 hs9
      cases ok
      · skip
        go_wp2_with (at_builtin; refine wpList_append_OwnK rfl (.tmp 59) (.tmp 61) 42 rfl (h + 1) 80 (.agg #[.int .u16 0, .int .u16 0]) 2 4 rfl (by omega) Try.underlying42 infoGap _ _ j 1 (pairsV (pairsAt bc 12 j)) [.int .u16 (xa : Int), .int .u16 (xb : Int)] (by intro u hu; simp at hu; rcases hu with rfl | rfl <;> rfl) rfl (by rw [← HE10.out]; have := HO10.out; unfold OwnP at this; rwa [HLP.out] at this) rfl (by rw [← HE10.out]; exact HNR.out) (by omega) (by omega) (by rw [← HE10.out]; omega) ?_)
        rw [← HE10.out]
        intro v6 w11 ho6 hg6
        have HO11 := hid (show OwnP w11 (h + 1) 80 v6 (pairsAt bc 12 (j + 1)) by
          unfold OwnP
          rw [HSU.out, pairsV_append, List.length_append, HLP.out]
          exact ho6)
        have HJ11 := hid (show RdrAt (w.heap.size + 2) (.slice p bc.length c) (12 + 4 * (j + 1)) w11 from RowV.grown HJ10.out hg6 (fun e => by have := HO10.out.ge _ e; omega))
        have HF11 := hid (HF10.out.grown hg6 (fun e => by have := HO10.out.ge _ e; omega))
        have HG11 := hid (HG10.out.trans ((Chg.of_grown hg6).weak (fun i _ e => .inr (by have := HO10.out.ge _ e; omega))))
        obtain ⟨p6, c6, rfl, hc6⟩ := HO11.out.form
        obtain ⟨n6, hn6⟩ : ∃ n, n = (pairsAt bc 12 (j + 1)).length := ⟨_, rfl⟩
        rw [← hn6] at HO11 ⊢
        have s2 := HF11.out.at 2 (by simp)
        have u2 := HF11.out.frozen 2
        simp only [List.getElem_cons_succ, List.getElem_cons_zero] at s2
        clear ho6 hg6 hn6 t2
        go_wp2_with fail
        go_roundw
        case rel =>
          refine ⟨j + 1, .slice p6 n6 c6, by omega, by go_num, by rw [HST.out]; rfl, by rw [HST.out], hid ?_, hid (HF11.out.store 2 _), hid ?_, hid (HG11.out.set _ _ (.inl (.inr (Nat.le_refl _))))⟩
          · exact RowV.other HJ11.out _ _ (by show h ≠ _; omega)
          · exact HO11.out.keep (r := some h) (gb_set (gb_refl _ _) 2 _) (fun k hk e => by have := HO11.out.ge k hk; simp at e; omega)
        case measure => simp [intOf]; omega
      · by_cases b1 : last + 2 ≤ xa
        · have hb1 : ((last : Int) + 2 ≤ (xa : Int)) := by omega
          go_wp2_with (at_builtin; refine wpList_append_OwnK rfl (.tmp 59) (.tmp 61) 42 rfl (h + 1) 80 (.agg #[.int .u16 0, .int .u16 0]) 2 4 rfl (by omega) Try.underlying42 infoGap _ _ j 1 (pairsV (pairsAt bc 12 j)) [.int .u16 (xa : Int), .int .u16 (xb : Int)] (by intro u hu; simp at hu; rcases hu with rfl | rfl <;> rfl) rfl (by rw [← HE10.out]; have := HO10.out; unfold OwnP at this; rwa [HLP.out] at this) rfl (by rw [← HE10.out]; exact HNR.out) (by omega) (by omega) (by rw [← HE10.out]; omega) ?_)
          rw [← HE10.out]
          intro v6 w11 ho6 hg6
          have HO11 := hid (show OwnP w11 (h + 1) 80 v6 (pairsAt bc 12 (j + 1)) by
            unfold OwnP
            rw [HSU.out, pairsV_append, List.length_append, HLP.out]
            exact ho6)
          have HJ11 := hid (show RdrAt (w.heap.size + 2) (.slice p bc.length c) (12 + 4 * (j + 1)) w11 from RowV.grown HJ10.out hg6 (fun e => by have := HO10.out.ge _ e; omega))
          have HF11 := hid (HF10.out.grown hg6 (fun e => by have := HO10.out.ge _ e; omega))
          have HG11 := hid (HG10.out.trans ((Chg.of_grown hg6).weak (fun i _ e => .inr (by have := HO10.out.ge _ e; omega))))
          obtain ⟨p6, c6, rfl, hc6⟩ := HO11.out.form
          obtain ⟨n6, hn6⟩ : ∃ n, n = (pairsAt bc 12 (j + 1)).length := ⟨_, rfl⟩
          rw [← hn6] at HO11 ⊢
          have s2 := HF11.out.at 2 (by simp)
          have u2 := HF11.out.frozen 2
          simp only [List.getElem_cons_succ, List.getElem_cons_zero] at s2
          clear ho6 hg6 hn6 t2
          go_wp2_with fail
          go_roundw
          case rel =>
            refine ⟨j + 1, .slice p6 n6 c6, by omega, by go_num, by rw [HST.out]; simp [b1], by rw [HST.out], hid ?_, hid (HF11.out.store 2 _), hid ?_, hid (HG11.out.set _ _ (.inl (.inr (Nat.le_refl _))))⟩
            · exact RowV.other HJ11.out _ _ (by show h ≠ _; omega)
            · exact HO11.out.keep (r := some h) (gb_set (gb_refl _ _) 2 _) (fun k hk e => by have := HO11.out.ge k hk; simp at e; omega)
          case measure => simp [intOf]; omega
        · have hb1 : ¬ ((last : Int) + 2 ≤ (xa : Int)) := by omega
          go_wp2_with (at_builtin; refine wpList_append_OwnK rfl (.tmp 59) (.tmp 61) 42 rfl (h + 1) 80 (.agg #[.int .u16 0, .int .u16 0]) 2 4 rfl (by omega) Try.underlying42 infoGap _ _ j 1 (pairsV (pairsAt bc 12 j)) [.int .u16 (xa : Int), .int .u16 (xb : Int)] (by intro u hu; simp at hu; rcases hu with rfl | rfl <;> rfl) rfl (by rw [← HE10.out]; have := HO10.out; unfold OwnP at this; rwa [HLP.out] at this) rfl (by rw [← HE10.out]; exact HNR.out) (by omega) (by omega) (by rw [← HE10.out]; omega) ?_)
          rw [← HE10.out]
          intro v6 w11 ho6 hg6
          have HO11 := hid (show OwnP w11 (h + 1) 80 v6 (pairsAt bc 12 (j + 1)) by
            unfold OwnP
            rw [HSU.out, pairsV_append, List.length_append, HLP.out]
            exact ho6)
          have HJ11 := hid (show RdrAt (w.heap.size + 2) (.slice p bc.length c) (12 + 4 * (j + 1)) w11 from RowV.grown HJ10.out hg6 (fun e => by have := HO10.out.ge _ e; omega))
          have HF11 := hid (HF10.out.grown hg6 (fun e => by have := HO10.out.ge _ e; omega))
          have HG11 := hid (HG10.out.trans ((Chg.of_grown hg6).weak (fun i _ e => .inr (by have := HO10.out.ge _ e; omega))))
          obtain ⟨p6, c6, rfl, hc6⟩ := HO11.out.form
          obtain ⟨n6, hn6⟩ : ∃ n, n = (pairsAt bc 12 (j + 1)).length := ⟨_, rfl⟩
          rw [← hn6] at HO11 ⊢
          have s2 := HF11.out.at 2 (by simp)
          have u2 := HF11.out.frozen 2
          simp only [List.getElem_cons_succ, List.getElem_cons_zero] at s2
          clear ho6 hg6 hn6 t2
          go_wp2_with fail
          go_roundw
          case rel =>
            refine ⟨j + 1, .slice p6 n6 c6, by omega, by go_num, by rw [HST.out]; simp [b1], by rw [HST.out], hid ?_, hid (HF11.out.store 2 _), hid ?_, hid (HG11.out.set _ _ (.inl (.inr (Nat.le_refl _))))⟩
            · exact RowV.other HJ11.out _ _ (by show h ≠ _; omega)
            · exact HO11.out.keep (r := some h) (gb_set (gb_refl _ _) 2 _) (fun k hk e => by have := HO11.out.ge k hk; simp at e; omega)
          case measure => simp [intOf]; omega
    · have hcase : ¬ j < gaps ∨ (j < gaps ∧ ¬ 12 + 4 * j < bc.length) := by
        by_cases h1 : j < gaps
        · exact .inr ⟨h1, fun h2 => hlt ((HNL.out j).2 ⟨h1, h2⟩)⟩
        · exact .inl h1
      obtain rfl : j = NG := by omega
      clear hlt
      rcases hcase with h1 | ⟨h1, h2⟩
      · have hng : ¬ (j : Int) < (gaps : Int) := by omega
        obtain ⟨w6, hw6⟩ : ∃ x, x = wr := ⟨_, rfl⟩
        subst hw6
        have HJ6 := hid HJ.out
        have HF6 := hid HF.out
        have HO6 := hid HO.out
        have HC6 := hid HCr.out
        have HT6 := hid HTr.out
        have G6 := hid Gr.out
        have hsz6 := hszr
        clear HJ HF HO HG h1
        go_wp2_with fail
        have HPB := hid (HO6.out.lt)
        go_loopw [66] (fun y wr => ∃ (i : Nat) (z : Value), i ≤ ND ∧ y = .int .u64 (i : Int) ∧ Hid (RdrAt (w.heap.size + 2) (.slice p bc.length c) (12 + 4 * j + 4 * i) wr) ∧ Hid (RowV wr h 45 [.int .u32 (x0 : Int), .int .u32 (x1 : Int), .slice pz j cz, z]) ∧ Hid (NumsO wr w6.heap.size 22 z (numsAt bc (12 + 4 * j) i)) ∧ Hid (OwnP wr (h + 1) 80 (.slice pz j cz) (pairsAt bc 12 j)) ∧ Hid (Chg (fun k => k = (w.heap.size + 2) ∨ h ≤ k) w6 wr)) (fun y _ => ND - (intOf y).toNat)
        case atStart => exact ⟨0, .slice none 0 0, Nat.zero_le _, rfl, HJ6, HF6, hid (OwnV.nil _ _ _), HO6, hid (Chg.refl _ _)⟩
        case round =>
          obtain ⟨i, z, hi, rfl, HJ, HF, HO, HP, HG⟩ := hrel
          obtain ⟨pd, cd, rfl, hcd⟩ := HO.out.form
          have HCq := hid (HC6.out.chg HG.out (by omega))
          have HTq := hid (HT6.out.chg HG.out (by omega))
          have hh6 : h < w6.heap.size := HF6.out.lt
          have Gq := hid (show Below w.heap.size w wr from G6.out.trans (HG.out.below (B := w.heap.size) (by omega) (fun k hk => by omega)))
          have hszq := HG.out.size
          have HLD := hid (numsAt_length bc (12 + 4 * j) i)
          rw [HLD.out] at HF HO
          by_cases hlt : i < ND
          · obtain ⟨hltg, hin⟩ := (HML.out i).1 hlt
            have hlg2 : (i : Int) < (dups : Int) := by omega
            have hpos : ¬ (bc.length : Int) - ((12 + 4 * j + 4 * i : Nat) : Int) ≤ 0 := by omega
            have hpos2 : (0 : Int) < (bc.length : Int) - ((12 + 4 * j + 4 * i : Nat) : Int) := by omega
            go_wp2_with fail
            refine (bleft_any _ _ bc (12 + 4 * j + 4 * i) _ HJ.out (HV.out.mono Gq.out) (by omega)).mono ?_
            rintro e w7 ⟨rfl, hb7⟩
            have HJ7 := hid (show RdrAt (w.heap.size + 2) (.slice p bc.length c) (12 + 4 * j + 4 * i) w7 from RowV.mono HJ.out hb7)
            have HF7 := hid (HF.out.mono hb7)
            have HO7 := hid (show NumsO w7 w6.heap.size 22 (.slice pd i cd) (numsAt bc (12 + 4 * j) i) from OwnV.mono HO.out hb7)
            have HP7 := hid (HP.out.mono hb7)
            have HG7 := hid (HG.out.trans (Chg.of_gr hb7))
            have G7 := hid (gr_trans Gq.out hb7)
            have hsz7 := hb7.size
            clear hb7 HJ HF HO HG
            have K3 := hid (HF7.out.at 3 (by simp))
            simp only [List.getElem_cons_succ, List.getElem_cons_zero] at K3
            have hna := numAt_lt bc (12 + 4 * j + 4 * i) 4
            have HSU := hid (show numsAt bc (12 + 4 * j) (i + 1) = numsAt bc (12 + 4 * j) i ++ [numAt bc (12 + 4 * j + 4 * i) 4] from numsAt_succ bc (12 + 4 * j) i)
            obtain ⟨xa, hxa⟩ : ∃ x, x = numAt bc (12 + 4 * j + 4 * i) 4 := ⟨_, rfl⟩
            rw [← hxa] at hna HSU
            have HXA := hid hxa
            have HWA := hid (show IntKind.u32.wrap (xa : Int) = (xa : Int) by rw [wrap_u32_lt]; omega)
            have HGG := hid (fun (wx : World) (h : GbR (w.heap.size + 2) w7 wx) => (show Below w.heap.size w wx from G7.out.trans (gb_below h (by omega) (by omega))))
            have hlf := HF7.out.lt
            clear hxa
            go_wp2_with fail
            refine wp_region_take 6 (w.heap.size + 2) [3] (fun k wx => RdrAt (w.heap.size + 2) (.slice p bc.length c) (12 + 4 * j + 4 * i + 4 * k) wx) [Is (.pointer (some ⟨h, 3, none⟩)), Is (.slice pd i cd), Is (.pointer (some ⟨w.heap.size + 2, 0, none⟩)), Is (.int .u64 (xa : Int)), Is (.int .u32 (xa : Int)), NewSF w7.heap.size 22 1 [.int .u32 (xa : Int)]] (by kernel_rfl) (by kernel_rfl) (by kernel_rfl) (by kernel_rfl) (by kernel_rfl) (by kernel_rfl) (by kernel_rfl) (HJ7.out) (fun _ _ _ h k => RowV.mono h k) ?_ ?_ ?_
            · exact ⟨Is.stab _ _, Is.stab _ _, Is.stab _ _, Is.stab _ _, Is.stab _ _, NewSF.gb _ (show w.heap.size + 2 < w7.heap.size by omega), trivial⟩
            · rename_i Kk hKk; clear hKk Kk
              simp only [List.take_succ_cons, List.take_zero, AllOpsC, wrAt, Nat.reduceAdd, Nat.reduceEqDiff, Option.map_some, Option.map_none, List.map_cons, List.map_nil, depsOf, List.filterMap_cons, List.filterMap_nil, Region.binds, depFacts, guardF, reduceIte, List.getD_eq_getElem?_getD, List.getElem?_cons_succ, List.getElem?_cons_zero, Option.getD_some, factAt, and_true]
              refine ⟨?_, ?_, ?_, ?_, ?_, ?_⟩
              all_goals intro ρ wv hρ hR hd
              all_goals try simp only [Is] at hd
              · exact opOk_val (v := .pointer (some ⟨h, 3, none⟩)) (w' := wv) (by simp [execOp, go_sem, hρ.1.const, hρ.1.func, hd, (hρ.2 5 rfl)]) ⟨rfl, GrR.refl _⟩
              · (have h0 := cell_gb hR K3.out (by show h ≠ _; omega); exact opOk_val (v := .slice pd i cd) (w' := wv) (by simp [execOp, go_sem, hd, h0]) ⟨rfl, GrR.refl _⟩)
              · exact opOk_move (.inl rfl) ⟨by simp only [Is]; (first | exact hρ.2 4 rfl | exact hd | exact hd.1 | exact hd.2 | simp [hd]), GrR.refl _⟩
              · (first | refine ⟨rfl, fun hJ => ?_⟩ | refine ⟨trivial, fun hJ => ?_⟩ | intro hJ); exact opOk_call hρ.1 rfl rfl Try.func50 (by kernel_rfl) rfl (by simp [hd, hρ.1.const, hρ.1.func]) ((btake_any _ _ bc (12 + 4 * j + 4 * i) 4 _ rfl (by omega) _ hJ (HV.out.mono (HGG.out _ hR)) (by omega)).mono fun e w' ⟨h1, h2, h3⟩ => ⟨_, h1, by rw [HXA.out]; rfl, h3, h2⟩)
              · exact opOk_val (v := .int .u32 (xa : Int)) (w' := wv) (by simp [execOp, go_sem, hρ.1.const, hρ.1.func, hd, HWA.out]) ⟨rfl, GrR.refl _⟩
              · exact opOk_val (v := .slice (some ⟨wv.heap.size, 0, none⟩) 1 1) (w' := wv.alloc (.cells #[.int .u32 (xa : Int)] 22 (0, 0))) (by simp [execOp, go_sem, hρ.1.const, hd]) ⟨⟨_, rfl, hR.size, RowV.new wv 22 [.int .u32 (xa : Int)]⟩, (Below.refl _ _).alloc (Nat.le_refl _) _⟩
            · intro vals wv hR hJ hall
              have i1 := hall 1 (by omega)
              have i5 := hall 5 (by omega)
              simp only [factAt, Is, NewSF, List.getD_eq_getElem?_getD, List.getElem?_cons_succ, List.getElem?_cons_zero, Option.getD_some] at i1 i5
              clear hall
              obtain ⟨hn, hhn, hgen, hrown⟩ := i5
              simp only [List.take_succ_cons, List.take_zero, List.drop_succ_cons, List.drop_zero, fillFrom, Act.put, i1, hhn, List.setIfInBounds_toArray, List.set_cons_zero, List.set_cons_succ, Nat.zero_add, Nat.reduceAdd]
              have HNR := hid (hrown.rdV (n := 1) rfl (by unfold maxLen; omega))
              have HJ8 := hid (show RdrAt (w.heap.size + 2) (.slice p bc.length c) (12 + 4 * j + 4 * (i + 1)) wv from hJ)
              have HF8 := hid (HF7.out.grown hR (fun e => by simp at e; omega))
              have HO8 := hid (show NumsO wv w6.heap.size 22 (.slice pd i cd) (numsAt bc (12 + 4 * j) i) from OwnV.grown HO7.out hR (fun k e => by simp at e; omega))
              have HP8 := hid (HP7.out.keep hR (fun k hk e => by have := HP7.out.ge k hk; simp at e; omega))
              have HG8 := hid (HG7.out.trans ((Chg.of_grown hR).weak (fun i _ e => .inl (by simpa using e.symm))))
              have hszv := hR.size
              obtain ⟨w8, hw8⟩ : ∃ x, x = wv := ⟨_, rfl⟩
              subst hw8
              clear hR hJ i1 hhn hrown
              go_wp2_with (at_builtin; refine wpList_append_OwnV rfl (.tmp 72) (.tmp 76) 43 rfl w6.heap.size 22 (.int .u32 0) 4 rfl Try.underlying43 infoU32g _ _ ((numsAt bc (12 + 4 * j) i).map fun x : Nat => Value.int .u32 (x : Int)) [.int .u32 (xa : Int)] (by intro u hu; simp at hu; subst hu; rfl) (by simp) rfl HO8.out rfl HNR.out (by simp [HLD.out]; omega) (by simp [HLD.out]; omega) (by omega) ?_)
              intro v9 w9 ho9 hg9
              have HO9 := hid (show NumsO w9 w6.heap.size 22 v9 (numsAt bc (12 + 4 * j) (i + 1)) by
                unfold NumsO
                rw [HSU.out, List.map_append]
                exact ho9)
              have HJ9 := hid (show RdrAt (w.heap.size + 2) (.slice p bc.length c) (12 + 4 * j + 4 * (i + 1)) w9 from RowV.grown HJ8.out hg9 (fun e => by have := OwnV.ge HO8.out _ e; omega))
              have HF9 := hid (HF8.out.grown hg9 (fun e => by have := OwnV.ge HO8.out _ e; omega))
              have HP9 := hid (HP8.out.keep hg9 (fun k hk e => by have h1 := OwnV.ge HO8.out _ e; have h2 := HPB.out k hk; omega))
              have HG9 := hid (HG8.out.trans ((Chg.of_grown hg9).weak (fun i _ e => .inr (by have := OwnV.ge HO8.out _ e; omega))))
              obtain ⟨p9, c9, rfl, hc9⟩ := HO9.out.form
              obtain ⟨n9, hn9⟩ : ∃ n, n = (numsAt bc (12 + 4 * j) (i + 1)).length := ⟨_, rfl⟩
              rw [← hn9] at HO9 ⊢
              clear ho9 hg9 hn9
              have s3 := HF9.out.at 3 (by simp)
              have u3 := HF9.out.frozen 3
              simp only [List.getElem_cons_succ, List.getElem_cons_zero] at s3
              go_wp2_with fail
              go_roundw
              case rel =>
                refine ⟨i + 1, .slice p9 n9 c9, by omega, by go_num, hid ?_, hid (HF9.out.store 3 _), hid ?_, hid ?_, hid (HG9.out.set _ _ (.inl (.inr (Nat.le_refl _))))⟩
                · exact RowV.other HJ9.out _ _ (by show h ≠ _; omega)
                · exact OwnV.grown HO9.out (r := some h) (gb_set (gb_refl _ _) 3 _) (fun k e => by simp at e; omega)
                · exact HP9.out.keep (r := some h) (gb_set (gb_refl _ _) 3 _) (fun k hk e => by have := HP9.out.ge k hk; simp at e; omega)
              case measure => simp [intOf]; omega
          · have hcase : ¬ i < dups ∨ (i < dups ∧ ¬ 12 + 4 * j + 4 * i < bc.length) := by
              by_cases h1 : i < dups
              · exact .inr ⟨h1, fun h2 => hlt ((HML.out i).2 ⟨h1, h2⟩)⟩
              · exact .inl h1
            obtain rfl : i = ND := by omega
            clear hlt
            rcases hcase with h1 | ⟨h1, h2⟩
            · have hng2 : ¬ (i : Int) < (dups : Int) := by omega
              have HF7 := hid HF.out
              have HO7 := hid HO.out
              have HP7 := hid HP.out
              have HC7 := hid HCq.out
              have HT7 := hid HTq.out
              have G7 := hid Gq.out
              clear HJ HF HO HP HG h1
              obtain ⟨k0, k1, k2⟩ := HC7.out.three
              obtain ⟨i0, i1, i2, i3, -⟩ := rowSack HF7.out
              go_wp2_with fail
              clear k0 k1 k2 i0 i1 i2 i3
              refine (bgetSack_any x0 x1 pz j cz pd i cd kc fc _ bc ok _ (HV.out.mono G7.out) (SackD.chk ⟨x0, x1, pairsAt bc 12 j, numsAt bc (12 + 4 * j) i⟩) (fun wx hbx => putSack_any _ ⟨x0, x1, pairsAt bc 12 j, numsAt bc (12 + 4 * j) i⟩ ⟨hn0, hn1, pairsAt_wf _ _ _, numsAt_wf _ _ _⟩ wx ⟨_, _, rfl, HP7.out.rd.mono hbx, (OwnV.rd HO7.out).mono hbx⟩ (by show (pairsAt bc 12 j).length ≤ _; rw [HLP.out]; omega) (by show (numsAt bc _ i).length ≤ _; rw [numsAt_length]; omega))).mono ?_
              rintro e w8 ⟨rfl, hb8⟩
              have HT8 := hid (HT7.out.mono hb8)
              have HO8 := hid (show NumsO w8 w6.heap.size 22 (.slice pd i cd) (numsAt bc (12 + 4 * j) i) from OwnV.mono HO7.out hb8)
              have HP8 := hid (HP7.out.mono hb8)
              have G8 := hid (gr_trans G7.out hb8)
              have hh6 : w.heap.size + 1 < w6.heap.size := by have := HT6.out.lt; omega
              clear hb8
              obtain ⟨jj0, jj1, jj2, jj3, -⟩ := rowSack HT8.out
              have y0 := HT8.out.frozen 0
              have y1 := HT8.out.frozen 1
              have y2 := HT8.out.frozen 2
              have y3 := HT8.out.frozen 3
              by_cases hq : ok = true ∧ SackD.chk ⟨x0, x1, pairsAt bc 12 j, numsAt bc (12 + 4 * j) i⟩ = ⟨kc, fc, bc⟩
              · have HRS := hid (show res = (⟨x0, x1, pairsAt bc 12 j, numsAt bc (12 + 4 * j) i⟩, 0) by
                  rw [HRES.out, sackGet, HDO.out, if_pos]
                  exact ⟨by show (apartS (pairsAt bc 12 j)).1 = true; rw [HAP.out]; exact hq.1, hq.2⟩)
                rw [if_pos hq]
                clear hq
                go_wp2_with fail
                refine getSack_ret (.int .u32 (x0 : Int)) (.int .u32 (x1 : Int)) (.slice pz j cz) (.slice pd i cd) 0 rfl rfl rfl ((((HT8.out.store 0 (.int .u32 (x0 : Int))).store 1 (.int .u32 (x1 : Int))).store 2 (.slice pz j cz)).store 3 (.slice pd i cd)) ⟨_, by rw [HRS.out], ?_, ((((G8.out.setCell (by simp; try omega) _).setCell (by simp; try omega) _).setCell (by simp; try omega) _).setCell (by simp; try omega) _)⟩
                rw [HRS.out]
                refine ⟨_, _, rfl, (HP8.out.keep (r := some (w.heap.size + 1)) (gb_set (gb_set (gb_set (gb_set (gb_refl _ _) 0 _) 1 _) 2 _) 3 _) (fun k hk e => by have := HP8.out.ge k hk; simp at e; omega)).rd, ?_⟩
                exact OwnV.rd (OwnV.grown HO8.out (r := some (w.heap.size + 1)) (gb_set (gb_set (gb_set (gb_set (gb_refl _ _) 0 _) 1 _) 2 _) 3 _) (fun k e => by simp at e; omega))
              · have HRS := hid (show res = (.zero, 7) by
                  rw [HRES.out, sackGet, HDO.out, if_neg]
                  intro hc
                  refine hq ⟨?_, hc.2⟩
                  have h1 : (apartS (pairsAt bc 12 j)).1 = true := hc.1
                  rwa [HAP.out] at h1)
                rw [if_neg hq]
                clear hq
                go_wp2_with fail
                refine getSack_ret (.int .u32 0) (.int .u32 0) (.slice none 0 0) (.slice none 0 0) 7 rfl rfl rfl ((((HT8.out.store 0 (.int .u32 0)).store 1 (.int .u32 0)).store 2 (.slice none 0 0)).store 3 (.slice none 0 0)) ⟨_, by rw [HRS.out], ?_, ((((G8.out.setCell (by simp; try omega) _).setCell (by simp; try omega) _).setCell (by simp; try omega) _).setCell (by simp; try omega) _)⟩
                rw [HRS.out]
                exact ⟨_, _, rfl, RdP.nil _, OwnV.rd (OwnV.nil _ 0 22)⟩
            · have hlg2 : (i : Int) < (dups : Int) := by omega
              have hnn2 : (bc.length : Int) - ((12 + 4 * j + 4 * i : Nat) : Int) ≤ 0 := by omega
              go_wp2_with fail
              refine (bleft_any _ _ bc (12 + 4 * j + 4 * i) _ HJ.out (HV.out.mono Gq.out) (by omega)).mono ?_
              rintro e w7 ⟨rfl, hb7⟩
              have HF7 := hid (HF.out.mono hb7)
              have HO7 := hid (show NumsO w7 w6.heap.size 22 (.slice pd i cd) (numsAt bc (12 + 4 * j) i) from OwnV.mono HO.out hb7)
              have HP7 := hid (HP.out.mono hb7)
              have HC7 := hid (HCq.out.mono hb7)
              have HT7 := hid (HTq.out.mono hb7)
              have G7 := hid (gr_trans Gq.out hb7)
              clear hb7 HJ HF HO HP HG h1 h2
              obtain ⟨k0, k1, k2⟩ := HC7.out.three
              obtain ⟨i0, i1, i2, i3, -⟩ := rowSack HF7.out
              go_wp2_with fail
              clear k0 k1 k2 i0 i1 i2 i3
              refine (bgetSack_any x0 x1 pz j cz pd i cd kc fc _ bc ok _ (HV.out.mono G7.out) (SackD.chk ⟨x0, x1, pairsAt bc 12 j, numsAt bc (12 + 4 * j) i⟩) (fun wx hbx => putSack_any _ ⟨x0, x1, pairsAt bc 12 j, numsAt bc (12 + 4 * j) i⟩ ⟨hn0, hn1, pairsAt_wf _ _ _, numsAt_wf _ _ _⟩ wx ⟨_, _, rfl, HP7.out.rd.mono hbx, (OwnV.rd HO7.out).mono hbx⟩ (by show (pairsAt bc 12 j).length ≤ _; rw [HLP.out]; omega) (by show (numsAt bc _ i).length ≤ _; rw [numsAt_length]; omega))).mono ?_
              rintro e w8 ⟨rfl, hb8⟩
              have HT8 := hid (HT7.out.mono hb8)
              have HO8 := hid (show NumsO w8 w6.heap.size 22 (.slice pd i cd) (numsAt bc (12 + 4 * j) i) from OwnV.mono HO7.out hb8)
              have HP8 := hid (HP7.out.mono hb8)
              have G8 := hid (gr_trans G7.out hb8)
              have hh6 : w.heap.size + 1 < w6.heap.size := by have := HT6.out.lt; omega
              clear hb8
              obtain ⟨jj0, jj1, jj2, jj3, -⟩ := rowSack HT8.out
              have y0 := HT8.out.frozen 0
              have y1 := HT8.out.frozen 1
              have y2 := HT8.out.frozen 2
              have y3 := HT8.out.frozen 3
              by_cases hq : ok = true ∧ SackD.chk ⟨x0, x1, pairsAt bc 12 j, numsAt bc (12 + 4 * j) i⟩ = ⟨kc, fc, bc⟩
              · have HRS := hid (show res = (⟨x0, x1, pairsAt bc 12 j, numsAt bc (12 + 4 * j) i⟩, 0) by
                  rw [HRES.out, sackGet, HDO.out, if_pos]
                  exact ⟨by show (apartS (pairsAt bc 12 j)).1 = true; rw [HAP.out]; exact hq.1, hq.2⟩)
                rw [if_pos hq]
                clear hq
                go_wp2_with fail
                refine getSack_ret (.int .u32 (x0 : Int)) (.int .u32 (x1 : Int)) (.slice pz j cz) (.slice pd i cd) 0 rfl rfl rfl ((((HT8.out.store 0 (.int .u32 (x0 : Int))).store 1 (.int .u32 (x1 : Int))).store 2 (.slice pz j cz)).store 3 (.slice pd i cd)) ⟨_, by rw [HRS.out], ?_, ((((G8.out.setCell (by simp; try omega) _).setCell (by simp; try omega) _).setCell (by simp; try omega) _).setCell (by simp; try omega) _)⟩
                rw [HRS.out]
                refine ⟨_, _, rfl, (HP8.out.keep (r := some (w.heap.size + 1)) (gb_set (gb_set (gb_set (gb_set (gb_refl _ _) 0 _) 1 _) 2 _) 3 _) (fun k hk e => by have := HP8.out.ge k hk; simp at e; omega)).rd, ?_⟩
                exact OwnV.rd (OwnV.grown HO8.out (r := some (w.heap.size + 1)) (gb_set (gb_set (gb_set (gb_set (gb_refl _ _) 0 _) 1 _) 2 _) 3 _) (fun k e => by simp at e; omega))
              · have HRS := hid (show res = (.zero, 7) by
                  rw [HRES.out, sackGet, HDO.out, if_neg]
                  intro hc
                  refine hq ⟨?_, hc.2⟩
                  have h1 : (apartS (pairsAt bc 12 j)).1 = true := hc.1
                  rwa [HAP.out] at h1)
                rw [if_neg hq]
                clear hq
                go_wp2_with fail
                refine getSack_ret (.int .u32 0) (.int .u32 0) (.slice none 0 0) (.slice none 0 0) 7 rfl rfl rfl ((((HT8.out.store 0 (.int .u32 0)).store 1 (.int .u32 0)).store 2 (.slice none 0 0)).store 3 (.slice none 0 0)) ⟨_, by rw [HRS.out], ?_, ((((G8.out.setCell (by simp; try omega) _).setCell (by simp; try omega) _).setCell (by simp; try omega) _).setCell (by simp; try omega) _)⟩
                rw [HRS.out]
                exact ⟨_, _, rfl, RdP.nil _, OwnV.rd (OwnV.nil _ 0 22)⟩
      · have hlg : (j : Int) < (gaps : Int) := by omega
        have hnn : (bc.length : Int) - ((12 + 4 * j : Nat) : Int) ≤ 0 := by omega
        go_wp2_with fail
        refine (bleft_any _ _ bc (12 + 4 * j) _ HJ.out (HV.out.mono Gr.out) (by omega)).mono ?_
        rintro e w6 ⟨rfl, hb6⟩
        have HJ6 := hid (show RdrAt (w.heap.size + 2) (.slice p bc.length c) (12 + 4 * j) w6 from RowV.mono HJ.out hb6)
        have HF6 := hid (HF.out.mono hb6)
        have HO6 := hid (HO.out.mono hb6)
        have HC6 := hid (HCr.out.mono hb6)
        have HT6 := hid (HTr.out.mono hb6)
        have G6 := hid (gr_trans Gr.out hb6)
        have hsz6 := Nat.le_trans hszr hb6.size
        clear hb6 HJ HF HO HG h1 h2
        go_wp2_with fail
        have HPB := hid (HO6.out.lt)
        go_loopw [66] (fun y wr => ∃ (i : Nat) (z : Value), i ≤ ND ∧ y = .int .u64 (i : Int) ∧ Hid (RdrAt (w.heap.size + 2) (.slice p bc.length c) (12 + 4 * j + 4 * i) wr) ∧ Hid (RowV wr h 45 [.int .u32 (x0 : Int), .int .u32 (x1 : Int), .slice pz j cz, z]) ∧ Hid (NumsO wr w6.heap.size 22 z (numsAt bc (12 + 4 * j) i)) ∧ Hid (OwnP wr (h + 1) 80 (.slice pz j cz) (pairsAt bc 12 j)) ∧ Hid (Chg (fun k => k = (w.heap.size + 2) ∨ h ≤ k) w6 wr)) (fun y _ => ND - (intOf y).toNat)
        case atStart => exact ⟨0, .slice none 0 0, Nat.zero_le _, rfl, HJ6, HF6, hid (OwnV.nil _ _ _), HO6, hid (Chg.refl _ _)⟩
        case round =>
          obtain ⟨i, z, hi, rfl, HJ, HF, HO, HP, HG⟩ := hrel
          obtain ⟨pd, cd, rfl, hcd⟩ := HO.out.form
          have HCq := hid (HC6.out.chg HG.out (by omega))
          have HTq := hid (HT6.out.chg HG.out (by omega))
          have hh6 : h < w6.heap.size := HF6.out.lt
          have Gq := hid (show Below w.heap.size w wr from G6.out.trans (HG.out.below (B := w.heap.size) (by omega) (fun k hk => by omega)))
          have hszq := HG.out.size
          have HLD := hid (numsAt_length bc (12 + 4 * j) i)
          rw [HLD.out] at HF HO
          by_cases hlt : i < ND
          · obtain ⟨hltg, hin⟩ := (HML.out i).1 hlt
            exfalso
            omega
          · have hcase : ¬ i < dups ∨ (i < dups ∧ ¬ 12 + 4 * j + 4 * i < bc.length) := by
              by_cases h1 : i < dups
              · exact .inr ⟨h1, fun h2 => hlt ((HML.out i).2 ⟨h1, h2⟩)⟩
              · exact .inl h1
            obtain rfl : i = ND := by omega
            clear hlt
            rcases hcase with h1 | ⟨h1, h2⟩
            · have hng2 : ¬ (i : Int) < (dups : Int) := by omega
              have HF7 := hid HF.out
              have HO7 := hid HO.out
              have HP7 := hid HP.out
              have HC7 := hid HCq.out
              have HT7 := hid HTq.out
              have G7 := hid Gq.out
              clear HJ HF HO HP HG h1
              obtain ⟨k0, k1, k2⟩ := HC7.out.three
              obtain ⟨i0, i1, i2, i3, -⟩ := rowSack HF7.out
              go_wp2_with fail
              clear k0 k1 k2 i0 i1 i2 i3
              refine (bgetSack_any x0 x1 pz j cz pd i cd kc fc _ bc ok _ (HV.out.mono G7.out) (SackD.chk ⟨x0, x1, pairsAt bc 12 j, numsAt bc (12 + 4 * j) i⟩) (fun wx hbx => putSack_any _ ⟨x0, x1, pairsAt bc 12 j, numsAt bc (12 + 4 * j) i⟩ ⟨hn0, hn1, pairsAt_wf _ _ _, numsAt_wf _ _ _⟩ wx ⟨_, _, rfl, HP7.out.rd.mono hbx, (OwnV.rd HO7.out).mono hbx⟩ (by show (pairsAt bc 12 j).length ≤ _; rw [HLP.out]; omega) (by show (numsAt bc _ i).length ≤ _; rw [numsAt_length]; omega))).mono ?_
              rintro e w8 ⟨rfl, hb8⟩
              have HT8 := hid (HT7.out.mono hb8)
              have HO8 := hid (show NumsO w8 w6.heap.size 22 (.slice pd i cd) (numsAt bc (12 + 4 * j) i) from OwnV.mono HO7.out hb8)
              have HP8 := hid (HP7.out.mono hb8)
              have G8 := hid (gr_trans G7.out hb8)
              have hh6 : w.heap.size + 1 < w6.heap.size := by have := HT6.out.lt; omega
              clear hb8
              obtain ⟨jj0, jj1, jj2, jj3, -⟩ := rowSack HT8.out
              have y0 := HT8.out.frozen 0
              have y1 := HT8.out.frozen 1
              have y2 := HT8.out.frozen 2
              have y3 := HT8.out.frozen 3
              by_cases hq : ok = true ∧ SackD.chk ⟨x0, x1, pairsAt bc 12 j, numsAt bc (12 + 4 * j) i⟩ = ⟨kc, fc, bc⟩
              · have HRS := hid (show res = (⟨x0, x1, pairsAt bc 12 j, numsAt bc (12 + 4 * j) i⟩, 0) by
                  rw [HRES.out, sackGet, HDO.out, if_pos]
                  exact ⟨by show (apartS (pairsAt bc 12 j)).1 = true; rw [HAP.out]; exact hq.1, hq.2⟩)
                rw [if_pos hq]
                clear hq
                go_wp2_with fail
                refine getSack_ret (.int .u32 (x0 : Int)) (.int .u32 (x1 : Int)) (.slice pz j cz) (.slice pd i cd) 0 rfl rfl rfl ((((HT8.out.store 0 (.int .u32 (x0 : Int))).store 1 (.int .u32 (x1 : Int))).store 2 (.slice pz j cz)).store 3 (.slice pd i cd)) ⟨_, by rw [HRS.out], ?_, ((((G8.out.setCell (by simp; try omega) _).setCell (by simp; try omega) _).setCell (by simp; try omega) _).setCell (by simp; try omega) _)⟩
                rw [HRS.out]
                refine ⟨_, _, rfl, (HP8.out.keep (r := some (w.heap.size + 1)) (gb_set (gb_set (gb_set (gb_set (gb_refl _ _) 0 _) 1 _) 2 _) 3 _) (fun k hk e => by have := HP8.out.ge k hk; simp at e; omega)).rd, ?_⟩
                exact OwnV.rd (OwnV.grown HO8.out (r := some (w.heap.size + 1)) (gb_set (gb_set (gb_set (gb_set (gb_refl _ _) 0 _) 1 _) 2 _) 3 _) (fun k e => by simp at e; omega))
              · have HRS := hid (show res = (.zero, 7) by
                  rw [HRES.out, sackGet, HDO.out, if_neg]
                  intro hc
                  refine hq ⟨?_, hc.2⟩
                  have h1 : (apartS (pairsAt bc 12 j)).1 = true := hc.1
                  rwa [HAP.out] at h1)
                rw [if_neg hq]
                clear hq
                go_wp2_with fail
                refine getSack_ret (.int .u32 0) (.int .u32 0) (.slice none 0 0) (.slice none 0 0) 7 rfl rfl rfl ((((HT8.out.store 0 (.int .u32 0)).store 1 (.int .u32 0)).store 2 (.slice none 0 0)).store 3 (.slice none 0 0)) ⟨_, by rw [HRS.out], ?_, ((((G8.out.setCell (by simp; try omega) _).setCell (by simp; try omega) _).setCell (by simp; try omega) _).setCell (by simp; try omega) _)⟩
                rw [HRS.out]
                exact ⟨_, _, rfl, RdP.nil _, OwnV.rd (OwnV.nil _ 0 22)⟩
            · have hlg2 : (i : Int) < (dups : Int) := by omega
              have hnn2 : (bc.length : Int) - ((12 + 4 * j + 4 * i : Nat) : Int) ≤ 0 := by omega
              go_wp2_with fail
              refine (bleft_any _ _ bc (12 + 4 * j + 4 * i) _ HJ.out (HV.out.mono Gq.out) (by omega)).mono ?_
              rintro e w7 ⟨rfl, hb7⟩
              have HF7 := hid (HF.out.mono hb7)
              have HO7 := hid (show NumsO w7 w6.heap.size 22 (.slice pd i cd) (numsAt bc (12 + 4 * j) i) from OwnV.mono HO.out hb7)
              have HP7 := hid (HP.out.mono hb7)
              have HC7 := hid (HCq.out.mono hb7)
              have HT7 := hid (HTq.out.mono hb7)
              have G7 := hid (gr_trans Gq.out hb7)
              clear hb7 HJ HF HO HP HG h1 h2
              obtain ⟨k0, k1, k2⟩ := HC7.out.three
              obtain ⟨i0, i1, i2, i3, -⟩ := rowSack HF7.out
              go_wp2_with fail
              clear k0 k1 k2 i0 i1 i2 i3
              refine (bgetSack_any x0 x1 pz j cz pd i cd kc fc _ bc ok _ (HV.out.mono G7.out) (SackD.chk ⟨x0, x1, pairsAt bc 12 j, numsAt bc (12 + 4 * j) i⟩) (fun wx hbx => putSack_any _ ⟨x0, x1, pairsAt bc 12 j, numsAt bc (12 + 4 * j) i⟩ ⟨hn0, hn1, pairsAt_wf _ _ _, numsAt_wf _ _ _⟩ wx ⟨_, _, rfl, HP7.out.rd.mono hbx, (OwnV.rd HO7.out).mono hbx⟩ (by show (pairsAt bc 12 j).length ≤ _; rw [HLP.out]; omega) (by show (numsAt bc _ i).length ≤ _; rw [numsAt_length]; omega))).mono ?_
              rintro e w8 ⟨rfl, hb8⟩
              have HT8 := hid (HT7.out.mono hb8)
              have HO8 := hid (show NumsO w8 w6.heap.size 22 (.slice pd i cd) (numsAt bc (12 + 4 * j) i) from OwnV.mono HO7.out hb8)
              have HP8 := hid (HP7.out.mono hb8)
              have G8 := hid (gr_trans G7.out hb8)
              have hh6 : w.heap.size + 1 < w6.heap.size := by have := HT6.out.lt; omega
              clear hb8
              obtain ⟨jj0, jj1, jj2, jj3, -⟩ := rowSack HT8.out
              have y0 := HT8.out.frozen 0
              have y1 := HT8.out.frozen 1
              have y2 := HT8.out.frozen 2
              have y3 := HT8.out.frozen 3
              by_cases hq : ok = true ∧ SackD.chk ⟨x0, x1, pairsAt bc 12 j, numsAt bc (12 + 4 * j) i⟩ = ⟨kc, fc, bc⟩
              · have HRS := hid (show res = (⟨x0, x1, pairsAt bc 12 j, numsAt bc (12 + 4 * j) i⟩, 0) by
                  rw [HRES.out, sackGet, HDO.out, if_pos]
                  exact ⟨by show (apartS (pairsAt bc 12 j)).1 = true; rw [HAP.out]; exact hq.1, hq.2⟩)
                rw [if_pos hq]
                clear hq
                go_wp2_with fail
                refine getSack_ret (.int .u32 (x0 : Int)) (.int .u32 (x1 : Int)) (.slice pz j cz) (.slice pd i cd) 0 rfl rfl rfl ((((HT8.out.store 0 (.int .u32 (x0 : Int))).store 1 (.int .u32 (x1 : Int))).store 2 (.slice pz j cz)).store 3 (.slice pd i cd)) ⟨_, by rw [HRS.out], ?_, ((((G8.out.setCell (by simp; try omega) _).setCell (by simp; try omega) _).setCell (by simp; try omega) _).setCell (by simp; try omega) _)⟩
                rw [HRS.out]
                refine ⟨_, _, rfl, (HP8.out.keep (r := some (w.heap.size + 1)) (gb_set (gb_set (gb_set (gb_set (gb_refl _ _) 0 _) 1 _) 2 _) 3 _) (fun k hk e => by have := HP8.out.ge k hk; simp at e; omega)).rd, ?_⟩
                exact OwnV.rd (OwnV.grown HO8.out (r := some (w.heap.size + 1)) (gb_set (gb_set (gb_set (gb_set (gb_refl _ _) 0 _) 1 _) 2 _) 3 _) (fun k e => by simp at e; omega))
              · have HRS := hid (show res = (.zero, 7) by
                  rw [HRES.out, sackGet, HDO.out, if_neg]
                  intro hc
                  refine hq ⟨?_, hc.2⟩
                  have h1 : (apartS (pairsAt bc 12 j)).1 = true := hc.1
                  rwa [HAP.out] at h1)
                rw [if_neg hq]
                clear hq
                go_wp2_with fail
                refine getSack_ret (.int .u32 0) (.int .u32 0) (.slice none 0 0) (.slice none 0 0) 7 rfl rfl rfl ((((HT8.out.store 0 (.int .u32 0)).store 1 (.int .u32 0)).store 2 (.slice none 0 0)).store 3 (.slice none 0 0)) ⟨_, by rw [HRS.out], ?_, ((((G8.out.setCell (by simp; try omega) _).setCell (by simp; try omega) _).setCell (by simp; try omega) _).setCell (by simp; try omega) _)⟩
                rw [HRS.out]
                exact ⟨_, _, rfl, RdP.nil _, OwnV.rd (OwnV.nil _ 0 22)⟩
end Go.Proofs.Ytfiblhdejglpaaa

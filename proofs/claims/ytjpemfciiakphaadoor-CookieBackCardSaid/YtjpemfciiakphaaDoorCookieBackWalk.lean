/- CookieBack: the walk of the law. Conditions: the tables of sha hold what its text says. -/
import Derived.Test.YtjpemfciiakphaaDoorCookWorks
import Derived.Test.YtjpemfciiakphaaDoorCookOpen
import Derived.Test.YtjpemfciiakphaaDoorCookMath2
import Derived.Test.YtjpemfciiakphaaDoorRegGr
import Derived.Test.YtjpemfciiakphaaDoorMem2
namespace Go.FL
open Go.RowKit
/-- What a cookie that may be, or may not be, is read as. -/
def ckBack (may : Bool) (c : CookD) : Int × CookD := if may = true then (0, c) else (7, .zero)
theorem may_parts (c : CookD) : c.may ∨ ¬ 0 ≤ c.born ∨ (0 ≤ c.born ∧ c.ot = 0) ∨ (0 ≤ c.born ∧ c.ot ≠ 0 ∧ c.pt = 0) ∨ (0 ≤ c.born ∧ c.ot ≠ 0 ∧ c.pt ≠ 0 ∧ c.out = 0) ∨ (0 ≤ c.born ∧ c.ot ≠ 0 ∧ c.pt ≠ 0 ∧ c.out ≠ 0 ∧ c.in_ = 0) := by
  unfold CookD.may
  omega
theorem nz_u32 (n : Nat) (h : n ≠ 0) : ((n : Int) != 0) = true := by simp; omega
theorem Own.lt' {w : World} {base e : Nat} {v : Value} {l : List UInt8} (h : Own w base e v l) : ∀ k, v.ownBlock = some k → k < w.heap.size := by
  intro k hk
  rcases h with ⟨rfl, rfl⟩ | ⟨g, sp, h1, rfl, hg, hm⟩
  · simp [Value.ownBlock] at hk
  · simp [Value.ownBlock] at hk
    have := hg.lt
    omega
end Go.FL
namespace Go.Proofs.YtjpemfciiakphaaDoor
open Go.RowKit Go.FL Go.ChangeShapes

set_option maxRecDepth 100000 in
set_option maxHeartbeats 4000000 in
theorem cookieBack_walk {w : World} (hlaid : ShaLaid w) {v : Value} (key : List UInt8) (hv : Rd w v key) {u : Value} (c : CookD) (hu : CookAt u c) (at_ : Int) (hat : (Lit.int .u8 at_).wf = true) (by_ : Int) (hby : (Lit.int .u8 by_).wf = true) {x : Value} (more : List UInt8) (hx : Rd w x more) :
    Calls Tryd.prog 5 #[v, u, .int .u8 at_, .int .u8 by_, x] w fun e w' => e = .returned (.bool true) ∧ Below w.heap.size w w' := by
  have HL := hid hlaid
  have HV := hid hv
  have HX := hid hx
  obtain ⟨rfl, hwf⟩ := hu
  have HWF := hid hwf
  have hab := bounds_u8 hat
  obtain ⟨at_, rfl⟩ : ∃ n : Nat, at_ = (n : Int) := ⟨at_.toNat, by omega⟩
  obtain ⟨y, rfl⟩ := u8_of _ hby
  obtain ⟨p, cp, rfl, _, hcm, _, hcell⟩ := hv
  obtain ⟨q, cq, rfl, _, hcq, _, hcelq⟩ := hx
  unfold maxLen at hcm hcq
  clear hcell hcelq hlaid hwf hat hby
  obtain ⟨W, hW⟩ : ∃ W, W = w.alloc (.cells c.cells.toArray 26 (0, 0)) := ⟨_, rfl⟩
  have HR := hid (show RowV W w.heap.size 26 c.cells by rw [hW]; exact RowV.new w 26 _)
  have HW := hid (show Below w.heap.size w W by rw [hW]; exact (Below.refl _ _).alloc (Nat.le_refl _) _)
  obtain ⟨bs, hbs⟩ : ∃ bs, bs = cookBytes key c := ⟨_, rfl⟩
  have HBS := hid hbs
  have HBL := hid (show bs.length = 64 by rw [hbs, cookBytes_length])
  have HCW := hid (fun (v : Value) (wx : World) (h : Rd wx v key) (hl : ShaLaid wx) => HBS.out ▸ cookWrite_any v key c HWF.out wx h hl)
  have HTU := hid (show ∀ k (hk : k < bs.length), 32 ≤ k → y ≠ 0 → cookTells key (bs.set k (bs[k] ^^^ y)) = (10, .zero) from fun k hk h1 h2 => by
    subst hbs
    exact cookTells_turned key c k y h1 hk h2)
  have HBK := hid (show cookTells key bs = if c.may then (0, c) else (7, .zero) by rw [hbs]; exact cookTells_back key c HWF.out)
  have hparts := may_parts c
  have HE := hid hW
  clear hW hbs
  by_cases hbig : 4096 < key.length ∨ 4096 < more.length
  · have hcase : 4096 < key.length ∨ (key.length ≤ 4096 ∧ 4096 < more.length) := by omega
    clear hbig hparts
    obtain ⟨born, ot, pt, otsn, ptsn, rwn, out, in_⟩ := c
    simp only [CookD.val, CookD.cells] at *
    rcases hcase with h1 | ⟨h1, h2⟩
    all_goals
      go_enter Tryd.func5, Tryd.ntmps5
      go_wp2_with fail
      rw [← HE.out]
      refine (works_any _ (HL.out.mono HW.out)).mono ?_
      rintro e w' ⟨rfl, hb⟩
      go_wp2_with fail
      go_ret
      exact ⟨rfl, gr_trans HW.out hb⟩
  · have hk4 : key.length ≤ 4096 := by omega
    have hm4 : more.length ≤ 4096 := by omega
    clear hbig
    -- what it is read as, and the facts that decide whether it may be
    have hmain : ∀ (my : Bool) (er : Int) (d : CookD), cookTells key bs = (er, d) → (my = true → er = 0 ∧ d = c) → (my = false → er = 7 ∧ d = .zero) →
        (if my = true then 0 ≤ c.born ∧ c.ot ≠ 0 ∧ c.pt ≠ 0 ∧ c.out ≠ 0 ∧ c.in_ ≠ 0 else ¬ 0 ≤ c.born ∨ (0 ≤ c.born ∧ c.ot = 0) ∨ (0 ≤ c.born ∧ c.ot ≠ 0 ∧ c.pt = 0) ∨ (0 ≤ c.born ∧ c.ot ≠ 0 ∧ c.pt ≠ 0 ∧ c.out = 0) ∨ (0 ≤ c.born ∧ c.ot ≠ 0 ∧ c.pt ≠ 0 ∧ c.out ≠ 0 ∧ c.in_ = 0)) →
        Calls Tryd.prog 5 #[.slice p key.length cp, c.val, .int .u8 (at_ : Int), .int .u8 (y.toNat : Int), .slice q more.length cq] w fun e w' => e = .returned (.bool true) ∧ Below w.heap.size w w' := by
      intro my er d hT hyes hno hcond
      have HT := hid hT
      clear hT HBK hparts
      obtain ⟨born, ot, pt, otsn, ptsn, rwn, out, in_⟩ := c
      simp only [CookD.val, CookD.cells] at *
      go_enter Tryd.func5, Tryd.ntmps5
      go_wp2_with fail
      rw [← HE.out]
      refine wp_region_gr [Is (.slice p key.length cp), OwnF w.heap.size 5 key, Is (.agg ([.int .i64 born, .int .u32 (ot : Int), .int .u32 (pt : Int), .int .u32 (otsn : Int), .int .u32 (ptsn : Int), .int .u32 (rwn : Int), .int .u16 (out : Int), .int .u16 (in_ : Int)]).toArray), OwnF w.heap.size 5 bs, OwnF w.heap.size 5 bs] (by kernel_rfl) (by kernel_rfl) (by kernel_rfl) ?_ ?_ ?_
      · simp only [StabAll, Is.gr, RdF.gr, OwnF.gr, AnyF.gr, and_self]
      · rename_i Kk hKk; clear hKk Kk
        simp only [AllOps, List.map_cons, List.map_nil, depsOf, List.filterMap_cons, List.filterMap_nil, Region.binds, depFacts, guardF, reduceIte, List.getD_eq_getElem?_getD, List.getElem?_cons_succ, List.getElem?_cons_zero, Option.getD_some, factAt, and_true]
        refine ⟨?_, ?_, ?_, ?_, ?_⟩
        all_goals intro ρ wv hρ hR hd
        all_goals try simp only [Is] at hd
        · exact opOk_move (.inl rfl) ⟨by simp only [Is]; (first | exact hρ.2 0 rfl | exact hd | exact hd.1 | exact hd.2 | simp [hd]), GrR.refl _⟩
        · exact opOk_call hρ.1 rfl rfl Tryd.func10 (by kernel_rfl) rfl (by simp [hd, hρ.1.const]) ((twin_any _ key _ (HV.out.mono (gr_trans HW.out hR)) (by omega)).mono fun e w' ⟨v', h1, h2, h3⟩ => ⟨v', h1, h2.base (gr_trans HW.out hR).size, h3⟩)
        · exact opOk_loadRow rfl (w.heap.size) (by first | exact hρ.2 _ rfl | simp [hd]) _ ([.int .i64 born, .int .u32 (ot : Int), .int .u32 (pt : Int), .int .u32 (otsn : Int), .int .u32 (ptsn : Int), .int .u32 (rwn : Int), .int .u16 (out : Int), .int .u16 (in_ : Int)]) _ (HR.out.mono hR) Tryd.underlying26 rfl (by kernel_rfl) ⟨rfl, GrR.refl _⟩
        · exact opOk_call hρ.1 rfl rfl Tryd.func12 (by kernel_rfl) rfl (by simp [hd, hρ.1.const]) ((HCW.out _ _ hd.1.rd (HL.out.mono (gr_trans HW.out hR)) (by omega)).mono fun e w' ⟨v', h1, h2, h3⟩ => ⟨v', h1, h2.base (gr_trans HW.out hR).size, h3⟩)
        · exact opOk_move (.inr rfl) ⟨(by first | exact hd | exact hd.1), GrR.refl _⟩
      · intro vals wv hR hall
        have h4 := hall 4 (by simp)
        simp only [factAt, OwnF, List.getD_eq_getElem?_getD, List.getElem?_cons_succ, List.getElem?_cons_zero, Option.getD_some] at h4
        clear hall
        obtain ⟨p1, c1, hv1, -, -, -, -⟩ := h4.rd
        simp only [fillFrom, Act.put, hv1, List.setIfInBounds_toArray, List.set_cons_zero, List.set_cons_succ]
        rw [hv1] at h4
        have HO1 := hid h4
        rename_i Kk hKk
        refine hKk _ _ ?_
        clear hKk Kk hv1 h4
        have HR1 := hid (HR.out.mono hR)
        have G1 := hid (gr_trans HW.out hR)
        clear hR
        have hl64 := HBL.out
        rw [hl64] at HO1 ⊢
        clear hl64
        go_wp2_with fail
        refine (cookRead_any _ _ key bs _ (HV.out.mono G1.out) HO1.out.rd (HL.out.mono G1.out) (by omega) (by rw [HBL.out]; omega)).mono ?_
        rintro e w2 ⟨rfl, hb2⟩
        rw [HT.out]
        have HO2 := hid (HO1.out.mono hb2)
        have HR2 := hid (HR1.out.mono hb2)
        have G2 := hid (gr_trans G1.out hb2)
        clear hb2
        cases hmy : my
        · obtain ⟨rfl, rfl⟩ := hno hmy
          subst hmy
          rw [if_neg (by simp)] at hcond
          clear hyes hno
          rcases hcond with q0 | ⟨q0, q1⟩ | ⟨q0, q1, q2⟩ | ⟨q0, q1, q2, q3⟩ | ⟨q0, q1, q2, q3, q4⟩
          · rw [show CookD.val CookD.zero = .agg #[.int .i64 0, .int .u32 0, .int .u32 0, .int .u32 0, .int .u32 0, .int .u32 0, .int .u16 0, .int .u16 0] from rfl]
            obtain ⟨W3, hW3⟩ : ∃ W3, W3 = w2.alloc (.cells #[.int .i64 0, .int .u32 0, .int .u32 0, .int .u32 0, .int .u32 0, .int .u32 0, .int .u16 0, .int .u16 0] 26 (0, 0)) := ⟨_, rfl⟩
            have g3 : Below w2.heap.size w2 W3 := by rw [hW3]; exact (Below.refl _ _).alloc (Nat.le_refl _) _
            have HO3 := hid (HO2.out.mono g3)
            have G3 := hid (gr_trans G2.out g3)
            have HE3 := hid hW3
            obtain ⟨k0, k1, k2, k3, k4, k5, k6, k7⟩ := (HR2.out.mono g3).eight
            rw [hW3] at k0 k1 k2 k3 k4 k5 k6 k7
            clear hW3 g3
            go_wp2_with fail
            rw [← HE3.out]
            clear k0 k1 k2 k3 k4 k5 k6 k7
            refine (twin_any _ bs _ HO3.out.rd (by rw [HBL.out]; omega)).mono ?_
            rintro e w4 ⟨v4, rfl, ho4, hb4⟩
            have HO4 := hid (HO3.out.mono hb4)
            have G4 := hid (gr_trans G3.out hb4)
            rcases ho4 with ⟨-, h0⟩ | ⟨g, sp, hge, rfl, hrow, hmx⟩
            · exfalso
              have := HBL.out
              rw [h0] at this
              simp at this
            have hgw : w.heap.size ≤ g := Nat.le_trans G3.out.size hge
            have HROW := hid hrow
            have hgt := hrow.lt
            obtain ⟨r, hr⟩ : ∃ r, r = at_ % 32 := ⟨_, rfl⟩
            have hr32 : r < 32 := by omega
            have hrem : ((at_ : Int)).tmod 32 = (r : Int) := by rw [Int.tmod_eq_emod_of_nonneg (by omega)]; omega
            clear hr
            have hkl : 32 + r < bs.length := by rw [HBL.out]; omega
            obtain ⟨b0, hb0⟩ : ∃ b0, b0 = bs[32 + r] := ⟨_, rfl⟩
            have cx := hrow.cell (32 + r) (by simp; omega)
            rw [List.getElem_append_left hkl, ← hb0] at cx
            have fx := hrow.frozen (32 + r)
            have hxr := bits_xor8 b0 y
            obtain ⟨bx, hbx⟩ : ∃ bx, bx = b0 ^^^ y := ⟨_, rfl⟩
            rw [← hbx] at hxr
            have HBX := hid hbx
            clear hbx
            have hL := HBL.out
            rw [hL] at hmx ⊢
            unfold maxLen at hmx
            have i0 : (0 : Int) ≤ 32 + (r : Int) := by omega
            have i1 : 32 + (r : Int) < 64 := by omega
            have i2 : (32 + (r : Int)).toNat = 32 + r := by omega
            have HB0 := hid (show bs[32 + r]? = some b0 by rw [hb0]; exact List.getElem?_eq_getElem hkl)
            have HKL := hid hkl
            clear hb0 hL hb4 hrow hkl
            go_wp2_with fail
            have HROW5 := hid (HROW.out.store (32 + r) bx)
            have hset : (bs ++ sp).set (32 + r) bx = bs.set (32 + r) bx ++ sp := by rw [List.set_append_left _ _ HKL.out]
            rw [hset] at HROW5
            obtain ⟨e1, d1, hT1⟩ : ∃ e1 d1, cookTells key (bs.set (32 + r) bx) = (e1, d1) := ⟨_, _, rfl⟩
            have HT1 := hid hT1
            have hy1 : y ≠ 0 → e1 = 10 := fun h => by
              have := HTU.out (32 + r) HKL.out (by omega) h
              have hq := HB0.out
              rw [List.getElem?_eq_getElem HKL.out] at hq
              rw [Option.some.inj hq, ← HBX.out, hT1] at this
              exact (Prod.mk.inj this).1
            obtain ⟨w5, hw5⟩ : ∃ w5, w5 = w4.setCell ⟨g, 32 + r, none⟩ (.int .u8 (bx.toNat : Int)) := ⟨_, rfl⟩
            rw [← hw5] at HROW5
            have HR5 := hid (show Rd w5 (.slice (some ⟨g, 0, none⟩) 64 (64 + sp.length)) (bs.set (32 + r) bx) by
              have := HROW5.out.rd 64 (64 + sp.length) (by simp [HBL.out]) (by omega) (by unfold maxLen; omega)
              rwa [List.take_left' (by simp [HBL.out])] at this)
            have hg5 : w4.grownBy w5 (some g) := by rw [hw5]; exact gb_set (gb_refl _ _) _ _
            have HO5 := hid (HO4.out.keep hg5 (fun k hk e => by have := HO3.out.lt' k hk; simp at e; omega))
            have G5 := hid (show Below w.heap.size w w5 from G4.out.trans (gb_below hg5 hgw G4.out.size))
            have HE5 := hid hw5
            clear hw5 hT1 hset hg5 cx fx hxr i0 i1 i2
            rw [← HE5.out]
            refine (cookRead_any _ _ key _ _ (HV.out.mono G5.out) HR5.out (HL.out.mono G5.out) (by omega) (by simp [HBL.out])).mono ?_
            rintro e w6 ⟨rfl, hb6⟩
            rw [HT1.out]
            obtain ⟨bn1, ot1, pt1, otsn1, ptsn1, rwn1, out1, in1⟩ := d1
            simp only [CookD.val]
            have HO6 := hid (HO5.out.mono hb6)
            have G6 := hid (gr_trans G5.out hb6)
            obtain ⟨W7, hW7⟩ : ∃ W7, W7 = w6.alloc (.cells #[.int .i64 bn1, .int .u32 (ot1 : Int), .int .u32 (pt1 : Int), .int .u32 (otsn1 : Int), .int .u32 (ptsn1 : Int), .int .u32 (rwn1 : Int), .int .u16 (out1 : Int), .int .u16 (in1 : Int)] 26 (0, 0)) := ⟨_, rfl⟩
            have g7 : Below w6.heap.size w6 W7 := by rw [hW7]; exact (Below.refl _ _).alloc (Nat.le_refl _) _
            have HO7 := hid (HO6.out.mono g7)
            have G7 := hid (gr_trans G6.out g7)
            have HE7 := hid hW7
            clear hb6 hW7 g7
            go_wp2_with fail
            rw [← HE7.out]
            refine (twin_any _ bs _ HO7.out.rd (by rw [HBL.out]; omega)).mono ?_
            rintro e w8 ⟨v8, rfl, ho8, hb8⟩
            have HT8 := hid ho8
            have hsz8 := hb8.size
            have HO8 := hid (HO7.out.mono hb8)
            have G8 := hid (gr_trans G7.out hb8)
            clear ho8 hb8
            go_wp2_with (at_builtin; refine wpList_append_Own rfl (.tmp 115) (.tmp 116) 22 rfl W7.heap.size 5 Tryd.underlying22 infoU8o _ _ bs more rfl HT8.out rfl (HX.out.mono G8.out) (by rw [HBL.out]; omega) hsz8 ?_)
            intro v9 w9 ho9 hg9
            obtain ⟨e2, d2, hT2⟩ : ∃ e2 d2, cookTells key (bs ++ more) = (e2, d2) := ⟨_, _, rfl⟩
            have HT2 := hid hT2
            have hm1 : 0 < more.length → e2 = 7 := fun h => by
              have := cookTells_len key (bs ++ more) (by rw [List.length_append, HBL.out]; omega)
              rw [hT2] at this
              exact (Prod.mk.inj this).1
            have HO9 := hid (HO8.out.keep hg9 (fun k hk e => by have h1 := HT8.out.ge k e; have h2 := HO7.out.lt' k hk; omega))
            have G9 := hid (show Below w.heap.size w w9 from G8.out.grown hg9 G8.out.size (fun k hk => Nat.le_trans G7.out.size (HT8.out.ge k hk)))
            have HR9 := hid ho9.rd
            clear hT2 ho9 hg9 hsz8
            go_wp2_with fail
            refine (cookRead_any _ _ key (bs ++ more) _ (HV.out.mono G9.out) HR9.out (HL.out.mono G9.out) (by omega) (by rw [List.length_append, HBL.out]; omega)).mono ?_
            rintro e w10 ⟨rfl, hb10⟩
            rw [HT2.out]
            obtain ⟨bn2, ot2, pt2, otsn2, ptsn2, rwn2, out2, in2⟩ := d2
            simp only [CookD.val]
            have HO10 := hid (HO9.out.mono hb10)
            have G10 := hid (gr_trans G9.out hb10)
            obtain ⟨W11, hW11⟩ : ∃ W11, W11 = w10.alloc (.cells #[.int .i64 bn2, .int .u32 (ot2 : Int), .int .u32 (pt2 : Int), .int .u32 (otsn2 : Int), .int .u32 (ptsn2 : Int), .int .u32 (rwn2 : Int), .int .u16 (out2 : Int), .int .u16 (in2 : Int)] 26 (0, 0)) := ⟨_, rfl⟩
            have g11 : Below w10.heap.size w10 W11 := by rw [hW11]; exact (Below.refl _ _).alloc (Nat.le_refl _) _
            have HO11 := hid (HO10.out.mono g11)
            have G11 := hid (gr_trans G10.out g11)
            have HE11 := hid hW11
            obtain ⟨r2, hr2⟩ : ∃ r2, r2 = at_ % 64 := ⟨_, rfl⟩
            have hr64 : r2 < 64 := by omega
            have hrem2 : ((at_ : Int)).tmod 64 = (r2 : Int) := by rw [Int.tmod_eq_emod_of_nonneg (by omega)]; omega
            have hc64 := HO11.out.rd
            obtain ⟨pq, cq2, hsl, hc1, -, -, -⟩ := hc64
            simp only [Value.slice.injEq] at hsl
            obtain ⟨rfl, -, rfl⟩ := hsl
            have HLT := hid (show (bs.take r2).length = r2 by rw [List.length_take, HBL.out]; omega)
            have HTL := hid (show cookTells key (bs.take r2) = (7, .zero) from cookTells_len _ _ (by rw [HLT.out]; omega))
            have hr2c : r2 ≤ c1 := by rw [HBL.out] at hc1; omega
            clear hb10 hW11 g11 hr2 hc1
            go_wp2_with fail
            rw [← HE11.out]
            refine (cookRead_any _ _ key (bs.take r2) _ (HV.out.mono G11.out) (HO11.out.rd.take r2 (by rw [HBL.out]; omega)) (HL.out.mono G11.out) (by omega) (by rw [HLT.out]; omega)).mono ?_
            rintro e w12 ⟨rfl, hb12⟩
            rw [HTL.out]
            simp only [CookD.zero, CookD.val]
            have G12 := hid (gr_trans G11.out hb12)
            obtain ⟨W13, hW13⟩ : ∃ W13, W13 = w12.alloc (.cells #[.int .i64 0, .int .u32 0, .int .u32 0, .int .u32 0, .int .u32 0, .int .u32 0, .int .u16 0, .int .u16 0] 26 (0, 0)) := ⟨_, rfl⟩
            have g13 : Below w12.heap.size w12 W13 := by rw [hW13]; exact (Below.refl _ _).alloc (Nat.le_refl _) _
            have G13 := hid (gr_trans G12.out g13)
            have HE13 := hid hW13
            clear hb12 hW13 g13
            by_cases hy0 : y = 0
            · have hyb : ((y.toNat : Int) != 0) = false := by subst hy0; rfl
              clear hy1
              by_cases hm0 : 0 < more.length
              · have hm7 := hm1 hm0
                subst hm7
                clear hm1
                go_wp2_with fail
                rw [← HE13.out]
                refine (works_any _ (HL.out.mono G13.out)).mono ?_
                rintro e w' ⟨rfl, hb⟩
                go_wp2_with fail
                go_ret
                exact ⟨rfl, gr_trans G13.out hb⟩
              · have hmz : ¬ (0 : Int) < (more.length : Int) := by omega
                clear hm1
                go_wp2_with fail
                rw [← HE13.out]
                refine (works_any _ (HL.out.mono G13.out)).mono ?_
                rintro e w' ⟨rfl, hb⟩
                go_wp2_with fail
                go_ret
                exact ⟨rfl, gr_trans G13.out hb⟩
            · have hyb : ((y.toNat : Int) != 0) = true := by
                have : y.toNat ≠ 0 := fun h => hy0 (by rw [← UInt8.toNat_inj]; simpa using h)
                simp
                omega
              have hy10 := hy1 hy0
              subst hy10
              clear hy1
              by_cases hm0 : 0 < more.length
              · have hm7 := hm1 hm0
                subst hm7
                clear hm1
                go_wp2_with fail
                rw [← HE13.out]
                refine (works_any _ (HL.out.mono G13.out)).mono ?_
                rintro e w' ⟨rfl, hb⟩
                go_wp2_with fail
                go_ret
                exact ⟨rfl, gr_trans G13.out hb⟩
              · have hmz : ¬ (0 : Int) < (more.length : Int) := by omega
                clear hm1
                go_wp2_with fail
                rw [← HE13.out]
                refine (works_any _ (HL.out.mono G13.out)).mono ?_
                rintro e w' ⟨rfl, hb⟩
                go_wp2_with fail
                go_ret
                exact ⟨rfl, gr_trans G13.out hb⟩
          · have n1 : ((ot : Int) != 0) = false := by rw [q1]; rfl
            rw [show CookD.val CookD.zero = .agg #[.int .i64 0, .int .u32 0, .int .u32 0, .int .u32 0, .int .u32 0, .int .u32 0, .int .u16 0, .int .u16 0] from rfl]
            obtain ⟨W3, hW3⟩ : ∃ W3, W3 = w2.alloc (.cells #[.int .i64 0, .int .u32 0, .int .u32 0, .int .u32 0, .int .u32 0, .int .u32 0, .int .u16 0, .int .u16 0] 26 (0, 0)) := ⟨_, rfl⟩
            have g3 : Below w2.heap.size w2 W3 := by rw [hW3]; exact (Below.refl _ _).alloc (Nat.le_refl _) _
            have HO3 := hid (HO2.out.mono g3)
            have G3 := hid (gr_trans G2.out g3)
            have HE3 := hid hW3
            obtain ⟨k0, k1, k2, k3, k4, k5, k6, k7⟩ := (HR2.out.mono g3).eight
            rw [hW3] at k0 k1 k2 k3 k4 k5 k6 k7
            clear hW3 g3
            go_wp2_with fail
            rw [← HE3.out]
            clear k0 k1 k2 k3 k4 k5 k6 k7
            refine (twin_any _ bs _ HO3.out.rd (by rw [HBL.out]; omega)).mono ?_
            rintro e w4 ⟨v4, rfl, ho4, hb4⟩
            have HO4 := hid (HO3.out.mono hb4)
            have G4 := hid (gr_trans G3.out hb4)
            rcases ho4 with ⟨-, h0⟩ | ⟨g, sp, hge, rfl, hrow, hmx⟩
            · exfalso
              have := HBL.out
              rw [h0] at this
              simp at this
            have hgw : w.heap.size ≤ g := Nat.le_trans G3.out.size hge
            have HROW := hid hrow
            have hgt := hrow.lt
            obtain ⟨r, hr⟩ : ∃ r, r = at_ % 32 := ⟨_, rfl⟩
            have hr32 : r < 32 := by omega
            have hrem : ((at_ : Int)).tmod 32 = (r : Int) := by rw [Int.tmod_eq_emod_of_nonneg (by omega)]; omega
            clear hr
            have hkl : 32 + r < bs.length := by rw [HBL.out]; omega
            obtain ⟨b0, hb0⟩ : ∃ b0, b0 = bs[32 + r] := ⟨_, rfl⟩
            have cx := hrow.cell (32 + r) (by simp; omega)
            rw [List.getElem_append_left hkl, ← hb0] at cx
            have fx := hrow.frozen (32 + r)
            have hxr := bits_xor8 b0 y
            obtain ⟨bx, hbx⟩ : ∃ bx, bx = b0 ^^^ y := ⟨_, rfl⟩
            rw [← hbx] at hxr
            have HBX := hid hbx
            clear hbx
            have hL := HBL.out
            rw [hL] at hmx ⊢
            unfold maxLen at hmx
            have i0 : (0 : Int) ≤ 32 + (r : Int) := by omega
            have i1 : 32 + (r : Int) < 64 := by omega
            have i2 : (32 + (r : Int)).toNat = 32 + r := by omega
            have HB0 := hid (show bs[32 + r]? = some b0 by rw [hb0]; exact List.getElem?_eq_getElem hkl)
            have HKL := hid hkl
            clear hb0 hL hb4 hrow hkl
            go_wp2_with fail
            have HROW5 := hid (HROW.out.store (32 + r) bx)
            have hset : (bs ++ sp).set (32 + r) bx = bs.set (32 + r) bx ++ sp := by rw [List.set_append_left _ _ HKL.out]
            rw [hset] at HROW5
            obtain ⟨e1, d1, hT1⟩ : ∃ e1 d1, cookTells key (bs.set (32 + r) bx) = (e1, d1) := ⟨_, _, rfl⟩
            have HT1 := hid hT1
            have hy1 : y ≠ 0 → e1 = 10 := fun h => by
              have := HTU.out (32 + r) HKL.out (by omega) h
              have hq := HB0.out
              rw [List.getElem?_eq_getElem HKL.out] at hq
              rw [Option.some.inj hq, ← HBX.out, hT1] at this
              exact (Prod.mk.inj this).1
            obtain ⟨w5, hw5⟩ : ∃ w5, w5 = w4.setCell ⟨g, 32 + r, none⟩ (.int .u8 (bx.toNat : Int)) := ⟨_, rfl⟩
            rw [← hw5] at HROW5
            have HR5 := hid (show Rd w5 (.slice (some ⟨g, 0, none⟩) 64 (64 + sp.length)) (bs.set (32 + r) bx) by
              have := HROW5.out.rd 64 (64 + sp.length) (by simp [HBL.out]) (by omega) (by unfold maxLen; omega)
              rwa [List.take_left' (by simp [HBL.out])] at this)
            have hg5 : w4.grownBy w5 (some g) := by rw [hw5]; exact gb_set (gb_refl _ _) _ _
            have HO5 := hid (HO4.out.keep hg5 (fun k hk e => by have := HO3.out.lt' k hk; simp at e; omega))
            have G5 := hid (show Below w.heap.size w w5 from G4.out.trans (gb_below hg5 hgw G4.out.size))
            have HE5 := hid hw5
            clear hw5 hT1 hset hg5 cx fx hxr i0 i1 i2
            rw [← HE5.out]
            refine (cookRead_any _ _ key _ _ (HV.out.mono G5.out) HR5.out (HL.out.mono G5.out) (by omega) (by simp [HBL.out])).mono ?_
            rintro e w6 ⟨rfl, hb6⟩
            rw [HT1.out]
            obtain ⟨bn1, ot1, pt1, otsn1, ptsn1, rwn1, out1, in1⟩ := d1
            simp only [CookD.val]
            have HO6 := hid (HO5.out.mono hb6)
            have G6 := hid (gr_trans G5.out hb6)
            obtain ⟨W7, hW7⟩ : ∃ W7, W7 = w6.alloc (.cells #[.int .i64 bn1, .int .u32 (ot1 : Int), .int .u32 (pt1 : Int), .int .u32 (otsn1 : Int), .int .u32 (ptsn1 : Int), .int .u32 (rwn1 : Int), .int .u16 (out1 : Int), .int .u16 (in1 : Int)] 26 (0, 0)) := ⟨_, rfl⟩
            have g7 : Below w6.heap.size w6 W7 := by rw [hW7]; exact (Below.refl _ _).alloc (Nat.le_refl _) _
            have HO7 := hid (HO6.out.mono g7)
            have G7 := hid (gr_trans G6.out g7)
            have HE7 := hid hW7
            clear hb6 hW7 g7
            go_wp2_with fail
            rw [← HE7.out]
            refine (twin_any _ bs _ HO7.out.rd (by rw [HBL.out]; omega)).mono ?_
            rintro e w8 ⟨v8, rfl, ho8, hb8⟩
            have HT8 := hid ho8
            have hsz8 := hb8.size
            have HO8 := hid (HO7.out.mono hb8)
            have G8 := hid (gr_trans G7.out hb8)
            clear ho8 hb8
            go_wp2_with (at_builtin; refine wpList_append_Own rfl (.tmp 115) (.tmp 116) 22 rfl W7.heap.size 5 Tryd.underlying22 infoU8o _ _ bs more rfl HT8.out rfl (HX.out.mono G8.out) (by rw [HBL.out]; omega) hsz8 ?_)
            intro v9 w9 ho9 hg9
            obtain ⟨e2, d2, hT2⟩ : ∃ e2 d2, cookTells key (bs ++ more) = (e2, d2) := ⟨_, _, rfl⟩
            have HT2 := hid hT2
            have hm1 : 0 < more.length → e2 = 7 := fun h => by
              have := cookTells_len key (bs ++ more) (by rw [List.length_append, HBL.out]; omega)
              rw [hT2] at this
              exact (Prod.mk.inj this).1
            have HO9 := hid (HO8.out.keep hg9 (fun k hk e => by have h1 := HT8.out.ge k e; have h2 := HO7.out.lt' k hk; omega))
            have G9 := hid (show Below w.heap.size w w9 from G8.out.grown hg9 G8.out.size (fun k hk => Nat.le_trans G7.out.size (HT8.out.ge k hk)))
            have HR9 := hid ho9.rd
            clear hT2 ho9 hg9 hsz8
            go_wp2_with fail
            refine (cookRead_any _ _ key (bs ++ more) _ (HV.out.mono G9.out) HR9.out (HL.out.mono G9.out) (by omega) (by rw [List.length_append, HBL.out]; omega)).mono ?_
            rintro e w10 ⟨rfl, hb10⟩
            rw [HT2.out]
            obtain ⟨bn2, ot2, pt2, otsn2, ptsn2, rwn2, out2, in2⟩ := d2
            simp only [CookD.val]
            have HO10 := hid (HO9.out.mono hb10)
            have G10 := hid (gr_trans G9.out hb10)
            obtain ⟨W11, hW11⟩ : ∃ W11, W11 = w10.alloc (.cells #[.int .i64 bn2, .int .u32 (ot2 : Int), .int .u32 (pt2 : Int), .int .u32 (otsn2 : Int), .int .u32 (ptsn2 : Int), .int .u32 (rwn2 : Int), .int .u16 (out2 : Int), .int .u16 (in2 : Int)] 26 (0, 0)) := ⟨_, rfl⟩
            have g11 : Below w10.heap.size w10 W11 := by rw [hW11]; exact (Below.refl _ _).alloc (Nat.le_refl _) _
            have HO11 := hid (HO10.out.mono g11)
            have G11 := hid (gr_trans G10.out g11)
            have HE11 := hid hW11
            obtain ⟨r2, hr2⟩ : ∃ r2, r2 = at_ % 64 := ⟨_, rfl⟩
            have hr64 : r2 < 64 := by omega
            have hrem2 : ((at_ : Int)).tmod 64 = (r2 : Int) := by rw [Int.tmod_eq_emod_of_nonneg (by omega)]; omega
            have hc64 := HO11.out.rd
            obtain ⟨pq, cq2, hsl, hc1, -, -, -⟩ := hc64
            simp only [Value.slice.injEq] at hsl
            obtain ⟨rfl, -, rfl⟩ := hsl
            have HLT := hid (show (bs.take r2).length = r2 by rw [List.length_take, HBL.out]; omega)
            have HTL := hid (show cookTells key (bs.take r2) = (7, .zero) from cookTells_len _ _ (by rw [HLT.out]; omega))
            have hr2c : r2 ≤ c1 := by rw [HBL.out] at hc1; omega
            clear hb10 hW11 g11 hr2 hc1
            go_wp2_with fail
            rw [← HE11.out]
            refine (cookRead_any _ _ key (bs.take r2) _ (HV.out.mono G11.out) (HO11.out.rd.take r2 (by rw [HBL.out]; omega)) (HL.out.mono G11.out) (by omega) (by rw [HLT.out]; omega)).mono ?_
            rintro e w12 ⟨rfl, hb12⟩
            rw [HTL.out]
            simp only [CookD.zero, CookD.val]
            have G12 := hid (gr_trans G11.out hb12)
            obtain ⟨W13, hW13⟩ : ∃ W13, W13 = w12.alloc (.cells #[.int .i64 0, .int .u32 0, .int .u32 0, .int .u32 0, .int .u32 0, .int .u32 0, .int .u16 0, .int .u16 0] 26 (0, 0)) := ⟨_, rfl⟩
            have g13 : Below w12.heap.size w12 W13 := by rw [hW13]; exact (Below.refl _ _).alloc (Nat.le_refl _) _
            have G13 := hid (gr_trans G12.out g13)
            have HE13 := hid hW13
            clear hb12 hW13 g13
            by_cases hy0 : y = 0
            · have hyb : ((y.toNat : Int) != 0) = false := by subst hy0; rfl
              clear hy1
              by_cases hm0 : 0 < more.length
              · have hm7 := hm1 hm0
                subst hm7
                clear hm1
                go_wp2_with fail
                rw [← HE13.out]
                refine (works_any _ (HL.out.mono G13.out)).mono ?_
                rintro e w' ⟨rfl, hb⟩
                go_wp2_with fail
                go_ret
                exact ⟨rfl, gr_trans G13.out hb⟩
              · have hmz : ¬ (0 : Int) < (more.length : Int) := by omega
                clear hm1
                go_wp2_with fail
                rw [← HE13.out]
                refine (works_any _ (HL.out.mono G13.out)).mono ?_
                rintro e w' ⟨rfl, hb⟩
                go_wp2_with fail
                go_ret
                exact ⟨rfl, gr_trans G13.out hb⟩
            · have hyb : ((y.toNat : Int) != 0) = true := by
                have : y.toNat ≠ 0 := fun h => hy0 (by rw [← UInt8.toNat_inj]; simpa using h)
                simp
                omega
              have hy10 := hy1 hy0
              subst hy10
              clear hy1
              by_cases hm0 : 0 < more.length
              · have hm7 := hm1 hm0
                subst hm7
                clear hm1
                go_wp2_with fail
                rw [← HE13.out]
                refine (works_any _ (HL.out.mono G13.out)).mono ?_
                rintro e w' ⟨rfl, hb⟩
                go_wp2_with fail
                go_ret
                exact ⟨rfl, gr_trans G13.out hb⟩
              · have hmz : ¬ (0 : Int) < (more.length : Int) := by omega
                clear hm1
                go_wp2_with fail
                rw [← HE13.out]
                refine (works_any _ (HL.out.mono G13.out)).mono ?_
                rintro e w' ⟨rfl, hb⟩
                go_wp2_with fail
                go_ret
                exact ⟨rfl, gr_trans G13.out hb⟩
          · have n1 := nz_u32 _ q1
            have n2 : ((pt : Int) != 0) = false := by rw [q2]; rfl
            rw [show CookD.val CookD.zero = .agg #[.int .i64 0, .int .u32 0, .int .u32 0, .int .u32 0, .int .u32 0, .int .u32 0, .int .u16 0, .int .u16 0] from rfl]
            obtain ⟨W3, hW3⟩ : ∃ W3, W3 = w2.alloc (.cells #[.int .i64 0, .int .u32 0, .int .u32 0, .int .u32 0, .int .u32 0, .int .u32 0, .int .u16 0, .int .u16 0] 26 (0, 0)) := ⟨_, rfl⟩
            have g3 : Below w2.heap.size w2 W3 := by rw [hW3]; exact (Below.refl _ _).alloc (Nat.le_refl _) _
            have HO3 := hid (HO2.out.mono g3)
            have G3 := hid (gr_trans G2.out g3)
            have HE3 := hid hW3
            obtain ⟨k0, k1, k2, k3, k4, k5, k6, k7⟩ := (HR2.out.mono g3).eight
            rw [hW3] at k0 k1 k2 k3 k4 k5 k6 k7
            clear hW3 g3
            go_wp2_with fail
            rw [← HE3.out]
            clear k0 k1 k2 k3 k4 k5 k6 k7
            refine (twin_any _ bs _ HO3.out.rd (by rw [HBL.out]; omega)).mono ?_
            rintro e w4 ⟨v4, rfl, ho4, hb4⟩
            have HO4 := hid (HO3.out.mono hb4)
            have G4 := hid (gr_trans G3.out hb4)
            rcases ho4 with ⟨-, h0⟩ | ⟨g, sp, hge, rfl, hrow, hmx⟩
            · exfalso
              have := HBL.out
              rw [h0] at this
              simp at this
            have hgw : w.heap.size ≤ g := Nat.le_trans G3.out.size hge
            have HROW := hid hrow
            have hgt := hrow.lt
            obtain ⟨r, hr⟩ : ∃ r, r = at_ % 32 := ⟨_, rfl⟩
            have hr32 : r < 32 := by omega
            have hrem : ((at_ : Int)).tmod 32 = (r : Int) := by rw [Int.tmod_eq_emod_of_nonneg (by omega)]; omega
            clear hr
            have hkl : 32 + r < bs.length := by rw [HBL.out]; omega
            obtain ⟨b0, hb0⟩ : ∃ b0, b0 = bs[32 + r] := ⟨_, rfl⟩
            have cx := hrow.cell (32 + r) (by simp; omega)
            rw [List.getElem_append_left hkl, ← hb0] at cx
            have fx := hrow.frozen (32 + r)
            have hxr := bits_xor8 b0 y
            obtain ⟨bx, hbx⟩ : ∃ bx, bx = b0 ^^^ y := ⟨_, rfl⟩
            rw [← hbx] at hxr
            have HBX := hid hbx
            clear hbx
            have hL := HBL.out
            rw [hL] at hmx ⊢
            unfold maxLen at hmx
            have i0 : (0 : Int) ≤ 32 + (r : Int) := by omega
            have i1 : 32 + (r : Int) < 64 := by omega
            have i2 : (32 + (r : Int)).toNat = 32 + r := by omega
            have HB0 := hid (show bs[32 + r]? = some b0 by rw [hb0]; exact List.getElem?_eq_getElem hkl)
            have HKL := hid hkl
            clear hb0 hL hb4 hrow hkl
            go_wp2_with fail
            have HROW5 := hid (HROW.out.store (32 + r) bx)
            have hset : (bs ++ sp).set (32 + r) bx = bs.set (32 + r) bx ++ sp := by rw [List.set_append_left _ _ HKL.out]
            rw [hset] at HROW5
            obtain ⟨e1, d1, hT1⟩ : ∃ e1 d1, cookTells key (bs.set (32 + r) bx) = (e1, d1) := ⟨_, _, rfl⟩
            have HT1 := hid hT1
            have hy1 : y ≠ 0 → e1 = 10 := fun h => by
              have := HTU.out (32 + r) HKL.out (by omega) h
              have hq := HB0.out
              rw [List.getElem?_eq_getElem HKL.out] at hq
              rw [Option.some.inj hq, ← HBX.out, hT1] at this
              exact (Prod.mk.inj this).1
            obtain ⟨w5, hw5⟩ : ∃ w5, w5 = w4.setCell ⟨g, 32 + r, none⟩ (.int .u8 (bx.toNat : Int)) := ⟨_, rfl⟩
            rw [← hw5] at HROW5
            have HR5 := hid (show Rd w5 (.slice (some ⟨g, 0, none⟩) 64 (64 + sp.length)) (bs.set (32 + r) bx) by
              have := HROW5.out.rd 64 (64 + sp.length) (by simp [HBL.out]) (by omega) (by unfold maxLen; omega)
              rwa [List.take_left' (by simp [HBL.out])] at this)
            have hg5 : w4.grownBy w5 (some g) := by rw [hw5]; exact gb_set (gb_refl _ _) _ _
            have HO5 := hid (HO4.out.keep hg5 (fun k hk e => by have := HO3.out.lt' k hk; simp at e; omega))
            have G5 := hid (show Below w.heap.size w w5 from G4.out.trans (gb_below hg5 hgw G4.out.size))
            have HE5 := hid hw5
            clear hw5 hT1 hset hg5 cx fx hxr i0 i1 i2
            rw [← HE5.out]
            refine (cookRead_any _ _ key _ _ (HV.out.mono G5.out) HR5.out (HL.out.mono G5.out) (by omega) (by simp [HBL.out])).mono ?_
            rintro e w6 ⟨rfl, hb6⟩
            rw [HT1.out]
            obtain ⟨bn1, ot1, pt1, otsn1, ptsn1, rwn1, out1, in1⟩ := d1
            simp only [CookD.val]
            have HO6 := hid (HO5.out.mono hb6)
            have G6 := hid (gr_trans G5.out hb6)
            obtain ⟨W7, hW7⟩ : ∃ W7, W7 = w6.alloc (.cells #[.int .i64 bn1, .int .u32 (ot1 : Int), .int .u32 (pt1 : Int), .int .u32 (otsn1 : Int), .int .u32 (ptsn1 : Int), .int .u32 (rwn1 : Int), .int .u16 (out1 : Int), .int .u16 (in1 : Int)] 26 (0, 0)) := ⟨_, rfl⟩
            have g7 : Below w6.heap.size w6 W7 := by rw [hW7]; exact (Below.refl _ _).alloc (Nat.le_refl _) _
            have HO7 := hid (HO6.out.mono g7)
            have G7 := hid (gr_trans G6.out g7)
            have HE7 := hid hW7
            clear hb6 hW7 g7
            go_wp2_with fail
            rw [← HE7.out]
            refine (twin_any _ bs _ HO7.out.rd (by rw [HBL.out]; omega)).mono ?_
            rintro e w8 ⟨v8, rfl, ho8, hb8⟩
            have HT8 := hid ho8
            have hsz8 := hb8.size
            have HO8 := hid (HO7.out.mono hb8)
            have G8 := hid (gr_trans G7.out hb8)
            clear ho8 hb8
            go_wp2_with (at_builtin; refine wpList_append_Own rfl (.tmp 115) (.tmp 116) 22 rfl W7.heap.size 5 Tryd.underlying22 infoU8o _ _ bs more rfl HT8.out rfl (HX.out.mono G8.out) (by rw [HBL.out]; omega) hsz8 ?_)
            intro v9 w9 ho9 hg9
            obtain ⟨e2, d2, hT2⟩ : ∃ e2 d2, cookTells key (bs ++ more) = (e2, d2) := ⟨_, _, rfl⟩
            have HT2 := hid hT2
            have hm1 : 0 < more.length → e2 = 7 := fun h => by
              have := cookTells_len key (bs ++ more) (by rw [List.length_append, HBL.out]; omega)
              rw [hT2] at this
              exact (Prod.mk.inj this).1
            have HO9 := hid (HO8.out.keep hg9 (fun k hk e => by have h1 := HT8.out.ge k e; have h2 := HO7.out.lt' k hk; omega))
            have G9 := hid (show Below w.heap.size w w9 from G8.out.grown hg9 G8.out.size (fun k hk => Nat.le_trans G7.out.size (HT8.out.ge k hk)))
            have HR9 := hid ho9.rd
            clear hT2 ho9 hg9 hsz8
            go_wp2_with fail
            refine (cookRead_any _ _ key (bs ++ more) _ (HV.out.mono G9.out) HR9.out (HL.out.mono G9.out) (by omega) (by rw [List.length_append, HBL.out]; omega)).mono ?_
            rintro e w10 ⟨rfl, hb10⟩
            rw [HT2.out]
            obtain ⟨bn2, ot2, pt2, otsn2, ptsn2, rwn2, out2, in2⟩ := d2
            simp only [CookD.val]
            have HO10 := hid (HO9.out.mono hb10)
            have G10 := hid (gr_trans G9.out hb10)
            obtain ⟨W11, hW11⟩ : ∃ W11, W11 = w10.alloc (.cells #[.int .i64 bn2, .int .u32 (ot2 : Int), .int .u32 (pt2 : Int), .int .u32 (otsn2 : Int), .int .u32 (ptsn2 : Int), .int .u32 (rwn2 : Int), .int .u16 (out2 : Int), .int .u16 (in2 : Int)] 26 (0, 0)) := ⟨_, rfl⟩
            have g11 : Below w10.heap.size w10 W11 := by rw [hW11]; exact (Below.refl _ _).alloc (Nat.le_refl _) _
            have HO11 := hid (HO10.out.mono g11)
            have G11 := hid (gr_trans G10.out g11)
            have HE11 := hid hW11
            obtain ⟨r2, hr2⟩ : ∃ r2, r2 = at_ % 64 := ⟨_, rfl⟩
            have hr64 : r2 < 64 := by omega
            have hrem2 : ((at_ : Int)).tmod 64 = (r2 : Int) := by rw [Int.tmod_eq_emod_of_nonneg (by omega)]; omega
            have hc64 := HO11.out.rd
            obtain ⟨pq, cq2, hsl, hc1, -, -, -⟩ := hc64
            simp only [Value.slice.injEq] at hsl
            obtain ⟨rfl, -, rfl⟩ := hsl
            have HLT := hid (show (bs.take r2).length = r2 by rw [List.length_take, HBL.out]; omega)
            have HTL := hid (show cookTells key (bs.take r2) = (7, .zero) from cookTells_len _ _ (by rw [HLT.out]; omega))
            have hr2c : r2 ≤ c1 := by rw [HBL.out] at hc1; omega
            clear hb10 hW11 g11 hr2 hc1
            go_wp2_with fail
            rw [← HE11.out]
            refine (cookRead_any _ _ key (bs.take r2) _ (HV.out.mono G11.out) (HO11.out.rd.take r2 (by rw [HBL.out]; omega)) (HL.out.mono G11.out) (by omega) (by rw [HLT.out]; omega)).mono ?_
            rintro e w12 ⟨rfl, hb12⟩
            rw [HTL.out]
            simp only [CookD.zero, CookD.val]
            have G12 := hid (gr_trans G11.out hb12)
            obtain ⟨W13, hW13⟩ : ∃ W13, W13 = w12.alloc (.cells #[.int .i64 0, .int .u32 0, .int .u32 0, .int .u32 0, .int .u32 0, .int .u32 0, .int .u16 0, .int .u16 0] 26 (0, 0)) := ⟨_, rfl⟩
            have g13 : Below w12.heap.size w12 W13 := by rw [hW13]; exact (Below.refl _ _).alloc (Nat.le_refl _) _
            have G13 := hid (gr_trans G12.out g13)
            have HE13 := hid hW13
            clear hb12 hW13 g13
            by_cases hy0 : y = 0
            · have hyb : ((y.toNat : Int) != 0) = false := by subst hy0; rfl
              clear hy1
              by_cases hm0 : 0 < more.length
              · have hm7 := hm1 hm0
                subst hm7
                clear hm1
                go_wp2_with fail
                rw [← HE13.out]
                refine (works_any _ (HL.out.mono G13.out)).mono ?_
                rintro e w' ⟨rfl, hb⟩
                go_wp2_with fail
                go_ret
                exact ⟨rfl, gr_trans G13.out hb⟩
              · have hmz : ¬ (0 : Int) < (more.length : Int) := by omega
                clear hm1
                go_wp2_with fail
                rw [← HE13.out]
                refine (works_any _ (HL.out.mono G13.out)).mono ?_
                rintro e w' ⟨rfl, hb⟩
                go_wp2_with fail
                go_ret
                exact ⟨rfl, gr_trans G13.out hb⟩
            · have hyb : ((y.toNat : Int) != 0) = true := by
                have : y.toNat ≠ 0 := fun h => hy0 (by rw [← UInt8.toNat_inj]; simpa using h)
                simp
                omega
              have hy10 := hy1 hy0
              subst hy10
              clear hy1
              by_cases hm0 : 0 < more.length
              · have hm7 := hm1 hm0
                subst hm7
                clear hm1
                go_wp2_with fail
                rw [← HE13.out]
                refine (works_any _ (HL.out.mono G13.out)).mono ?_
                rintro e w' ⟨rfl, hb⟩
                go_wp2_with fail
                go_ret
                exact ⟨rfl, gr_trans G13.out hb⟩
              · have hmz : ¬ (0 : Int) < (more.length : Int) := by omega
                clear hm1
                go_wp2_with fail
                rw [← HE13.out]
                refine (works_any _ (HL.out.mono G13.out)).mono ?_
                rintro e w' ⟨rfl, hb⟩
                go_wp2_with fail
                go_ret
                exact ⟨rfl, gr_trans G13.out hb⟩
          · have n1 := nz_u32 _ q1
            have n2 := nz_u32 _ q2
            have n3 : ((out : Int) != 0) = false := by rw [q3]; rfl
            rw [show CookD.val CookD.zero = .agg #[.int .i64 0, .int .u32 0, .int .u32 0, .int .u32 0, .int .u32 0, .int .u32 0, .int .u16 0, .int .u16 0] from rfl]
            obtain ⟨W3, hW3⟩ : ∃ W3, W3 = w2.alloc (.cells #[.int .i64 0, .int .u32 0, .int .u32 0, .int .u32 0, .int .u32 0, .int .u32 0, .int .u16 0, .int .u16 0] 26 (0, 0)) := ⟨_, rfl⟩
            have g3 : Below w2.heap.size w2 W3 := by rw [hW3]; exact (Below.refl _ _).alloc (Nat.le_refl _) _
            have HO3 := hid (HO2.out.mono g3)
            have G3 := hid (gr_trans G2.out g3)
            have HE3 := hid hW3
            obtain ⟨k0, k1, k2, k3, k4, k5, k6, k7⟩ := (HR2.out.mono g3).eight
            rw [hW3] at k0 k1 k2 k3 k4 k5 k6 k7
            clear hW3 g3
            go_wp2_with fail
            rw [← HE3.out]
            clear k0 k1 k2 k3 k4 k5 k6 k7
            refine (twin_any _ bs _ HO3.out.rd (by rw [HBL.out]; omega)).mono ?_
            rintro e w4 ⟨v4, rfl, ho4, hb4⟩
            have HO4 := hid (HO3.out.mono hb4)
            have G4 := hid (gr_trans G3.out hb4)
            rcases ho4 with ⟨-, h0⟩ | ⟨g, sp, hge, rfl, hrow, hmx⟩
            · exfalso
              have := HBL.out
              rw [h0] at this
              simp at this
            have hgw : w.heap.size ≤ g := Nat.le_trans G3.out.size hge
            have HROW := hid hrow
            have hgt := hrow.lt
            obtain ⟨r, hr⟩ : ∃ r, r = at_ % 32 := ⟨_, rfl⟩
            have hr32 : r < 32 := by omega
            have hrem : ((at_ : Int)).tmod 32 = (r : Int) := by rw [Int.tmod_eq_emod_of_nonneg (by omega)]; omega
            clear hr
            have hkl : 32 + r < bs.length := by rw [HBL.out]; omega
            obtain ⟨b0, hb0⟩ : ∃ b0, b0 = bs[32 + r] := ⟨_, rfl⟩
            have cx := hrow.cell (32 + r) (by simp; omega)
            rw [List.getElem_append_left hkl, ← hb0] at cx
            have fx := hrow.frozen (32 + r)
            have hxr := bits_xor8 b0 y
            obtain ⟨bx, hbx⟩ : ∃ bx, bx = b0 ^^^ y := ⟨_, rfl⟩
            rw [← hbx] at hxr
            have HBX := hid hbx
            clear hbx
            have hL := HBL.out
            rw [hL] at hmx ⊢
            unfold maxLen at hmx
            have i0 : (0 : Int) ≤ 32 + (r : Int) := by omega
            have i1 : 32 + (r : Int) < 64 := by omega
            have i2 : (32 + (r : Int)).toNat = 32 + r := by omega
            have HB0 := hid (show bs[32 + r]? = some b0 by rw [hb0]; exact List.getElem?_eq_getElem hkl)
            have HKL := hid hkl
            clear hb0 hL hb4 hrow hkl
            go_wp2_with fail
            have HROW5 := hid (HROW.out.store (32 + r) bx)
            have hset : (bs ++ sp).set (32 + r) bx = bs.set (32 + r) bx ++ sp := by rw [List.set_append_left _ _ HKL.out]
            rw [hset] at HROW5
            obtain ⟨e1, d1, hT1⟩ : ∃ e1 d1, cookTells key (bs.set (32 + r) bx) = (e1, d1) := ⟨_, _, rfl⟩
            have HT1 := hid hT1
            have hy1 : y ≠ 0 → e1 = 10 := fun h => by
              have := HTU.out (32 + r) HKL.out (by omega) h
              have hq := HB0.out
              rw [List.getElem?_eq_getElem HKL.out] at hq
              rw [Option.some.inj hq, ← HBX.out, hT1] at this
              exact (Prod.mk.inj this).1
            obtain ⟨w5, hw5⟩ : ∃ w5, w5 = w4.setCell ⟨g, 32 + r, none⟩ (.int .u8 (bx.toNat : Int)) := ⟨_, rfl⟩
            rw [← hw5] at HROW5
            have HR5 := hid (show Rd w5 (.slice (some ⟨g, 0, none⟩) 64 (64 + sp.length)) (bs.set (32 + r) bx) by
              have := HROW5.out.rd 64 (64 + sp.length) (by simp [HBL.out]) (by omega) (by unfold maxLen; omega)
              rwa [List.take_left' (by simp [HBL.out])] at this)
            have hg5 : w4.grownBy w5 (some g) := by rw [hw5]; exact gb_set (gb_refl _ _) _ _
            have HO5 := hid (HO4.out.keep hg5 (fun k hk e => by have := HO3.out.lt' k hk; simp at e; omega))
            have G5 := hid (show Below w.heap.size w w5 from G4.out.trans (gb_below hg5 hgw G4.out.size))
            have HE5 := hid hw5
            clear hw5 hT1 hset hg5 cx fx hxr i0 i1 i2
            rw [← HE5.out]
            refine (cookRead_any _ _ key _ _ (HV.out.mono G5.out) HR5.out (HL.out.mono G5.out) (by omega) (by simp [HBL.out])).mono ?_
            rintro e w6 ⟨rfl, hb6⟩
            rw [HT1.out]
            obtain ⟨bn1, ot1, pt1, otsn1, ptsn1, rwn1, out1, in1⟩ := d1
            simp only [CookD.val]
            have HO6 := hid (HO5.out.mono hb6)
            have G6 := hid (gr_trans G5.out hb6)
            obtain ⟨W7, hW7⟩ : ∃ W7, W7 = w6.alloc (.cells #[.int .i64 bn1, .int .u32 (ot1 : Int), .int .u32 (pt1 : Int), .int .u32 (otsn1 : Int), .int .u32 (ptsn1 : Int), .int .u32 (rwn1 : Int), .int .u16 (out1 : Int), .int .u16 (in1 : Int)] 26 (0, 0)) := ⟨_, rfl⟩
            have g7 : Below w6.heap.size w6 W7 := by rw [hW7]; exact (Below.refl _ _).alloc (Nat.le_refl _) _
            have HO7 := hid (HO6.out.mono g7)
            have G7 := hid (gr_trans G6.out g7)
            have HE7 := hid hW7
            clear hb6 hW7 g7
            go_wp2_with fail
            rw [← HE7.out]
            refine (twin_any _ bs _ HO7.out.rd (by rw [HBL.out]; omega)).mono ?_
            rintro e w8 ⟨v8, rfl, ho8, hb8⟩
            have HT8 := hid ho8
            have hsz8 := hb8.size
            have HO8 := hid (HO7.out.mono hb8)
            have G8 := hid (gr_trans G7.out hb8)
            clear ho8 hb8
            go_wp2_with (at_builtin; refine wpList_append_Own rfl (.tmp 115) (.tmp 116) 22 rfl W7.heap.size 5 Tryd.underlying22 infoU8o _ _ bs more rfl HT8.out rfl (HX.out.mono G8.out) (by rw [HBL.out]; omega) hsz8 ?_)
            intro v9 w9 ho9 hg9
            obtain ⟨e2, d2, hT2⟩ : ∃ e2 d2, cookTells key (bs ++ more) = (e2, d2) := ⟨_, _, rfl⟩
            have HT2 := hid hT2
            have hm1 : 0 < more.length → e2 = 7 := fun h => by
              have := cookTells_len key (bs ++ more) (by rw [List.length_append, HBL.out]; omega)
              rw [hT2] at this
              exact (Prod.mk.inj this).1
            have HO9 := hid (HO8.out.keep hg9 (fun k hk e => by have h1 := HT8.out.ge k e; have h2 := HO7.out.lt' k hk; omega))
            have G9 := hid (show Below w.heap.size w w9 from G8.out.grown hg9 G8.out.size (fun k hk => Nat.le_trans G7.out.size (HT8.out.ge k hk)))
            have HR9 := hid ho9.rd
            clear hT2 ho9 hg9 hsz8
            go_wp2_with fail
            refine (cookRead_any _ _ key (bs ++ more) _ (HV.out.mono G9.out) HR9.out (HL.out.mono G9.out) (by omega) (by rw [List.length_append, HBL.out]; omega)).mono ?_
            rintro e w10 ⟨rfl, hb10⟩
            rw [HT2.out]
            obtain ⟨bn2, ot2, pt2, otsn2, ptsn2, rwn2, out2, in2⟩ := d2
            simp only [CookD.val]
            have HO10 := hid (HO9.out.mono hb10)
            have G10 := hid (gr_trans G9.out hb10)
            obtain ⟨W11, hW11⟩ : ∃ W11, W11 = w10.alloc (.cells #[.int .i64 bn2, .int .u32 (ot2 : Int), .int .u32 (pt2 : Int), .int .u32 (otsn2 : Int), .int .u32 (ptsn2 : Int), .int .u32 (rwn2 : Int), .int .u16 (out2 : Int), .int .u16 (in2 : Int)] 26 (0, 0)) := ⟨_, rfl⟩
            have g11 : Below w10.heap.size w10 W11 := by rw [hW11]; exact (Below.refl _ _).alloc (Nat.le_refl _) _
            have HO11 := hid (HO10.out.mono g11)
            have G11 := hid (gr_trans G10.out g11)
            have HE11 := hid hW11
            obtain ⟨r2, hr2⟩ : ∃ r2, r2 = at_ % 64 := ⟨_, rfl⟩
            have hr64 : r2 < 64 := by omega
            have hrem2 : ((at_ : Int)).tmod 64 = (r2 : Int) := by rw [Int.tmod_eq_emod_of_nonneg (by omega)]; omega
            have hc64 := HO11.out.rd
            obtain ⟨pq, cq2, hsl, hc1, -, -, -⟩ := hc64
            simp only [Value.slice.injEq] at hsl
            obtain ⟨rfl, -, rfl⟩ := hsl
            have HLT := hid (show (bs.take r2).length = r2 by rw [List.length_take, HBL.out]; omega)
            have HTL := hid (show cookTells key (bs.take r2) = (7, .zero) from cookTells_len _ _ (by rw [HLT.out]; omega))
            have hr2c : r2 ≤ c1 := by rw [HBL.out] at hc1; omega
            clear hb10 hW11 g11 hr2 hc1
            go_wp2_with fail
            rw [← HE11.out]
            refine (cookRead_any _ _ key (bs.take r2) _ (HV.out.mono G11.out) (HO11.out.rd.take r2 (by rw [HBL.out]; omega)) (HL.out.mono G11.out) (by omega) (by rw [HLT.out]; omega)).mono ?_
            rintro e w12 ⟨rfl, hb12⟩
            rw [HTL.out]
            simp only [CookD.zero, CookD.val]
            have G12 := hid (gr_trans G11.out hb12)
            obtain ⟨W13, hW13⟩ : ∃ W13, W13 = w12.alloc (.cells #[.int .i64 0, .int .u32 0, .int .u32 0, .int .u32 0, .int .u32 0, .int .u32 0, .int .u16 0, .int .u16 0] 26 (0, 0)) := ⟨_, rfl⟩
            have g13 : Below w12.heap.size w12 W13 := by rw [hW13]; exact (Below.refl _ _).alloc (Nat.le_refl _) _
            have G13 := hid (gr_trans G12.out g13)
            have HE13 := hid hW13
            clear hb12 hW13 g13
            by_cases hy0 : y = 0
            · have hyb : ((y.toNat : Int) != 0) = false := by subst hy0; rfl
              clear hy1
              by_cases hm0 : 0 < more.length
              · have hm7 := hm1 hm0
                subst hm7
                clear hm1
                go_wp2_with fail
                rw [← HE13.out]
                refine (works_any _ (HL.out.mono G13.out)).mono ?_
                rintro e w' ⟨rfl, hb⟩
                go_wp2_with fail
                go_ret
                exact ⟨rfl, gr_trans G13.out hb⟩
              · have hmz : ¬ (0 : Int) < (more.length : Int) := by omega
                clear hm1
                go_wp2_with fail
                rw [← HE13.out]
                refine (works_any _ (HL.out.mono G13.out)).mono ?_
                rintro e w' ⟨rfl, hb⟩
                go_wp2_with fail
                go_ret
                exact ⟨rfl, gr_trans G13.out hb⟩
            · have hyb : ((y.toNat : Int) != 0) = true := by
                have : y.toNat ≠ 0 := fun h => hy0 (by rw [← UInt8.toNat_inj]; simpa using h)
                simp
                omega
              have hy10 := hy1 hy0
              subst hy10
              clear hy1
              by_cases hm0 : 0 < more.length
              · have hm7 := hm1 hm0
                subst hm7
                clear hm1
                go_wp2_with fail
                rw [← HE13.out]
                refine (works_any _ (HL.out.mono G13.out)).mono ?_
                rintro e w' ⟨rfl, hb⟩
                go_wp2_with fail
                go_ret
                exact ⟨rfl, gr_trans G13.out hb⟩
              · have hmz : ¬ (0 : Int) < (more.length : Int) := by omega
                clear hm1
                go_wp2_with fail
                rw [← HE13.out]
                refine (works_any _ (HL.out.mono G13.out)).mono ?_
                rintro e w' ⟨rfl, hb⟩
                go_wp2_with fail
                go_ret
                exact ⟨rfl, gr_trans G13.out hb⟩
          · have n1 := nz_u32 _ q1
            have n2 := nz_u32 _ q2
            have n3 := nz_u32 _ q3
            have n4 : ((in_ : Int) != 0) = false := by rw [q4]; rfl
            rw [show CookD.val CookD.zero = .agg #[.int .i64 0, .int .u32 0, .int .u32 0, .int .u32 0, .int .u32 0, .int .u32 0, .int .u16 0, .int .u16 0] from rfl]
            obtain ⟨W3, hW3⟩ : ∃ W3, W3 = w2.alloc (.cells #[.int .i64 0, .int .u32 0, .int .u32 0, .int .u32 0, .int .u32 0, .int .u32 0, .int .u16 0, .int .u16 0] 26 (0, 0)) := ⟨_, rfl⟩
            have g3 : Below w2.heap.size w2 W3 := by rw [hW3]; exact (Below.refl _ _).alloc (Nat.le_refl _) _
            have HO3 := hid (HO2.out.mono g3)
            have G3 := hid (gr_trans G2.out g3)
            have HE3 := hid hW3
            obtain ⟨k0, k1, k2, k3, k4, k5, k6, k7⟩ := (HR2.out.mono g3).eight
            rw [hW3] at k0 k1 k2 k3 k4 k5 k6 k7
            clear hW3 g3
            go_wp2_with fail
            rw [← HE3.out]
            clear k0 k1 k2 k3 k4 k5 k6 k7
            refine (twin_any _ bs _ HO3.out.rd (by rw [HBL.out]; omega)).mono ?_
            rintro e w4 ⟨v4, rfl, ho4, hb4⟩
            have HO4 := hid (HO3.out.mono hb4)
            have G4 := hid (gr_trans G3.out hb4)
            rcases ho4 with ⟨-, h0⟩ | ⟨g, sp, hge, rfl, hrow, hmx⟩
            · exfalso
              have := HBL.out
              rw [h0] at this
              simp at this
            have hgw : w.heap.size ≤ g := Nat.le_trans G3.out.size hge
            have HROW := hid hrow
            have hgt := hrow.lt
            obtain ⟨r, hr⟩ : ∃ r, r = at_ % 32 := ⟨_, rfl⟩
            have hr32 : r < 32 := by omega
            have hrem : ((at_ : Int)).tmod 32 = (r : Int) := by rw [Int.tmod_eq_emod_of_nonneg (by omega)]; omega
            clear hr
            have hkl : 32 + r < bs.length := by rw [HBL.out]; omega
            obtain ⟨b0, hb0⟩ : ∃ b0, b0 = bs[32 + r] := ⟨_, rfl⟩
            have cx := hrow.cell (32 + r) (by simp; omega)
            rw [List.getElem_append_left hkl, ← hb0] at cx
            have fx := hrow.frozen (32 + r)
            have hxr := bits_xor8 b0 y
            obtain ⟨bx, hbx⟩ : ∃ bx, bx = b0 ^^^ y := ⟨_, rfl⟩
            rw [← hbx] at hxr
            have HBX := hid hbx
            clear hbx
            have hL := HBL.out
            rw [hL] at hmx ⊢
            unfold maxLen at hmx
            have i0 : (0 : Int) ≤ 32 + (r : Int) := by omega
            have i1 : 32 + (r : Int) < 64 := by omega
            have i2 : (32 + (r : Int)).toNat = 32 + r := by omega
            have HB0 := hid (show bs[32 + r]? = some b0 by rw [hb0]; exact List.getElem?_eq_getElem hkl)
            have HKL := hid hkl
            clear hb0 hL hb4 hrow hkl
            go_wp2_with fail
            have HROW5 := hid (HROW.out.store (32 + r) bx)
            have hset : (bs ++ sp).set (32 + r) bx = bs.set (32 + r) bx ++ sp := by rw [List.set_append_left _ _ HKL.out]
            rw [hset] at HROW5
            obtain ⟨e1, d1, hT1⟩ : ∃ e1 d1, cookTells key (bs.set (32 + r) bx) = (e1, d1) := ⟨_, _, rfl⟩
            have HT1 := hid hT1
            have hy1 : y ≠ 0 → e1 = 10 := fun h => by
              have := HTU.out (32 + r) HKL.out (by omega) h
              have hq := HB0.out
              rw [List.getElem?_eq_getElem HKL.out] at hq
              rw [Option.some.inj hq, ← HBX.out, hT1] at this
              exact (Prod.mk.inj this).1
            obtain ⟨w5, hw5⟩ : ∃ w5, w5 = w4.setCell ⟨g, 32 + r, none⟩ (.int .u8 (bx.toNat : Int)) := ⟨_, rfl⟩
            rw [← hw5] at HROW5
            have HR5 := hid (show Rd w5 (.slice (some ⟨g, 0, none⟩) 64 (64 + sp.length)) (bs.set (32 + r) bx) by
              have := HROW5.out.rd 64 (64 + sp.length) (by simp [HBL.out]) (by omega) (by unfold maxLen; omega)
              rwa [List.take_left' (by simp [HBL.out])] at this)
            have hg5 : w4.grownBy w5 (some g) := by rw [hw5]; exact gb_set (gb_refl _ _) _ _
            have HO5 := hid (HO4.out.keep hg5 (fun k hk e => by have := HO3.out.lt' k hk; simp at e; omega))
            have G5 := hid (show Below w.heap.size w w5 from G4.out.trans (gb_below hg5 hgw G4.out.size))
            have HE5 := hid hw5
            clear hw5 hT1 hset hg5 cx fx hxr i0 i1 i2
            rw [← HE5.out]
            refine (cookRead_any _ _ key _ _ (HV.out.mono G5.out) HR5.out (HL.out.mono G5.out) (by omega) (by simp [HBL.out])).mono ?_
            rintro e w6 ⟨rfl, hb6⟩
            rw [HT1.out]
            obtain ⟨bn1, ot1, pt1, otsn1, ptsn1, rwn1, out1, in1⟩ := d1
            simp only [CookD.val]
            have HO6 := hid (HO5.out.mono hb6)
            have G6 := hid (gr_trans G5.out hb6)
            obtain ⟨W7, hW7⟩ : ∃ W7, W7 = w6.alloc (.cells #[.int .i64 bn1, .int .u32 (ot1 : Int), .int .u32 (pt1 : Int), .int .u32 (otsn1 : Int), .int .u32 (ptsn1 : Int), .int .u32 (rwn1 : Int), .int .u16 (out1 : Int), .int .u16 (in1 : Int)] 26 (0, 0)) := ⟨_, rfl⟩
            have g7 : Below w6.heap.size w6 W7 := by rw [hW7]; exact (Below.refl _ _).alloc (Nat.le_refl _) _
            have HO7 := hid (HO6.out.mono g7)
            have G7 := hid (gr_trans G6.out g7)
            have HE7 := hid hW7
            clear hb6 hW7 g7
            go_wp2_with fail
            rw [← HE7.out]
            refine (twin_any _ bs _ HO7.out.rd (by rw [HBL.out]; omega)).mono ?_
            rintro e w8 ⟨v8, rfl, ho8, hb8⟩
            have HT8 := hid ho8
            have hsz8 := hb8.size
            have HO8 := hid (HO7.out.mono hb8)
            have G8 := hid (gr_trans G7.out hb8)
            clear ho8 hb8
            go_wp2_with (at_builtin; refine wpList_append_Own rfl (.tmp 115) (.tmp 116) 22 rfl W7.heap.size 5 Tryd.underlying22 infoU8o _ _ bs more rfl HT8.out rfl (HX.out.mono G8.out) (by rw [HBL.out]; omega) hsz8 ?_)
            intro v9 w9 ho9 hg9
            obtain ⟨e2, d2, hT2⟩ : ∃ e2 d2, cookTells key (bs ++ more) = (e2, d2) := ⟨_, _, rfl⟩
            have HT2 := hid hT2
            have hm1 : 0 < more.length → e2 = 7 := fun h => by
              have := cookTells_len key (bs ++ more) (by rw [List.length_append, HBL.out]; omega)
              rw [hT2] at this
              exact (Prod.mk.inj this).1
            have HO9 := hid (HO8.out.keep hg9 (fun k hk e => by have h1 := HT8.out.ge k e; have h2 := HO7.out.lt' k hk; omega))
            have G9 := hid (show Below w.heap.size w w9 from G8.out.grown hg9 G8.out.size (fun k hk => Nat.le_trans G7.out.size (HT8.out.ge k hk)))
            have HR9 := hid ho9.rd
            clear hT2 ho9 hg9 hsz8
            go_wp2_with fail
            refine (cookRead_any _ _ key (bs ++ more) _ (HV.out.mono G9.out) HR9.out (HL.out.mono G9.out) (by omega) (by rw [List.length_append, HBL.out]; omega)).mono ?_
            rintro e w10 ⟨rfl, hb10⟩
            rw [HT2.out]
            obtain ⟨bn2, ot2, pt2, otsn2, ptsn2, rwn2, out2, in2⟩ := d2
            simp only [CookD.val]
            have HO10 := hid (HO9.out.mono hb10)
            have G10 := hid (gr_trans G9.out hb10)
            obtain ⟨W11, hW11⟩ : ∃ W11, W11 = w10.alloc (.cells #[.int .i64 bn2, .int .u32 (ot2 : Int), .int .u32 (pt2 : Int), .int .u32 (otsn2 : Int), .int .u32 (ptsn2 : Int), .int .u32 (rwn2 : Int), .int .u16 (out2 : Int), .int .u16 (in2 : Int)] 26 (0, 0)) := ⟨_, rfl⟩
            have g11 : Below w10.heap.size w10 W11 := by rw [hW11]; exact (Below.refl _ _).alloc (Nat.le_refl _) _
            have HO11 := hid (HO10.out.mono g11)
            have G11 := hid (gr_trans G10.out g11)
            have HE11 := hid hW11
            obtain ⟨r2, hr2⟩ : ∃ r2, r2 = at_ % 64 := ⟨_, rfl⟩
            have hr64 : r2 < 64 := by omega
            have hrem2 : ((at_ : Int)).tmod 64 = (r2 : Int) := by rw [Int.tmod_eq_emod_of_nonneg (by omega)]; omega
            have hc64 := HO11.out.rd
            obtain ⟨pq, cq2, hsl, hc1, -, -, -⟩ := hc64
            simp only [Value.slice.injEq] at hsl
            obtain ⟨rfl, -, rfl⟩ := hsl
            have HLT := hid (show (bs.take r2).length = r2 by rw [List.length_take, HBL.out]; omega)
            have HTL := hid (show cookTells key (bs.take r2) = (7, .zero) from cookTells_len _ _ (by rw [HLT.out]; omega))
            have hr2c : r2 ≤ c1 := by rw [HBL.out] at hc1; omega
            clear hb10 hW11 g11 hr2 hc1
            go_wp2_with fail
            rw [← HE11.out]
            refine (cookRead_any _ _ key (bs.take r2) _ (HV.out.mono G11.out) (HO11.out.rd.take r2 (by rw [HBL.out]; omega)) (HL.out.mono G11.out) (by omega) (by rw [HLT.out]; omega)).mono ?_
            rintro e w12 ⟨rfl, hb12⟩
            rw [HTL.out]
            simp only [CookD.zero, CookD.val]
            have G12 := hid (gr_trans G11.out hb12)
            obtain ⟨W13, hW13⟩ : ∃ W13, W13 = w12.alloc (.cells #[.int .i64 0, .int .u32 0, .int .u32 0, .int .u32 0, .int .u32 0, .int .u32 0, .int .u16 0, .int .u16 0] 26 (0, 0)) := ⟨_, rfl⟩
            have g13 : Below w12.heap.size w12 W13 := by rw [hW13]; exact (Below.refl _ _).alloc (Nat.le_refl _) _
            have G13 := hid (gr_trans G12.out g13)
            have HE13 := hid hW13
            clear hb12 hW13 g13
            by_cases hy0 : y = 0
            · have hyb : ((y.toNat : Int) != 0) = false := by subst hy0; rfl
              clear hy1
              by_cases hm0 : 0 < more.length
              · have hm7 := hm1 hm0
                subst hm7
                clear hm1
                go_wp2_with fail
                rw [← HE13.out]
                refine (works_any _ (HL.out.mono G13.out)).mono ?_
                rintro e w' ⟨rfl, hb⟩
                go_wp2_with fail
                go_ret
                exact ⟨rfl, gr_trans G13.out hb⟩
              · have hmz : ¬ (0 : Int) < (more.length : Int) := by omega
                clear hm1
                go_wp2_with fail
                rw [← HE13.out]
                refine (works_any _ (HL.out.mono G13.out)).mono ?_
                rintro e w' ⟨rfl, hb⟩
                go_wp2_with fail
                go_ret
                exact ⟨rfl, gr_trans G13.out hb⟩
            · have hyb : ((y.toNat : Int) != 0) = true := by
                have : y.toNat ≠ 0 := fun h => hy0 (by rw [← UInt8.toNat_inj]; simpa using h)
                simp
                omega
              have hy10 := hy1 hy0
              subst hy10
              clear hy1
              by_cases hm0 : 0 < more.length
              · have hm7 := hm1 hm0
                subst hm7
                clear hm1
                go_wp2_with fail
                rw [← HE13.out]
                refine (works_any _ (HL.out.mono G13.out)).mono ?_
                rintro e w' ⟨rfl, hb⟩
                go_wp2_with fail
                go_ret
                exact ⟨rfl, gr_trans G13.out hb⟩
              · have hmz : ¬ (0 : Int) < (more.length : Int) := by omega
                clear hm1
                go_wp2_with fail
                rw [← HE13.out]
                refine (works_any _ (HL.out.mono G13.out)).mono ?_
                rintro e w' ⟨rfl, hb⟩
                go_wp2_with fail
                go_ret
                exact ⟨rfl, gr_trans G13.out hb⟩
        · obtain ⟨rfl, rfl⟩ := hyes hmy
          subst hmy
          rw [if_pos rfl] at hcond
          obtain ⟨q0, q1, q2, q3, q4⟩ := hcond
          have n1 := nz_u32 _ q1
          have n2 := nz_u32 _ q2
          have n3 := nz_u32 _ q3
          have n4 := nz_u32 _ q4
          clear hyes hno
          rw [show CookD.val ⟨born, ot, pt, otsn, ptsn, rwn, out, in_⟩ = .agg #[.int .i64 born, .int .u32 (ot : Int), .int .u32 (pt : Int), .int .u32 (otsn : Int), .int .u32 (ptsn : Int), .int .u32 (rwn : Int), .int .u16 (out : Int), .int .u16 (in_ : Int)] from rfl]
          obtain ⟨W3, hW3⟩ : ∃ W3, W3 = w2.alloc (.cells #[.int .i64 born, .int .u32 (ot : Int), .int .u32 (pt : Int), .int .u32 (otsn : Int), .int .u32 (ptsn : Int), .int .u32 (rwn : Int), .int .u16 (out : Int), .int .u16 (in_ : Int)] 26 (0, 0)) := ⟨_, rfl⟩
          have g3 : Below w2.heap.size w2 W3 := by rw [hW3]; exact (Below.refl _ _).alloc (Nat.le_refl _) _
          have HO3 := hid (HO2.out.mono g3)
          have G3 := hid (gr_trans G2.out g3)
          have HE3 := hid hW3
          obtain ⟨k0, k1, k2, k3, k4, k5, k6, k7⟩ := (HR2.out.mono g3).eight
          rw [hW3] at k0 k1 k2 k3 k4 k5 k6 k7
          clear hW3 g3
          go_wp2_with fail
          rw [← HE3.out]
          clear k0 k1 k2 k3 k4 k5 k6 k7
          refine (twin_any _ bs _ HO3.out.rd (by rw [HBL.out]; omega)).mono ?_
          rintro e w4 ⟨v4, rfl, ho4, hb4⟩
          have HO4 := hid (HO3.out.mono hb4)
          have G4 := hid (gr_trans G3.out hb4)
          rcases ho4 with ⟨-, h0⟩ | ⟨g, sp, hge, rfl, hrow, hmx⟩
          · exfalso
            have := HBL.out
            rw [h0] at this
            simp at this
          have hgw : w.heap.size ≤ g := Nat.le_trans G3.out.size hge
          have HROW := hid hrow
          have hgt := hrow.lt
          obtain ⟨r, hr⟩ : ∃ r, r = at_ % 32 := ⟨_, rfl⟩
          have hr32 : r < 32 := by omega
          have hrem : ((at_ : Int)).tmod 32 = (r : Int) := by rw [Int.tmod_eq_emod_of_nonneg (by omega)]; omega
          clear hr
          have hkl : 32 + r < bs.length := by rw [HBL.out]; omega
          obtain ⟨b0, hb0⟩ : ∃ b0, b0 = bs[32 + r] := ⟨_, rfl⟩
          have cx := hrow.cell (32 + r) (by simp; omega)
          rw [List.getElem_append_left hkl, ← hb0] at cx
          have fx := hrow.frozen (32 + r)
          have hxr := bits_xor8 b0 y
          obtain ⟨bx, hbx⟩ : ∃ bx, bx = b0 ^^^ y := ⟨_, rfl⟩
          rw [← hbx] at hxr
          have HBX := hid hbx
          clear hbx
          have hL := HBL.out
          rw [hL] at hmx ⊢
          unfold maxLen at hmx
          have i0 : (0 : Int) ≤ 32 + (r : Int) := by omega
          have i1 : 32 + (r : Int) < 64 := by omega
          have i2 : (32 + (r : Int)).toNat = 32 + r := by omega
          have HB0 := hid (show bs[32 + r]? = some b0 by rw [hb0]; exact List.getElem?_eq_getElem hkl)
          have HKL := hid hkl
          clear hb0 hL hb4 hrow hkl
          go_wp2_with fail
          have HROW5 := hid (HROW.out.store (32 + r) bx)
          have hset : (bs ++ sp).set (32 + r) bx = bs.set (32 + r) bx ++ sp := by rw [List.set_append_left _ _ HKL.out]
          rw [hset] at HROW5
          obtain ⟨e1, d1, hT1⟩ : ∃ e1 d1, cookTells key (bs.set (32 + r) bx) = (e1, d1) := ⟨_, _, rfl⟩
          have HT1 := hid hT1
          have hy1 : y ≠ 0 → e1 = 10 := fun h => by
            have := HTU.out (32 + r) HKL.out (by omega) h
            have hq := HB0.out
            rw [List.getElem?_eq_getElem HKL.out] at hq
            rw [Option.some.inj hq, ← HBX.out, hT1] at this
            exact (Prod.mk.inj this).1
          obtain ⟨w5, hw5⟩ : ∃ w5, w5 = w4.setCell ⟨g, 32 + r, none⟩ (.int .u8 (bx.toNat : Int)) := ⟨_, rfl⟩
          rw [← hw5] at HROW5
          have HR5 := hid (show Rd w5 (.slice (some ⟨g, 0, none⟩) 64 (64 + sp.length)) (bs.set (32 + r) bx) by
            have := HROW5.out.rd 64 (64 + sp.length) (by simp [HBL.out]) (by omega) (by unfold maxLen; omega)
            rwa [List.take_left' (by simp [HBL.out])] at this)
          have hg5 : w4.grownBy w5 (some g) := by rw [hw5]; exact gb_set (gb_refl _ _) _ _
          have HO5 := hid (HO4.out.keep hg5 (fun k hk e => by have := HO3.out.lt' k hk; simp at e; omega))
          have G5 := hid (show Below w.heap.size w w5 from G4.out.trans (gb_below hg5 hgw G4.out.size))
          have HE5 := hid hw5
          clear hw5 hT1 hset hg5 cx fx hxr i0 i1 i2
          rw [← HE5.out]
          refine (cookRead_any _ _ key _ _ (HV.out.mono G5.out) HR5.out (HL.out.mono G5.out) (by omega) (by simp [HBL.out])).mono ?_
          rintro e w6 ⟨rfl, hb6⟩
          rw [HT1.out]
          obtain ⟨bn1, ot1, pt1, otsn1, ptsn1, rwn1, out1, in1⟩ := d1
          simp only [CookD.val]
          have HO6 := hid (HO5.out.mono hb6)
          have G6 := hid (gr_trans G5.out hb6)
          obtain ⟨W7, hW7⟩ : ∃ W7, W7 = w6.alloc (.cells #[.int .i64 bn1, .int .u32 (ot1 : Int), .int .u32 (pt1 : Int), .int .u32 (otsn1 : Int), .int .u32 (ptsn1 : Int), .int .u32 (rwn1 : Int), .int .u16 (out1 : Int), .int .u16 (in1 : Int)] 26 (0, 0)) := ⟨_, rfl⟩
          have g7 : Below w6.heap.size w6 W7 := by rw [hW7]; exact (Below.refl _ _).alloc (Nat.le_refl _) _
          have HO7 := hid (HO6.out.mono g7)
          have G7 := hid (gr_trans G6.out g7)
          have HE7 := hid hW7
          clear hb6 hW7 g7
          go_wp2_with fail
          rw [← HE7.out]
          refine (twin_any _ bs _ HO7.out.rd (by rw [HBL.out]; omega)).mono ?_
          rintro e w8 ⟨v8, rfl, ho8, hb8⟩
          have HT8 := hid ho8
          have hsz8 := hb8.size
          have HO8 := hid (HO7.out.mono hb8)
          have G8 := hid (gr_trans G7.out hb8)
          clear ho8 hb8
          go_wp2_with (at_builtin; refine wpList_append_Own rfl (.tmp 115) (.tmp 116) 22 rfl W7.heap.size 5 Tryd.underlying22 infoU8o _ _ bs more rfl HT8.out rfl (HX.out.mono G8.out) (by rw [HBL.out]; omega) hsz8 ?_)
          intro v9 w9 ho9 hg9
          obtain ⟨e2, d2, hT2⟩ : ∃ e2 d2, cookTells key (bs ++ more) = (e2, d2) := ⟨_, _, rfl⟩
          have HT2 := hid hT2
          have hm1 : 0 < more.length → e2 = 7 := fun h => by
            have := cookTells_len key (bs ++ more) (by rw [List.length_append, HBL.out]; omega)
            rw [hT2] at this
            exact (Prod.mk.inj this).1
          have HO9 := hid (HO8.out.keep hg9 (fun k hk e => by have h1 := HT8.out.ge k e; have h2 := HO7.out.lt' k hk; omega))
          have G9 := hid (show Below w.heap.size w w9 from G8.out.grown hg9 G8.out.size (fun k hk => Nat.le_trans G7.out.size (HT8.out.ge k hk)))
          have HR9 := hid ho9.rd
          clear hT2 ho9 hg9 hsz8
          go_wp2_with fail
          refine (cookRead_any _ _ key (bs ++ more) _ (HV.out.mono G9.out) HR9.out (HL.out.mono G9.out) (by omega) (by rw [List.length_append, HBL.out]; omega)).mono ?_
          rintro e w10 ⟨rfl, hb10⟩
          rw [HT2.out]
          obtain ⟨bn2, ot2, pt2, otsn2, ptsn2, rwn2, out2, in2⟩ := d2
          simp only [CookD.val]
          have HO10 := hid (HO9.out.mono hb10)
          have G10 := hid (gr_trans G9.out hb10)
          obtain ⟨W11, hW11⟩ : ∃ W11, W11 = w10.alloc (.cells #[.int .i64 bn2, .int .u32 (ot2 : Int), .int .u32 (pt2 : Int), .int .u32 (otsn2 : Int), .int .u32 (ptsn2 : Int), .int .u32 (rwn2 : Int), .int .u16 (out2 : Int), .int .u16 (in2 : Int)] 26 (0, 0)) := ⟨_, rfl⟩
          have g11 : Below w10.heap.size w10 W11 := by rw [hW11]; exact (Below.refl _ _).alloc (Nat.le_refl _) _
          have HO11 := hid (HO10.out.mono g11)
          have G11 := hid (gr_trans G10.out g11)
          have HE11 := hid hW11
          obtain ⟨r2, hr2⟩ : ∃ r2, r2 = at_ % 64 := ⟨_, rfl⟩
          have hr64 : r2 < 64 := by omega
          have hrem2 : ((at_ : Int)).tmod 64 = (r2 : Int) := by rw [Int.tmod_eq_emod_of_nonneg (by omega)]; omega
          have hc64 := HO11.out.rd
          obtain ⟨pq, cq2, hsl, hc1, -, -, -⟩ := hc64
          simp only [Value.slice.injEq] at hsl
          obtain ⟨rfl, -, rfl⟩ := hsl
          have HLT := hid (show (bs.take r2).length = r2 by rw [List.length_take, HBL.out]; omega)
          have HTL := hid (show cookTells key (bs.take r2) = (7, .zero) from cookTells_len _ _ (by rw [HLT.out]; omega))
          have hr2c : r2 ≤ c1 := by rw [HBL.out] at hc1; omega
          clear hb10 hW11 g11 hr2 hc1
          go_wp2_with fail
          rw [← HE11.out]
          refine (cookRead_any _ _ key (bs.take r2) _ (HV.out.mono G11.out) (HO11.out.rd.take r2 (by rw [HBL.out]; omega)) (HL.out.mono G11.out) (by omega) (by rw [HLT.out]; omega)).mono ?_
          rintro e w12 ⟨rfl, hb12⟩
          rw [HTL.out]
          simp only [CookD.zero, CookD.val]
          have G12 := hid (gr_trans G11.out hb12)
          obtain ⟨W13, hW13⟩ : ∃ W13, W13 = w12.alloc (.cells #[.int .i64 0, .int .u32 0, .int .u32 0, .int .u32 0, .int .u32 0, .int .u32 0, .int .u16 0, .int .u16 0] 26 (0, 0)) := ⟨_, rfl⟩
          have g13 : Below w12.heap.size w12 W13 := by rw [hW13]; exact (Below.refl _ _).alloc (Nat.le_refl _) _
          have G13 := hid (gr_trans G12.out g13)
          have HE13 := hid hW13
          clear hb12 hW13 g13
          by_cases hy0 : y = 0
          · have hyb : ((y.toNat : Int) != 0) = false := by subst hy0; rfl
            clear hy1
            by_cases hm0 : 0 < more.length
            · have hm7 := hm1 hm0
              subst hm7
              clear hm1
              go_wp2_with fail
              rw [← HE13.out]
              refine (works_any _ (HL.out.mono G13.out)).mono ?_
              rintro e w' ⟨rfl, hb⟩
              go_wp2_with fail
              go_ret
              exact ⟨rfl, gr_trans G13.out hb⟩
            · have hmz : ¬ (0 : Int) < (more.length : Int) := by omega
              clear hm1
              go_wp2_with fail
              rw [← HE13.out]
              refine (works_any _ (HL.out.mono G13.out)).mono ?_
              rintro e w' ⟨rfl, hb⟩
              go_wp2_with fail
              go_ret
              exact ⟨rfl, gr_trans G13.out hb⟩
          · have hyb : ((y.toNat : Int) != 0) = true := by
              have : y.toNat ≠ 0 := fun h => hy0 (by rw [← UInt8.toNat_inj]; simpa using h)
              simp
              omega
            have hy10 := hy1 hy0
            subst hy10
            clear hy1
            by_cases hm0 : 0 < more.length
            · have hm7 := hm1 hm0
              subst hm7
              clear hm1
              go_wp2_with fail
              rw [← HE13.out]
              refine (works_any _ (HL.out.mono G13.out)).mono ?_
              rintro e w' ⟨rfl, hb⟩
              go_wp2_with fail
              go_ret
              exact ⟨rfl, gr_trans G13.out hb⟩
            · have hmz : ¬ (0 : Int) < (more.length : Int) := by omega
              clear hm1
              go_wp2_with fail
              rw [← HE13.out]
              refine (works_any _ (HL.out.mono G13.out)).mono ?_
              rintro e w' ⟨rfl, hb⟩
              go_wp2_with fail
              go_ret
              exact ⟨rfl, gr_trans G13.out hb⟩
    by_cases hm : c.may
    · exact hmain true 0 c (by rw [HBK.out, if_pos hm]) (fun _ => ⟨rfl, rfl⟩) (fun h => by cases h) (by rw [if_pos rfl]; exact hm)
    · exact hmain false 7 .zero (by rw [HBK.out, if_neg hm]) (fun h => by cases h) (fun _ => ⟨rfl, rfl⟩) (by rw [if_neg (by simp)]; exact hparts.resolve_left hm)
end Go.Proofs.YtjpemfciiakphaaDoor

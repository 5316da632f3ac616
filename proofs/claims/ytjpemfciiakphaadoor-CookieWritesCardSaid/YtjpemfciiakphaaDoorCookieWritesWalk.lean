/- CookieWrites: the walk of the law. Conditions: the tables of sha hold what its text says. -/
import Derived.Test.YtjpemfciiakphaaDoorCookWorks
import Derived.Test.YtjpemfciiakphaaDoorCookRefW
import Derived.Test.YtjpemfciiakphaaDoorCookOpen
import Derived.Test.YtjpemfciiakphaaDoorRegGr
namespace Go.Proofs.YtjpemfciiakphaaDoor
open Go.RowKit Go.FL Go.ChangeShapes

set_option maxRecDepth 100000 in
set_option maxHeartbeats 4000000 in
theorem cookieWrites_walk {w : World} (hlaid : ShaLaid w) {v : Value} (key : List UInt8) (hv : Rd w v key) {u : Value} (c : CookD) (hu : CookAt u c) :
    Calls Tryd.prog 3 #[v, u] w fun e w' => e = .returned (.bool true) ∧ Below w.heap.size w w' := by
  have HL := hid hlaid
  have HV := hid hv
  obtain ⟨rfl, hwf⟩ := hu
  have HWF := hid hwf
  obtain ⟨p, cp, rfl, _, hcm, _, hcell⟩ := hv
  unfold maxLen at hcm
  clear hcell hlaid hwf
  have HCV := hid (show c.val = .agg c.cells.toArray from rfl)
  obtain ⟨W, hW⟩ : ∃ W, W = w.alloc (.cells c.cells.toArray 26 (0, 0)) := ⟨_, rfl⟩
  have HR := hid (show RowV W w.heap.size 26 c.cells by rw [hW]; exact RowV.new w 26 _)
  have HW := hid (show Below w.heap.size w W by rw [hW]; exact (Below.refl _ _).alloc (Nat.le_refl _) _)
  obtain ⟨bs, hbs⟩ : ∃ bs, bs = cookBytes key c := ⟨_, rfl⟩
  have HBS := hid hbs
  have HBL := hid (show bs.length = 64 by rw [hbs, cookBytes_length])
  have HLN := hid (show c.cells.length = 8 from rfl)
  have HCW := hid (fun (v : Value) (wx : World) (h : Rd wx v key) (hl : ShaLaid wx) => HBS.out ▸ cookWrite_any v key c HWF.out wx h hl)
  have HCR := hid (fun (v : Value) (wx : World) (h : Rd wx v key) => HBS.out ▸ cookRefWrite_any v key c HWF.out wx h)
  obtain ⟨born, ot, pt, otsn, ptsn, rwn, out, in_⟩ := c
  simp only [CookD.val, CookD.cells] at *
  have HE := hid hW
  clear hW hbs
  by_cases hbig : 4096 < key.length
  · go_enter Tryd.func3, Tryd.ntmps3
    go_wp2_with fail
    rw [← HE.out]
    refine (works_any _ (HL.out.mono HW.out)).mono ?_
    rintro e w' ⟨rfl, hb⟩
    go_wp2_with fail
    go_ret
    exact ⟨rfl, gr_trans HW.out hb⟩
  · have hk4 : key.length ≤ 4096 := by omega
    clear hbig
    go_enter Tryd.func3, Tryd.ntmps3
    go_wp2_with fail
    rw [← HE.out]
    refine (twin_any _ key _ (HV.out.mono HW.out) (by omega)).mono ?_
    rintro e w1 ⟨v1, rfl, ho1, hb1⟩
    have HO1 := hid ho1
    have HR1 := hid (HR.out.mono hb1)
    have G1 := hid (gr_trans HW.out hb1)
    obtain ⟨p1, c1, rfl, -, -, -, -⟩ := ho1.rd
    clear ho1 hb1
    go_wp2_with fail
    refine wp_region_gr [Is (.slice p1 key.length c1), Is (.agg ([.int .i64 born, .int .u32 (ot : Int), .int .u32 (pt : Int), .int .u32 (otsn : Int), .int .u32 (ptsn : Int), .int .u32 (rwn : Int), .int .u16 (out : Int), .int .u16 (in_ : Int)]).toArray), OwnF 0 5 bs, Is (.slice p key.length cp), Is (.agg ([.int .i64 born, .int .u32 (ot : Int), .int .u32 (pt : Int), .int .u32 (otsn : Int), .int .u32 (ptsn : Int), .int .u32 (rwn : Int), .int .u16 (out : Int), .int .u16 (in_ : Int)]).toArray), OwnF 0 5 bs, Is (.bool true), Is (.bool true), Is (.slice p1 key.length c1), Is (.slice p key.length cp), Is (.bool true), Is (.bool true), Is (.bool true), Is (.bool true), Is (.bool true), Is (.bool true)] (by kernel_rfl) (by kernel_rfl) (by kernel_rfl) ?_ ?_ ?_
    · simp only [StabAll, Is.gr, RdF.gr, OwnF.gr, AnyF.gr, and_self]
    · rename_i Kk hKk; clear hKk Kk
      simp only [AllOps, List.map_cons, List.map_nil, depsOf, List.filterMap_cons, List.filterMap_nil, Region.binds, depFacts, guardF, reduceIte, List.getD_eq_getElem?_getD, List.getElem?_cons_succ, List.getElem?_cons_zero, Option.getD_some, factAt, and_true]
      refine ⟨?_, ?_, ?_, ?_, ?_, ?_, ?_, ?_, ?_, ?_, ?_, ?_, ?_, ?_, ?_, ?_⟩
      all_goals intro ρ wv hρ hR hd
      all_goals try simp only [Is] at hd
      · exact opOk_move (.inl rfl) ⟨by simp only [Is]; (first | exact hρ.2 5 rfl | exact hd | exact hd.1 | exact hd.2 | simp [hd]), GrR.refl _⟩
      · exact opOk_loadRow rfl (w.heap.size) (by first | exact hρ.2 _ rfl | simp [hd]) _ ([.int .i64 born, .int .u32 (ot : Int), .int .u32 (pt : Int), .int .u32 (otsn : Int), .int .u32 (ptsn : Int), .int .u32 (rwn : Int), .int .u16 (out : Int), .int .u16 (in_ : Int)]) _ (HR1.out.mono hR) Tryd.underlying26 rfl (by kernel_rfl) ⟨rfl, GrR.refl _⟩
      · exact opOk_call hρ.1 rfl rfl Tryd.func12 (by kernel_rfl) rfl (by simp [hd, hρ.1.const]) ((HCW.out _ _ (HO1.out.rd.mono hR) (HL.out.mono (gr_trans G1.out hR)) (by omega)).mono fun e w' ⟨v', h1, h2, h3⟩ => ⟨v', h1, h2.base (Nat.zero_le _), h3⟩)
      · exact opOk_move (.inl rfl) ⟨by simp only [Is]; (first | exact hρ.2 0 rfl | exact hd | exact hd.1 | exact hd.2 | simp [hd]), GrR.refl _⟩
      · exact opOk_loadRow rfl (w.heap.size) (by first | exact hρ.2 _ rfl | simp [hd]) _ ([.int .i64 born, .int .u32 (ot : Int), .int .u32 (pt : Int), .int .u32 (otsn : Int), .int .u32 (ptsn : Int), .int .u32 (rwn : Int), .int .u16 (out : Int), .int .u16 (in_ : Int)]) _ (HR1.out.mono hR) Tryd.underlying26 rfl (by kernel_rfl) ⟨rfl, GrR.refl _⟩
      · exact opOk_call hρ.1 rfl rfl Tryd.func13 (by kernel_rfl) rfl (by simp [hd, hρ.1.const]) ((HCR.out _ _ (HV.out.mono (gr_trans G1.out hR)) (by omega)).mono fun e w' ⟨v', h1, h2, h3⟩ => ⟨v', h1, h2.base (Nat.zero_le _), h3⟩)
      · exact opOk_call hρ.1 rfl rfl Tryd.func11 (by kernel_rfl) rfl (by simp [hd, hρ.1.const]) ((sameStr_any _ _ bs bs _ hd.1.rd hd.2.1.rd).mono fun e w' ⟨h1, h2⟩ => ⟨_, h1, by rw [decide_eq_true rfl]; rfl, h2 ▸ GrR.refl _⟩)
      · exact opOk_move (.inl rfl) ⟨by simp only [Is]; (first | exact hρ.2 18 rfl | exact hd | exact hd.1 | exact hd.2 | simp [hd]), GrR.refl _⟩
      · refine ⟨fun _ => ?_, fun hg => absurd (by simp [hd]) hg⟩; exact opOk_move (.inl rfl) ⟨by simp only [Is]; (first | exact hρ.2 5 rfl | exact hd | exact hd.1 | exact hd.2 | simp [hd]), GrR.refl _⟩
      · refine ⟨fun _ => ?_, fun hg => absurd (by simp [hd]) hg⟩; exact opOk_move (.inl rfl) ⟨by simp only [Is]; (first | exact hρ.2 0 rfl | exact hd | exact hd.1 | exact hd.2 | simp [hd]), GrR.refl _⟩
      · refine ⟨fun _ => ?_, fun hg => absurd (by simp [hd]) hg⟩; exact opOk_call hρ.1 rfl rfl Tryd.func11 (by kernel_rfl) rfl (by simp [hd, hρ.1.const]) ((sameStr_any _ _ key key _ (HO1.out.rd.mono hR) (HV.out.mono (gr_trans G1.out hR))).mono fun e w' ⟨h1, h2⟩ => ⟨_, h1, by rw [decide_eq_true rfl]; rfl, h2 ▸ GrR.refl _⟩)
      · exact opOk_val (v := .bool true) (w' := wv) (by simp [execOp, go_sem, hρ.1.const, hρ.1.func, hd]) ⟨rfl, GrR.refl _⟩
      · exact opOk_move (.inl rfl) ⟨by simp only [Is]; (first | exact hρ.2 23 rfl | exact hd | exact hd.1 | exact hd.2 | simp [hd]), GrR.refl _⟩
      · refine ⟨fun _ => ?_, fun hg => absurd (by simp [hd]) hg⟩; exact opOk_call hρ.1 rfl rfl Tryd.func9 (by kernel_rfl) rfl (by simp [hd, hρ.1.const]) ((works_any _ (HL.out.mono (gr_trans G1.out hR))).mono fun e w' ⟨h1, h2⟩ => ⟨_, h1, rfl, h2⟩)
      · exact opOk_val (v := .bool true) (w' := wv) (by simp [execOp, go_sem, hρ.1.const, hρ.1.func, hd]) ⟨rfl, GrR.refl _⟩
      · exact opOk_move (.inr rfl) ⟨by simp only [Is]; (first | exact hρ.2 26 rfl | exact hd | exact hd.1 | exact hd.2 | simp [hd]), GrR.refl _⟩
    · intro vals wv hR hall
      have hend := hall 15 (by simp)
      simp only [factAt, Is, List.getD_eq_getElem?_getD, List.getElem?_cons_succ, List.getElem?_cons_zero, Option.getD_some] at hend
      clear hall
      simp only [fillFrom, Act.put, hend, List.setIfInBounds_toArray, List.set_cons_zero, List.set_cons_succ]
      rename_i Kk hKk
      refine hKk _ _ ?_
      clear hKk Kk
      go_wp2
      go_ret
      exact ⟨rfl, gr_trans G1.out hR⟩
end Go.Proofs.YtjpemfciiakphaaDoor

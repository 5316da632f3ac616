/- BodiesCuts: the walk of the law. Conditions: none but what the row reads. -/
import Derived.Test.YtfiblhdejglpaaaBodCutLaw
import Derived.Test.YtfiblhdejglpaaaBodOpen
import Derived.Test.YtfiblhdejglpaaaBodWorks
import Derived.Test.YtfiblhdejglpaaaBodRoom
import Derived.Test.YtfiblhdejglpaaaBodGot
import Derived.Deep.CutRange
import Derived.Test.YtfiblhdejglpaaaRegShape
set_option linter.unusedSimpArgs false
set_option linter.unusedVariables false
namespace Go.FL
open Go.RowKit
theorem rowAll {w : World} {g e : Nat} {v0 v1 v2 v3 v4 v5 v6 v7 v8 v9 v10 v11 v12 v13 v14 v15 v16 v17 v18 v19 v20 v21 : Value} (h : RowV w g e [v0, v1, v2, v3, v4, v5, v6, v7, v8, v9, v10, v11, v12, v13, v14, v15, v16, v17, v18, v19, v20, v21]) : w.cell? ⟨g, 0, none⟩ = some v0 ∧ w.cell? ⟨g, 1, none⟩ = some v1 ∧ w.cell? ⟨g, 2, none⟩ = some v2 ∧ w.cell? ⟨g, 3, none⟩ = some v3 ∧ w.cell? ⟨g, 4, none⟩ = some v4 ∧ w.cell? ⟨g, 5, none⟩ = some v5 ∧ w.cell? ⟨g, 6, none⟩ = some v6 ∧ w.cell? ⟨g, 7, none⟩ = some v7 ∧ w.cell? ⟨g, 8, none⟩ = some v8 ∧ w.cell? ⟨g, 9, none⟩ = some v9 ∧ w.cell? ⟨g, 10, none⟩ = some v10 ∧ w.cell? ⟨g, 11, none⟩ = some v11 ∧ w.cell? ⟨g, 12, none⟩ = some v12 ∧ w.cell? ⟨g, 13, none⟩ = some v13 ∧ w.cell? ⟨g, 14, none⟩ = some v14 ∧ w.cell? ⟨g, 15, none⟩ = some v15 ∧ w.cell? ⟨g, 16, none⟩ = some v16 ∧ w.cell? ⟨g, 17, none⟩ = some v17 ∧ w.cell? ⟨g, 18, none⟩ = some v18 ∧ w.cell? ⟨g, 19, none⟩ = some v19 ∧ w.cell? ⟨g, 20, none⟩ = some v20 ∧ w.cell? ⟨g, 21, none⟩ = some v21 ∧ True :=
  ⟨h.at 0 (by simp), h.at 1 (by simp), h.at 2 (by simp), h.at 3 (by simp), h.at 4 (by simp), h.at 5 (by simp), h.at 6 (by simp), h.at 7 (by simp), h.at 8 (by simp), h.at 9 (by simp), h.at 10 (by simp), h.at 11 (by simp), h.at 12 (by simp), h.at 13 (by simp), h.at 14 (by simp), h.at 15 (by simp), h.at 16 (by simp), h.at 17 (by simp), h.at 18 (by simp), h.at 19 (by simp), h.at 20 (by simp), h.at 21 (by simp), trivial⟩
theorem five_getElem {α} {a b c d e : α} {P : α → Prop} (h0 : P a) (h1 : P b) (h2 : P c) (h3 : P d) (h4 : P e) : ∀ j (h : j < [a, b, c, d, e].length), P [a, b, c, d, e][j]
  | 0, _ => h0
  | 1, _ => h1
  | 2, _ => h2
  | 3, _ => h3
  | 4, _ => h4
theorem RowV.seven {w : World} {g e : Nat} {v0 v1 v2 v3 v4 v5 v6 : Value} (h : RowV w g e [v0, v1, v2, v3, v4, v5, v6]) : w.cell? ⟨g, 0, none⟩ = some v0 ∧ w.cell? ⟨g, 1, none⟩ = some v1 ∧ w.cell? ⟨g, 2, none⟩ = some v2 ∧ w.cell? ⟨g, 3, none⟩ = some v3 ∧ w.cell? ⟨g, 4, none⟩ = some v4 ∧ w.cell? ⟨g, 5, none⟩ = some v5 ∧ w.cell? ⟨g, 6, none⟩ = some v6 :=
  ⟨h.at 0 (by simp), h.at 1 (by simp), h.at 2 (by simp), h.at 3 (by simp), h.at 4 (by simp), h.at 5 (by simp), h.at 6 (by simp)⟩
theorem seven_of {α} {l : List α} (h : l.length = 7) : ∃ a b c d e f g, l = [a, b, c, d, e, f, g] := by
  match l, h with
  | [a, b, c, d, e, f, g], _ => exact ⟨a, b, c, d, e, f, g, rfl⟩
theorem GDF.gs (B : Nat) (Φ : Nat → Value → Prop) (e : Int) : Stab (GrS B Φ) (GDF e) := fun _ _ _ h _ => h
theorem GD1.gs (B : Nat) (Φ : Nat → Value → Prop) : Stab (GrS B Φ) GD1 := fun _ _ _ h _ => h
end Go.FL
namespace Go.Proofs.Ytfiblhdejglpaaa
open Go.RowKit Go.FL Go.ChangeShapes

set_option maxRecDepth 100000 in
set_option maxHeartbeats 16000000 in
theorem bodiesCuts_walk {w : World} {v : Value} (x : AllD) (hx : AllL w (match v with | .agg cs => cs.toList | _ => []) x) (ct0 : Int) (hct0 : (Lit.int .u16 ct0).wf = true) (fl0 : Int) (hfl0 : (Lit.int .u8 fl0).wf = true) :
    Calls Try.prog 11 #[v, .int .u16 ct0, .int .u8 fl0] w fun e w' => e = .returned (.bool true) ∧ Below w.heap.size w w' := by
  obtain ⟨ct, rfl, hct⟩ := nat_of_u16 hct0
  obtain ⟨fl, rfl⟩ := u8_of fl0 hfl0
  have HCT := hid hct
  clear hct hct0 hfl0
  obtain ⟨s1, s2, s3, s4, s5, hcs, q1, q2, q3, q4, q5, wf1, wf2, wf3, wf4, wf5, wf6⟩ := hx
  have HD := hid (show DataAt w (.agg #[.int .u32 (x.data.tsn : Int), .int .u16 (x.data.st : Int), .int .u16 (x.data.ssn : Int), .bool x.data.un, .bool x.data.fi, .bool x.data.la, s1]) x.data from ⟨_, rfl, q1⟩)
  have HI := hid (show InitAt w (.agg #[.int .u32 (x.init.tag : Int), .int .u32 (x.init.rwnd : Int), .int .u16 (x.init.out : Int), .int .u16 (x.init.in_ : Int), .int .u32 (x.init.tsn : Int), s2]) x.init from ⟨_, rfl, q2⟩)
  have HS := hid (show SackAt w (.agg #[.int .u32 (x.sack.cum : Int), .int .u32 (x.sack.rwnd : Int), s3, s4]) x.sack from ⟨_, _, rfl, q3, q4⟩)
  have HF := hid (show FwdAt w (.agg #[.int .u32 (x.fwd.cum : Int), s5]) x.fwd from ⟨_, rfl, q5⟩)
  have HWD := hid wf1
  have HWI := hid wf2
  have HWS := hid wf3
  have HWF := hid wf4
  have HCM := hid wf6
  obtain ⟨pd, cd, rfl, l1, m1, -, -⟩ := q1
  obtain ⟨pi, ci, rfl, l2, m2, -, -⟩ := q2
  obtain ⟨pg, cg, rfl, l3, m3, -, -⟩ := q3
  obtain ⟨pu, cu, rfl, l4, m4, -⟩ := q4.nums
  obtain ⟨pf, cf, rfl, l5, m5, -, -⟩ := q5
  unfold maxLen at m1 m2 m3 m4 m5
  clear q4 wf1 wf2 wf3 wf4
  obtain ⟨ack, data, init, sack, fwd, at_, cum⟩ := x
  obtain ⟨nd, hnd⟩ : ∃ n, n = data.b.length := ⟨_, rfl⟩
  obtain ⟨ni, hni⟩ : ∃ n, n = init.ck.length := ⟨_, rfl⟩
  obtain ⟨ng, hng⟩ : ∃ n, n = sack.gaps.length := ⟨_, rfl⟩
  obtain ⟨nu, hnu⟩ : ∃ n, n = sack.dups.length := ⟨_, rfl⟩
  obtain ⟨nf, hnf⟩ : ∃ n, n = fwd.skips.length := ⟨_, rfl⟩
  obtain ⟨dt, hdt⟩ : ∃ n, n = data.tsn := ⟨_, rfl⟩
  obtain ⟨ds, hds⟩ : ∃ n, n = data.st := ⟨_, rfl⟩
  obtain ⟨dn, hdn⟩ : ∃ n, n = data.ssn := ⟨_, rfl⟩
  obtain ⟨du, hdu⟩ : ∃ n, n = data.un := ⟨_, rfl⟩
  obtain ⟨df, hdf⟩ : ∃ n, n = data.fi := ⟨_, rfl⟩
  obtain ⟨dl, hdl⟩ : ∃ n, n = data.la := ⟨_, rfl⟩
  obtain ⟨it, hit⟩ : ∃ n, n = init.tag := ⟨_, rfl⟩
  obtain ⟨ir, hir⟩ : ∃ n, n = init.rwnd := ⟨_, rfl⟩
  obtain ⟨io, hio⟩ : ∃ n, n = init.out := ⟨_, rfl⟩
  obtain ⟨ii, hii⟩ : ∃ n, n = init.in_ := ⟨_, rfl⟩
  obtain ⟨is_, his⟩ : ∃ n, n = init.tsn := ⟨_, rfl⟩
  obtain ⟨sc, hsc⟩ : ∃ n, n = sack.cum := ⟨_, rfl⟩
  obtain ⟨sr, hsr⟩ : ∃ n, n = sack.rwnd := ⟨_, rfl⟩
  obtain ⟨fc, hfc⟩ : ∃ n, n = fwd.cum := ⟨_, rfl⟩
  have HNI := hid (show init.ck.length = ni from hni.symm)
  have HND := hid (show data.b.length = nd from hnd.symm)
  have HNG := hid (show sack.gaps.length = ng from hng.symm)
  have HNU := hid (show sack.dups.length = nu from hnu.symm)
  have HNF := hid (show fwd.skips.length = nf from hnf.symm)
  have HIT := hid hit
  have HIO := hid hio
  have HII := hid hii
  simp only at *
  simp only [← hnd, ← hni, ← hng, ← hnu, ← hnf, ← hdt, ← hds, ← hdn, ← hdu, ← hdf, ← hdl, ← hit, ← hir, ← hio, ← hii, ← his, ← hsc, ← hsr, ← hfc] at hcs HD HI HS HF l1 l2 l3 l4 l5
  obtain ⟨cs, rfl⟩ : ∃ cs, v = .agg cs := by
    cases v <;> simp at hcs
    exact ⟨_, rfl⟩
  simp only at hcs
  obtain rfl : cs = #[.bool ack, .int .u32 (dt : Int), .int .u16 (ds : Int), .int .u16 (dn : Int), .bool du, .bool df, .bool dl, .slice pd nd cd, .int .u32 (it : Int), .int .u32 (ir : Int), .int .u16 (io : Int), .int .u16 (ii : Int), .int .u32 (is_ : Int), .slice pi ni ci, .int .u32 (sc : Int), .int .u32 (sr : Int), .slice pg ng cg, .slice pu nu cu, .int .u32 (fc : Int), .slice pf nf cf, .int .i64 at_, .int .u32 (cum : Int)] := by cases cs; simp at hcs; subst hcs; rfl
  clear hcs hnd hni hng hnu hnf hdt hds hdn hdu hdf hdl hit hir hio hii his hsc hsr hfc
  obtain ⟨W, hW⟩ : ∃ W, W = w.alloc (.cells #[.bool ack, .int .u32 (dt : Int), .int .u16 (ds : Int), .int .u16 (dn : Int), .bool du, .bool df, .bool dl, .slice pd nd cd, .int .u32 (it : Int), .int .u32 (ir : Int), .int .u16 (io : Int), .int .u16 (ii : Int), .int .u32 (is_ : Int), .slice pi ni ci, .int .u32 (sc : Int), .int .u32 (sr : Int), .slice pg ng cg, .slice pu nu cu, .int .u32 (fc : Int), .slice pf nf cf, .int .i64 at_, .int .u32 (cum : Int)] 72 (0, 0)) := ⟨_, rfl⟩
  have HR := hid (show RowV W w.heap.size 72 [.bool ack, .int .u32 (dt : Int), .int .u16 (ds : Int), .int .u16 (dn : Int), .bool du, .bool df, .bool dl, .slice pd nd cd, .int .u32 (it : Int), .int .u32 (ir : Int), .int .u16 (io : Int), .int .u16 (ii : Int), .int .u32 (is_ : Int), .slice pi ni ci, .int .u32 (sc : Int), .int .u32 (sr : Int), .slice pg ng cg, .slice pu nu cu, .int .u32 (fc : Int), .slice pf nf cf, .int .i64 at_, .int .u32 (cum : Int)] by rw [hW]; exact RowV.new w 72 _)
  have G0 := hid (show Below w.heap.size w W by rw [hW]; exact (Below.refl _ _).alloc (Nat.le_refl _) _)
  obtain ⟨c0, c1, c2, c3, c4, c5, c6, c7, c8, c9, c10, c11, c12, c13, c14, c15, c16, c17, c18, c19, c20, c21, -⟩ := rowAll HR.out
  rw [hW] at c0 c1 c2 c3 c4 c5 c6 c7 c8 c9 c10 c11 c12 c13 c14 c15 c16 c17 c18 c19 c20 c21
  have HE := hid hW
  clear hW
  have hflb := byte_lt fl
  go_enter Try.func11, Try.ntmps11
  go_wp2_with fail
  rw [← HE.out]
  refine (many_any _ _ sack fwd _ (HS.out.mono G0.out) (HF.out.mono G0.out)).mono ?_
  rw [HNG.out, HNU.out, HNF.out]
  rintro e w1 ⟨rfl, hb1⟩
  have HR1 := hid (HR.out.mono hb1)
  have G1 := hid (gr_trans G0.out hb1)
  clear hb1 c0 c1 c2 c3 c4 c5 c6 c7 c8 c9 c10 c11 c12 c13 c14 c15 c16 c17 c18 c19 c20 c21
  obtain ⟨c0, c1, c2, c3, c4, c5, c6, c7, c8, c9, c10, c11, c12, c13, c14, c15, c16, c17, c18, c19, c20, c21, -⟩ := rowAll HR1.out
  by_cases hm : 2048 < ng ∨ 2048 < nu ∨ 2048 < nf
  · rw [decide_eq_true hm]
    go_wp2_with fail
    refine (works_any _).mono ?_
    rintro e w2 ⟨rfl, hb2⟩
    go_wp2_with fail
    go_ret
    exact ⟨rfl, gr_trans G1.out hb2⟩
  · rw [decide_eq_false hm]
    have hng : ng ≤ 2048 := by omega
    have hnu : nu ≤ 2048 := by omega
    have hnf : nf ≤ 2048 := by omega
    clear hm
    by_cases h1 : 8192 < ni
    · have e1 : (8192 : Int) < (ni : Int) := by omega
      go_wp2_with fail
      refine (works_any _).mono ?_
      rintro e w2 ⟨rfl, hb2⟩
      go_wp2_with fail
      go_ret
      exact ⟨rfl, gr_trans G1.out hb2⟩
    · have e1 : ¬ (8192 : Int) < (ni : Int) := by omega
      by_cases h2 : 8192 < nd
      · have e2 : (8192 : Int) < (nd : Int) := by omega
        go_wp2_with fail
        refine (works_any _).mono ?_
        rintro e w2 ⟨rfl, hb2⟩
        go_wp2_with fail
        go_ret
        exact ⟨rfl, gr_trans G1.out hb2⟩
      · have e2 : ¬ (8192 : Int) < (nd : Int) := by omega
        obtain ⟨q0, hc0⟩ : ∃ c, init.chk 2 = c := ⟨_, rfl⟩
        obtain ⟨q1, hc1⟩ : ∃ c, sack.chk = c := ⟨_, rfl⟩
        obtain ⟨q2, hc2⟩ : ∃ c, fwd.chk = c := ⟨_, rfl⟩
        obtain ⟨q3, hc3⟩ : ∃ c, timeChk 4 at_ = c := ⟨_, rfl⟩
        obtain ⟨q4, hc4⟩ : ∃ c, cumChk cum = c := ⟨_, rfl⟩
        have HC0 := hid hc0.symm
        have HC1 := hid hc1.symm
        have HC2 := hid hc2.symm
        have HC3 := hid hc3.symm
        have HC4 := hid hc4.symm
        have HLW := hid (five_getElem (P := CutLaw) (hc0 ▸ cutLaw_init init (by rw [HNI.out]; omega)) (hc1 ▸ cutLaw_sack sack (by rw [HNG.out]; omega) (by rw [HNU.out]; omega)) (hc2 ▸ cutLaw_fwd fwd HWF.out (by rw [HNF.out]; omega)) (hc3 ▸ cutLaw_time at_) (hc4 ▸ cutLaw_cum cum))
        clear hc0 hc1 hc2 hc3 hc4
        have C0 := hid c0
        have C1 := hid c1
        have C2 := hid c2
        have C3 := hid c3
        have C4 := hid c4
        have C5 := hid c5
        have C6 := hid c6
        have C7 := hid c7
        have C8 := hid c8
        have C9 := hid c9
        have C10 := hid c10
        have C11 := hid c11
        have C12 := hid c12
        have C13 := hid c13
        have C14 := hid c14
        have C15 := hid c15
        have C16 := hid c16
        have C17 := hid c17
        have C18 := hid c18
        have C19 := hid c19
        have C20 := hid c20
        have C21 := hid c21
        go_wp2_with fail
        clear c0 c1 c2 c3 c4 c5 c6 c7 c8 c9 c10 c11 c12 c13 c14 c15 c16 c17 c18 c19 c20 c21
        refine wp_region_gr [Is (.pointer (some ⟨w.heap.size, 8, none⟩)), Is (.agg #[.int .u32 (it : Int), .int .u32 (ir : Int), .int .u16 (io : Int), .int .u16 (ii : Int), .int .u32 (is_ : Int), .slice pi ni ci]), ChkF q0, Is (.pointer (some ⟨w.heap.size, 14, none⟩)), Is (.agg #[.int .u32 (sc : Int), .int .u32 (sr : Int), .slice pg ng cg, .slice pu nu cu]), ChkF q1, Is (.pointer (some ⟨w.heap.size, 18, none⟩)), Is (.agg #[.int .u32 (fc : Int), .slice pf nf cf]), ChkF q2, Is (.pointer (some ⟨w.heap.size, 20, none⟩)), Is (.int .i64 at_), ChkF q3, Is (.pointer (some ⟨w.heap.size, 21, none⟩)), Is (.int .u32 (cum : Int)), ChkF q4, L5F [q0, q1, q2, q3, q4], L5F [q0, q1, q2, q3, q4]] (by kernel_rfl) (by kernel_rfl) (by kernel_rfl) ?_ ?_ ?_
        · simp only [StabAll, Is.gr, RdF.gr, OwnF.gr, AnyF.gr, ChkF.gr, L5F.gr, and_self]
        · rename_i Kk hKk; clear hKk Kk
          simp only [AllOps, List.map_cons, List.map_nil, depsOf, List.filterMap_cons, List.filterMap_nil, Region.binds, depFacts, guardF, reduceIte, List.getD_eq_getElem?_getD, List.getElem?_cons_succ, List.getElem?_cons_zero, Option.getD_some, factAt, and_true]
          refine ⟨?_, ?_, ?_, ?_, ?_, ?_, ?_, ?_, ?_, ?_, ?_, ?_, ?_, ?_, ?_, ?_, ?_⟩
          all_goals intro ρ wv hρ hR hd
          all_goals try simp only [Is] at hd
          · exact opOk_val (v := .pointer (some ⟨w.heap.size, 8, none⟩)) (w' := wv) (by simp [execOp, go_sem, hρ.1.const, hρ.1.func, hd, (hρ.2 3 rfl)]) ⟨rfl, GrR.refl _⟩
          · (have h8 := cell?_of_below hR C8.out; have h9 := cell?_of_below hR C9.out; have h10 := cell?_of_below hR C10.out; have h11 := cell?_of_below hR C11.out; have h12 := cell?_of_below hR C12.out; have h13 := cell?_of_below hR C13.out; exact opOk_val (v := .agg #[.int .u32 (it : Int), .int .u32 (ir : Int), .int .u16 (io : Int), .int .u16 (ii : Int), .int .u32 (is_ : Int), .slice pi ni ci]) (w' := wv) (by simp [execOp, go_sem, hd, h8, h9, h10, h11, h12, h13]) ⟨rfl, GrR.refl _⟩)
          · exact opOk_call hρ.1 rfl rfl Try.func42 (by kernel_rfl) rfl (by simp [hd, hρ.1.const, hρ.1.func]) ((putInit_any 2 _ init HWI.out wv ((HI.out.mono G1.out).mono hR) (by rw [HNI.out]; omega)).mono fun e w' ⟨s, h1, h2, h3⟩ => ⟨_, h1, (by rw [HC0.out]; exact ⟨s, rfl, h2.rd⟩), h3⟩)
          · exact opOk_val (v := .pointer (some ⟨w.heap.size, 14, none⟩)) (w' := wv) (by simp [execOp, go_sem, hρ.1.const, hρ.1.func, hd, (hρ.2 3 rfl)]) ⟨rfl, GrR.refl _⟩
          · (have h14 := cell?_of_below hR C14.out; have h15 := cell?_of_below hR C15.out; have h16 := cell?_of_below hR C16.out; have h17 := cell?_of_below hR C17.out; exact opOk_val (v := .agg #[.int .u32 (sc : Int), .int .u32 (sr : Int), .slice pg ng cg, .slice pu nu cu]) (w' := wv) (by simp [execOp, go_sem, hd, h14, h15, h16, h17]) ⟨rfl, GrR.refl _⟩)
          · exact opOk_call hρ.1 rfl rfl Try.func24 (by kernel_rfl) rfl (by simp [hd, hρ.1.const, hρ.1.func]) ((putSack_any _ sack HWS.out wv ((HS.out.mono G1.out).mono hR) (by rw [HNG.out]; omega) (by rw [HNU.out]; omega)).mono fun e w' ⟨s, h1, h2, h3⟩ => ⟨_, h1, (by rw [HC1.out]; exact ⟨s, rfl, h2.rd⟩), h3⟩)
          · exact opOk_val (v := .pointer (some ⟨w.heap.size, 18, none⟩)) (w' := wv) (by simp [execOp, go_sem, hρ.1.const, hρ.1.func, hd, (hρ.2 3 rfl)]) ⟨rfl, GrR.refl _⟩
          · (have h18 := cell?_of_below hR C18.out; have h19 := cell?_of_below hR C19.out; exact opOk_val (v := .agg #[.int .u32 (fc : Int), .slice pf nf cf]) (w' := wv) (by simp [execOp, go_sem, hd, h18, h19]) ⟨rfl, GrR.refl _⟩)
          · exact opOk_call hρ.1 rfl rfl Try.func29 (by kernel_rfl) rfl (by simp [hd, hρ.1.const, hρ.1.func]) ((putFwd_any _ fwd HWF.out wv ((HF.out.mono G1.out).mono hR) (by rw [HNF.out]; omega)).mono fun e w' ⟨s, h1, h2, h3⟩ => ⟨_, h1, (by rw [HC2.out]; exact ⟨s, rfl, h2.rd⟩), h3⟩)
          · exact opOk_val (v := .pointer (some ⟨w.heap.size, 20, none⟩)) (w' := wv) (by simp [execOp, go_sem, hρ.1.const, hρ.1.func, hd, (hρ.2 3 rfl)]) ⟨rfl, GrR.refl _⟩
          · (have h20 := cell?_of_below hR C20.out; exact opOk_val (v := .int .i64 at_) (w' := wv) (by simp [execOp, go_sem, hd, h20]) ⟨rfl, GrR.refl _⟩)
          · exact opOk_call hρ.1 rfl rfl Try.func38 (by kernel_rfl) rfl (by simp [hd, hρ.1.const, hρ.1.func]) ((putTime_any 4 at_ wv).mono fun e w' ⟨s, h1, h2, h3⟩ => ⟨_, h1, (by rw [HC3.out]; exact ⟨s, rfl, h2.rd⟩), h3⟩)
          · exact opOk_val (v := .pointer (some ⟨w.heap.size, 21, none⟩)) (w' := wv) (by simp [execOp, go_sem, hρ.1.const, hρ.1.func, hd, (hρ.2 3 rfl)]) ⟨rfl, GrR.refl _⟩
          · (have h21 := cell?_of_below hR C21.out; exact opOk_val (v := .int .u32 (cum : Int)) (w' := wv) (by simp [execOp, go_sem, hd, h21]) ⟨rfl, GrR.refl _⟩)
          · exact opOk_call hρ.1 rfl rfl Try.func40 (by kernel_rfl) rfl (by simp [hd, hρ.1.const, hρ.1.func]) ((putCum_any cum HCM.out wv).mono fun e w' ⟨s, h1, h2, h3⟩ => ⟨_, h1, (by rw [HC4.out]; exact ⟨s, rfl, h2.rd⟩), h3⟩)
          · (obtain ⟨⟨s0, e0, r0⟩, ⟨s1, e1, r1⟩, ⟨s2, e2, r2⟩, ⟨s3, e3, r3⟩, ⟨s4, e4, r4⟩⟩ := hd; have GA : Below wv.heap.size wv (wv.alloc (.cells #[.int .u8 (q0.k.toNat : Int), .int .u8 (q0.f.toNat : Int), s0, .int .u8 (q1.k.toNat : Int), .int .u8 (q1.f.toNat : Int), s1, .int .u8 (q2.k.toNat : Int), .int .u8 (q2.f.toNat : Int), s2, .int .u8 (q3.k.toNat : Int), .int .u8 (q3.f.toNat : Int), s3, .int .u8 (q4.k.toNat : Int), .int .u8 (q4.f.toNat : Int), s4] 28 (0, 0))) := (Below.refl _ _).alloc (Nat.le_refl _) _; exact opOk_val (v := .slice (some ⟨wv.heap.size, 0, none⟩) 5 5) (w' := wv.alloc (.cells #[.int .u8 (q0.k.toNat : Int), .int .u8 (q0.f.toNat : Int), s0, .int .u8 (q1.k.toNat : Int), .int .u8 (q1.f.toNat : Int), s1, .int .u8 (q2.k.toNat : Int), .int .u8 (q2.f.toNat : Int), s2, .int .u8 (q3.k.toNat : Int), .int .u8 (q3.f.toNat : Int), s3, .int .u8 (q4.k.toNat : Int), .int .u8 (q4.f.toNat : Int), s4] 28 (0, 0))) (by simp [execOp, go_sem, hρ.1.const, e0, e1, e2, e3, e4]) ⟨⟨wv.heap.size, rfl, RdC.five (RowV.new wv 28 _) (r0.mono GA) (r1.mono GA) (r2.mono GA) (r3.mono GA) (r4.mono GA)⟩, GA⟩)
          · exact opOk_move (.inr rfl) ⟨(by first | exact hd | exact hd.1), GrR.refl _⟩
        · intro vals wv hR hall
          have h16 := hall 16 (by simp)
          simp only [factAt, List.getD_eq_getElem?_getD, List.getElem?_cons_succ, List.getElem?_cons_zero, Option.getD_some] at h16
          clear hall
          obtain ⟨g, hv16, hrc⟩ := h16
          simp only [fillFrom, Act.put, hv16, List.setIfInBounds_toArray, List.set_cons_zero, List.set_cons_succ]
          rename_i Kk hKk
          refine hKk _ _ ?_
          clear hKk Kk hv16
          obtain ⟨w3, hw3⟩ : ∃ x, x = wv := ⟨_, rfl⟩
          subst hw3
          have HL5 := hid hrc
          obtain ⟨cs, hcs⟩ : ∃ l, l = [q0, q1, q2, q3, q4] := ⟨_, rfl⟩
          have HCL := hid (show cs.length = 5 by rw [hcs]; rfl)
          rw [← hcs] at HL5
          have HLW2 := hid (show ∀ j (h : j < cs.length), CutLaw cs[j] by rw [hcs]; exact HLW.out)
          have G3 := hid (gr_trans G1.out hR)
          have HR3 := hid (HR1.out.mono hR)
          clear hR hrc HLW hcs C0 C1 C2 C3 C4 C5 C6 C7 C8 C9 C10 C11 C12 C13 C14 C15 C16 C17 C18 C19 C20 C21 HC0 HC1 HC2 HC3 HC4
          go_wp2_with fail
          go_loopw [8, 9, 10, 11, 12, 13, 14, 15, 16, 17] (fun y _ _ _ _ _ _ _ _ _ wr => ∃ (i : Nat), i ≤ 5 ∧ y = .int .i64 (i : Int) ∧ Hid (Below w3.heap.size w3 wr)) (fun y _ _ _ _ _ _ _ _ _ _ => 5 - (intOf y).toNat)
          case atStart => exact ⟨0, by omega, rfl, hid (Below.refl _ _)⟩
          case round =>
            obtain ⟨i, hi, rfl, HB⟩ := hrel
            by_cases hlt : i < 5
            · have hlt2 : i < cs.length := by rw [HCL.out]; exact hlt
              obtain ⟨p, m0, c, d0, d1, d2, hrd⟩ := (HL5.out.mono HB.out) i hlt2
              have hlw := HLW2.out i hlt2
              generalize cs[i] = cx at d0 d1 d2 hrd hlw
              obtain ⟨kc, fc, bc⟩ := cx
              obtain ⟨hf, hk0, h4, hl, hcut⟩ := hlw
              simp only at hf hk0 h4 hl d0 d1 d2 hrd hcut
              subst hf
              have d1' : wr.cell? ⟨g, i * 3 + 1, none⟩ = some (.int .u8 0) := d1
              clear d1
              have HRD := hid hrd
              obtain ⟨p', c', hsl, hlc, hcm, hpn, -⟩ := hrd
              simp only [Value.slice.injEq] at hsl
              obtain ⟨rfl, rfl, rfl⟩ := hsl
              unfold maxLen at hcm
              obtain ⟨nn, hnn⟩ : ∃ n, n = bc.length := ⟨_, rfl⟩
              rw [← hnn] at d2 HRD hlc h4 hl hcut
              have HNN := hid hnn.symm
              have HK := hid hk0
              have HL := hid (show bc.length ≤ 1000000 by rw [← hnn]; exact hl)
              have i0 : (0 : Int) ≤ (i : Int) := by omega
              have i1 : (i : Int) < 5 := by omega
              have i2 : ((i : Int)).toNat = i := by omega
              obtain ⟨n1, hn1⟩ : ∃ n, n = nn + 1 := ⟨_, rfl⟩
              obtain ⟨k, hk⟩ : ∃ k, k = ct % n1 := ⟨_, rfl⟩
              have hkn : k ≤ nn := by
                have := Nat.mod_lt ct (show 0 < n1 by omega)
                omega
              have a1 : IntKind.i64.wrap (ct : Int) = (ct : Int) := by rw [IntKind.wrap_i64]; have := HCT.out; omega
              have a2 : IntKind.i64.wrap ((nn : Int) + 1) = (n1 : Int) := by rw [IntKind.wrap_i64]; omega
              have a3 : (ct : Int).tmod (n1 : Int) = (k : Int) := by rw [Int.tmod_eq_emod_of_nonneg (by omega), hk]; rfl
              have a4 : IntKind.i64.wrap (k : Int) = (k : Int) := by rw [IntKind.wrap_i64]; omega
              have a5 : ((n1 : Int) == 0) = false := by simp; omega
              have a6 : ¬ (n1 : Int) = 0 := by omega
              have HSL := hid (show ∀ wx, (Instr.slice 24 (.slice p nn c) none (some (.int .i64 (k : Int))) none).run Try.prog wx = .ok (.slice p k c) wx from fun wx => run_slice_to (P := Try.prog) 24 5 Try.underlying24 p nn c k (by omega) (by omega) .i64 (by kernel_rfl) wx)
              have HCUT := hid (hcut k hkn)
              have HTK := hid (show Rd wr (.slice p k c) (bc.take k) from HRD.out.take k (by rw [← hnn]; exact hkn))
              have HTL := hid (show (cutC ⟨kc, 0, bc⟩ k).b.length ≤ 1000000 by
                show (bc.take k).length ≤ _
                rw [List.length_take]
                have := HL.out
                omega)
              have hkb := byte_lt kc
              obtain ⟨nv, hnv⟩ : ∃ h : Int, ((gotN ⟨kc, 0, bc⟩ : Nat) : Int) = h := ⟨_, rfl⟩
              have HN := hid hnv
              obtain ⟨mv, hmv⟩ : ∃ h : Int, ((gotN (cutC ⟨kc, 0, bc⟩ k) : Nat) : Int) = h := ⟨_, rfl⟩
              have HM := hid hmv
              have HN01 := hid (show nv = 0 ∨ nv = 1 by
                have := (gotN_law ⟨kc, 0, bc⟩).1
                omega)
              obtain ⟨W5, hW5⟩ : ∃ W5, W5 = wr.alloc (.cells #[.int .u8 (kc.toNat : Int), .int .u8 0, .slice p nn c] 28 (0, 0)) := ⟨_, rfl⟩
              have g5 : Below wr.heap.size wr W5 := by rw [hW5]; exact (Below.refl _ _).alloc (Nat.le_refl _) _
              have HV5 := hid (show RowV W5 wr.heap.size 28 [.int .u8 (kc.toNat : Int), .int .u8 0, .slice p nn c] by rw [hW5]; exact RowV.new wr 28 _)
              have HB5 := hid (gr_trans HB.out g5)
              have HE5 := hid hW5
              have HRD5 := hid (HRD.out.mono g5)
              have HTK5 := hid (HTK.out.mono g5)
              clear hnn hk0 hl hcut hn1 hk hnv hmv hW5 g5 HRD HTK
              go_wp2_with fail
              rw [← HE5.out]
              clear d0 d1' d2
              refine (got_any _ ⟨kc, 0, bc⟩ _ ⟨_, rfl, HRD5.out⟩ HL.out).mono ?_
              rintro e w6 ⟨rfl, hb6⟩
              rw [HN.out]
              have HV6 := hid (HV5.out.mono hb6)
              have HB6 := hid (gr_trans HB5.out hb6)
              have HRD6 := hid (HRD5.out.mono hb6)
              have HTK6 := hid (HTK5.out.mono hb6)
              clear hb6 HE5 HV5 HB5 HRD5 HTK5
              obtain ⟨k0, k1, k2⟩ := HV6.out.three
              have K0 := hid k0
              have K2 := hid k2
              go_wp2_with fail
              clear k0 k1 k2
              refine wp_region_gr [Is (.pointer (some ⟨wr.heap.size, 0, none⟩)), Is (.int .u8 (kc.toNat : Int)), Is (.pointer (some ⟨wr.heap.size, 2, none⟩)), Is (.slice p nn c), Is (.int .i64 (k : Int)), Is (.slice p k c), Is (.agg #[.int .u8 (kc.toNat : Int), .int .u8 0, .slice p k c]), Is (.tuple #[.int .i64 mv, .bool true]), Is (.tuple #[.int .i64 mv, .bool true]), Is (.int .i64 mv), Is (.bool true), Is (.int .i64 mv), Is (.bool true)] (by kernel_rfl) (by kernel_rfl) (by kernel_rfl) ?_ ?_ ?_
              · simp only [StabAll, Is.gr, RdF.gr, OwnF.gr, AnyF.gr, and_self]
              · rename_i Kk hKk; clear hKk Kk
                simp only [AllOps, List.map_cons, List.map_nil, depsOf, List.filterMap_cons, List.filterMap_nil, Region.binds, depFacts, guardF, reduceIte, List.getD_eq_getElem?_getD, List.getElem?_cons_succ, List.getElem?_cons_zero, Option.getD_some, factAt, and_true]
                refine ⟨?_, ?_, ?_, ?_, ?_, ?_, ?_, ?_, ?_, ?_, ?_, ?_, ?_⟩
                all_goals intro ρ wv hρ hR hd
                all_goals try simp only [Is] at hd
                · exact opOk_val (v := .pointer (some ⟨wr.heap.size, 0, none⟩)) (w' := wv) (by simp [execOp, go_sem, hρ.1.const, hρ.1.func, hd, (hρ.2 9 rfl)]) ⟨rfl, GrR.refl _⟩
                · (have h0 := cell?_of_below hR K0.out; exact opOk_val (v := .int .u8 (kc.toNat : Int)) (w' := wv) (by simp [execOp, go_sem, hd, h0]) ⟨rfl, GrR.refl _⟩)
                · exact opOk_val (v := .pointer (some ⟨wr.heap.size, 2, none⟩)) (w' := wv) (by simp [execOp, go_sem, hρ.1.const, hρ.1.func, hd, (hρ.2 9 rfl)]) ⟨rfl, GrR.refl _⟩
                · (have h0 := cell?_of_below hR K2.out; exact opOk_val (v := .slice p nn c) (w' := wv) (by simp [execOp, go_sem, hd, h0]) ⟨rfl, GrR.refl _⟩)
                · exact opOk_move (.inl rfl) ⟨by simp only [Is]; (first | exact hρ.2 12 rfl | exact hd | exact hd.1 | exact hd.2 | simp [hd]), GrR.refl _⟩
                · exact opOk_val (v := .slice p k c) (w' := wv) (by simp [execOp, go_sem, hρ.1.const, hρ.1.func, hd, Try.underlying24, HSL.out]) ⟨rfl, GrR.refl _⟩
                · exact opOk_val (v := .agg #[.int .u8 (kc.toNat : Int), .int .u8 0, .slice p k c]) (w' := wv) (by simp [execOp, go_sem, hρ.1.const, hρ.1.func, hd]) ⟨rfl, GrR.refl _⟩
                · exact opOk_call hρ.1 rfl rfl Try.func47 (by kernel_rfl) rfl (by simp [hd, hρ.1.const, hρ.1.func]) ((got_any (.agg #[.int .u8 (kc.toNat : Int), .int .u8 0, .slice p k c]) (cutC ⟨kc, 0, bc⟩ k) wv ⟨_, rfl, HTK6.out.mono hR⟩ HTL.out).mono fun e w' ⟨h1, h2⟩ => ⟨_, h1, by rw [HM.out]; rfl, h2⟩)
                · exact opOk_move (.inl rfl) ⟨by simp only [Is]; (first | exact hρ.2 88 rfl | exact hd | exact hd.1 | exact hd.2 | simp [hd]), GrR.refl _⟩
                · exact opOk_val (v := .int .i64 mv) (w' := wv) (by simp [execOp, go_sem, hρ.1.const, hρ.1.func, hd]) ⟨rfl, GrR.refl _⟩
                · exact opOk_val (v := .bool true) (w' := wv) (by simp [execOp, go_sem, hρ.1.const, hρ.1.func, hd]) ⟨rfl, GrR.refl _⟩
                · exact opOk_move (.inr rfl) ⟨by simp only [Is]; (first | exact hρ.2 89 rfl | exact hd | exact hd.1 | exact hd.2 | simp [hd]), GrR.refl _⟩
                · exact opOk_move (.inr rfl) ⟨by simp only [Is]; (first | exact hρ.2 90 rfl | exact hd | exact hd.1 | exact hd.2 | simp [hd]), GrR.refl _⟩
              · intro vals wv hR hall
                have h11 := hall 11 (by simp)
                have h12 := hall 12 (by simp)
                simp only [factAt, Is, List.getD_eq_getElem?_getD, List.getElem?_cons_succ, List.getElem?_cons_zero, Option.getD_some] at h11 h12
                clear hall
                simp only [fillFrom, Act.put, h11, h12, List.setIfInBounds_toArray, List.set_cons_zero, List.set_cons_succ]
                rename_i Kk hKk
                refine hKk _ _ ?_
                clear hKk Kk h11 h12
                obtain ⟨w10, hw10⟩ : ∃ x, x = wv := ⟨_, rfl⟩
                subst hw10
                have HV10 := hid (HV6.out.mono hR)
                have HB10 := hid (gr_trans HB6.out hR)
                have HRD10 := hid (HRD6.out.mono hR)
                clear hR K0 K2 HV6 HB6 HRD6 HTK6
                obtain ⟨l0, l1, l2⟩ := HV10.out.three
                have L0 := hid l0
                have L2 := hid l2
                obtain ⟨bk, hbk⟩ : ∃ b, ((k : Int) == (nn : Int)) = b := ⟨_, rfl⟩
                go_upto_if 98 with fail
                have HBK := hid hbk
                clear hbk
                go_cut [15] from 58 to 144 (fun s15 wx => s15 = .bool (wh ⟨kc, 0, bc⟩ k) ∧ w10 = wx)
                case first =>
                  by_cases e192 : kc = 192
                  · have f1 : ((kc.toNat : Int) == 192) = true := by rw [e192]; rfl
                    by_cases q4 : 4 ≤ k
                    · have f2 : decide ((4 : Int) ≤ (k : Int)) = true := decide_eq_true (by omega)
                      have f2' : (4 : Int) ≤ (k : Int) := by omega
                      have f3 : (k : Int).tmod 4 = ((k % 4 : Nat) : Int) := by rw [Int.tmod_eq_emod_of_nonneg (by omega)]; omega
                      obtain ⟨km, hkm⟩ : ∃ n, n = k % 4 := ⟨_, rfl⟩
                      rw [← hkm] at f3
                      have f4 : IntKind.i64.wrap (km : Int) = (km : Int) := by rw [IntKind.wrap_i64]; omega
                      by_cases qm : km = 0
                      · have f5 : ((km : Int) == 0) = true := by rw [qm]; rfl
                        have HWH := hid (show wh ⟨kc, 0, bc⟩ k = true from by simp [wh, wholeF, e192, q4]; omega)
                        clear e192 q4 qm hkm
                        go_wp2_with fail
                        go_meet
                        exact ⟨by rw [HWH.out], rfl⟩
                      · have f5 : ((km : Int) == 0) = false := by simp; omega
                        have HWH := hid (show wh ⟨kc, 0, bc⟩ k = false from by simp [wh, wholeF, e192, q4]; omega)
                        clear e192 q4 qm hkm
                        go_wp2_with fail
                        go_meet
                        exact ⟨by rw [HWH.out], rfl⟩
                    · have f2 : decide ((4 : Int) ≤ (k : Int)) = false := decide_eq_false (by omega)
                      have f2' : ¬ (4 : Int) ≤ (k : Int) := by omega
                      have HWH := hid (show wh ⟨kc, 0, bc⟩ k = false from by simp [wh, wholeF, e192, q4])
                      clear e192 q4
                      go_wp2_with fail
                      go_meet
                      exact ⟨by rw [HWH.out], rfl⟩
                  · have f1 : ((kc.toNat : Int) == 192) = false := by
                      have : ¬ kc.toNat = 192 := fun h => e192 (UInt8.toNat_inj.1 h)
                      simp
                      omega
                    have HWH := hid (show wh ⟨kc, 0, bc⟩ k = bk from by rw [wh, if_neg e192, ← HBK.out, HNN.out]; by_cases q : k = nn <;> simp [q] <;> omega)
                    clear e192
                    go_wp2_with fail
                    go_meet
                    exact ⟨by rw [HWH.out], rfl⟩
                case rest =>
                  obtain ⟨rfl, rfl⟩ := hcut
                  obtain ⟨bw, hbw⟩ : ∃ b, b = wh ⟨kc, 0, bc⟩ k := ⟨_, rfl⟩
                  rw [← hbw]
                  have HBW := hid hbw.symm
                  clear hbw
                  go_upto_region 14 with fail
                  go_cut [119] from 58 to 144 (fun s119 wx => s119 = .bool false ∧ w10 = wx)
                  case first =>
                    cases bw
                    case true =>
                      have hmv : mv = nv := by
                        have h9 := HCUT.out
                        rw [show wh ⟨kc, 0, bc⟩ k = true from HBW.out] at h9
                        rw [← HM.out, h9]
                        simp only [if_true]
                        exact HN.out
                      subst hmv
                      rcases HN01.out with hn | hn
                      · subst hn
                        go_wp2_with fail
                        go_meet
                        exact ⟨rfl, rfl⟩
                      · subst hn
                        go_wp2_with fail
                        go_meet
                        exact ⟨rfl, rfl⟩
                    case false =>
                      have hmv : mv = 0 := by
                        have h9 := HCUT.out
                        rw [show wh ⟨kc, 0, bc⟩ k = false from HBW.out] at h9
                        rw [← HM.out, h9]
                        simp
                      subst hmv
                      go_wp2_with fail
                      go_meet
                      exact ⟨rfl, rfl⟩
                  case rest =>
                    obtain ⟨rfl, rfl⟩ := hcut
                    obtain ⟨hv, hhv⟩ : ∃ h : Int, ((gotN ⟨kc, fl, bc⟩ : Nat) : Int) = h := ⟨_, rfl⟩
                    have HH := hid hhv
                    clear hhv
                    go_wp2_with fail
                    clear l0 l1 l2
                    refine (got_any _ ⟨kc, fl, bc⟩ _ ⟨_, rfl, HRD10.out⟩ HL.out).mono ?_
                    rintro e w16 ⟨rfl, hb16⟩
                    rw [HH.out]
                    have HB16 := hid (gr_trans HB10.out hb16)
                    clear hb16
                    go_upto_region 17 with fail
                    go_cut [144] from 58 to 144 (fun s144 wx => s144 = .bool false ∧ w16 = wx)
                    case first =>
                      by_cases hf : fl = 0
                      · have z0 : ((fl.toNat : Int) == 0) = true := by rw [hf]; rfl
                        have z1 : ((fl.toNat : Int) != 0) = false := by rw [hf]; rfl
                        have hhv : hv = nv := by
                          have h9 := flag_law ⟨kc, 0, bc⟩ rfl HK.out fl
                          rw [if_pos hf] at h9
                          rw [← HH.out, ← HN.out]
                          exact congrArg _ h9
                        subst hhv
                        clear hf
                        go_wp2_with fail
                        go_meet
                        exact ⟨by simp, rfl⟩
                      · have hz : fl.toNat ≠ 0 := fun h => hf (UInt8.toNat_inj.1 h)
                        have z0 : ((fl.toNat : Int) == 0) = false := by simp; omega
                        have z1 : ((fl.toNat : Int) != 0) = true := by simp; omega
                        have hhv : hv = 0 := by
                          have h9 := flag_law ⟨kc, 0, bc⟩ rfl HK.out fl
                          rw [if_neg hf] at h9
                          rw [← HH.out]
                          exact congrArg _ h9
                        subst hhv
                        clear hf hz
                        go_wp2_with fail
                        go_meet
                        exact ⟨rfl, rfl⟩
                    case rest =>
                      obtain ⟨rfl, rfl⟩ := hcut
                      go_wp2_with fail
                      go_roundw
                      case rel => (repeat apply Exists.intro); exact ⟨⟨i + 1, by omega, by go_num, HB16⟩, rfl⟩
                      case measure => simp [intOf]; omega
            · obtain rfl : i = 5 := by omega
              have e5 : ¬ ((5 : Nat) : Int) < 5 := by omega
              have HR4 := hid (HR3.out.mono HB.out)
              have G4 := hid (gr_trans G3.out HB.out)
              have HD4 := hid (HD.out.mono G4.out)
              obtain ⟨-, c1, c2, c3, c4, c5, c6, c7, -, -, -, -, -, -, -, -, -, -, -, -, -, -, -⟩ := rowAll HR4.out
              go_wp2_with fail
              refine (putData_any _ data HWD.out _ HD4.out (by rw [HND.out]; omega)).mono ?_
              rintro e w6 ⟨s6, rfl, ho6, hb6⟩
              obtain ⟨p, c, hs6, hlc, hcm, -, -⟩ := ho6.rd
              unfold maxLen at hcm
              subst hs6
              have HRD := hid ho6.rd
              obtain ⟨fv, hfv⟩ : ∃ f : Int, ((data.chk.f.toNat : Nat) : Int) = f := ⟨_, rfl⟩
              obtain ⟨bd, hbd⟩ : ∃ b, b = data.chk.b := ⟨_, rfl⟩
              have hbl : bd.length = 12 + nd := by rw [hbd]; show data.body.length = _; rw [DataD.body_length, HND.out]
              rw [hfv, show ((data.chk.k.toNat : Nat) : Int) = 0 from rfl, ← hbd]
              rw [← hbd] at HRD hlc
              obtain ⟨nn, hnn⟩ : ∃ n, n = bd.length := ⟨_, rfl⟩
              rw [← hnn] at HRD hlc hbl ⊢
              have hl9 : nn ≤ 9000 := by omega
              have h4 : 4 ≤ nn := by omega
              clear hbl
              have G6 := hid (gr_trans G4.out hb6)
              obtain ⟨W7, hW7⟩ : ∃ W7, W7 = w6.alloc (.cells #[.int .u8 0, .int .u8 fv, .slice p nn c] 28 (0, 0)) := ⟨_, rfl⟩
              have g7 : Below w6.heap.size w6 W7 := by rw [hW7]; exact (Below.refl _ _).alloc (Nat.le_refl _) _
              have HV7 := hid (show RowV W7 w6.heap.size 28 [.int .u8 0, .int .u8 fv, .slice p nn c] by rw [hW7]; exact RowV.new w6 28 _)
              have G7 := hid (gr_trans G6.out g7)
              have HE7 := hid hW7
              obtain ⟨n1, hn1⟩ : ∃ n, n = nn + 1 := ⟨_, rfl⟩
              obtain ⟨k, hk⟩ : ∃ k, k = ct % n1 := ⟨_, rfl⟩
              have hkn : k ≤ nn := by
                have := Nat.mod_lt ct (show 0 < n1 by omega)
                omega
              have a1 : IntKind.i64.wrap (ct : Int) = (ct : Int) := by rw [IntKind.wrap_i64]; have := HCT.out; omega
              have a2 : IntKind.i64.wrap ((nn : Int) + 1) = (n1 : Int) := by rw [IntKind.wrap_i64]; omega
              have a3 : (ct : Int).tmod (n1 : Int) = (k : Int) := by rw [Int.tmod_eq_emod_of_nonneg (by omega), hk]; rfl
              have a4 : IntKind.i64.wrap (k : Int) = (k : Int) := by rw [IntKind.wrap_i64]; omega
              have a5 : ((n1 : Int) == 0) = false := by simp; omega
              have a6 : ¬ (n1 : Int) = 0 := by omega
              have HSL := hid (show ∀ wx, (Instr.slice 24 (.slice p nn c) none (some (.int .i64 (k : Int))) none).run Try.prog wx = .ok (.slice p k c) wx from fun wx => run_slice_to (P := Try.prog) 24 5 Try.underlying24 p nn c k (by omega) (by omega) .i64 (by kernel_rfl) wx)
              have HTK := hid (show Rd W7 (.slice p k c) (bd.take k) from (HRD.out.take k (by rw [← hnn]; exact hkn)).mono g7)
              have HTL := hid (show (⟨0, fl, bd.take k⟩ : Chk).b.length ≤ 1000000 by
                show (bd.take k).length ≤ _
                rw [List.length_take]
                omega)
              obtain ⟨ee, hee⟩ : ∃ h : Int, (dataGet ⟨0, fl, bd.take k⟩).2 = h := ⟨_, rfl⟩
              have HEE := hid hee
              have HEI := hid (show (ee = 0) ↔ (fl < 8 ∧ 12 < k) by
                rw [← hee, hbd]
                exact cut_data data HWD.out fl k (by rw [← hbd, ← hnn]; exact hkn))
              obtain ⟨k0, k1, k2⟩ := HV7.out.three
              have K0 := hid k0
              have K2 := hid k2
              clear hnn hn1 hk hW7 g7 hee hbd hfv hb6 ho6 c1 c2 c3 c4 c5 c6 c7 HRD
              obtain ⟨wA, hwA⟩ : ∃ x, x = W7 := ⟨_, rfl⟩
              rw [← hwA] at K0 K2 HTK G7 HE7 k0 k1 k2
              clear hwA
              rw [HE7.out] at k0 k1 k2
              go_wp2_with fail
              rw [← HE7.out]
              clear k0 k1 k2
              refine wp_region_gs (wA.heap.size) (fun _ _ => True) [Is (.pointer (some ⟨w6.heap.size, 0, none⟩)), Is (.int .u8 0), Is (.int .u8 (fl.toNat : Int)), Is (.pointer (some ⟨w6.heap.size, 2, none⟩)), Is (.slice p nn c), Is (.int .i64 (k : Int)), Is (.slice p k c), Is (.agg #[.int .u8 0, .int .u8 (fl.toNat : Int), .slice p k c]), GDF ee, GDF ee, GD1, Is (.int .i64 ee), ShF wA.heap.size 26 7, AnyF, Is (.int .i64 ee)] (by kernel_rfl) (by kernel_rfl) (by kernel_rfl) ?_ ?_ ?_
              · simp only [StabAll, Is.gs, AnyF.gs, ShF.gs, GDF.gs, GD1.gs, and_self]
              · rename_i Kk hKk; clear hKk Kk
                simp only [AllOps, List.map_cons, List.map_nil, depsOf, List.filterMap_cons, List.filterMap_nil, Region.binds, depFacts, guardF, reduceIte, List.getD_eq_getElem?_getD, List.getElem?_cons_succ, List.getElem?_cons_zero, Option.getD_some, factAt, and_true]
                refine ⟨?_, ?_, ?_, ?_, ?_, ?_, ?_, ?_, ?_, ?_, ?_, ?_, ?_, ?_, ?_⟩
                all_goals intro ρ wv hρ hR hd
                all_goals try simp only [Is] at hd
                · exact opOk_val (v := .pointer (some ⟨w6.heap.size, 0, none⟩)) (w' := wv) (by simp [execOp, go_sem, hρ.1.const, hρ.1.func, hd, (hρ.2 18 rfl)]) ⟨rfl, GrS.refl _ _ _⟩
                · (have h0 := cell?_of_below hR.below K0.out; exact opOk_val (v := .int .u8 0) (w' := wv) (by simp [execOp, go_sem, hd, h0]) ⟨rfl, GrS.refl _ _ _⟩)
                · exact opOk_move (.inl rfl) ⟨by simp only [Is]; (first | exact hρ.2 2 rfl | exact hd | exact hd.1 | exact hd.2 | simp [hd]), GrS.refl _ _ _⟩
                · exact opOk_val (v := .pointer (some ⟨w6.heap.size, 2, none⟩)) (w' := wv) (by simp [execOp, go_sem, hρ.1.const, hρ.1.func, hd, (hρ.2 18 rfl)]) ⟨rfl, GrS.refl _ _ _⟩
                · (have h0 := cell?_of_below hR.below K2.out; exact opOk_val (v := .slice p nn c) (w' := wv) (by simp [execOp, go_sem, hd, h0]) ⟨rfl, GrS.refl _ _ _⟩)
                · exact opOk_move (.inl rfl) ⟨by simp only [Is]; (first | exact hρ.2 19 rfl | exact hd | exact hd.1 | exact hd.2 | simp [hd]), GrS.refl _ _ _⟩
                · exact opOk_val (v := .slice p k c) (w' := wv) (by simp [execOp, go_sem, hρ.1.const, hρ.1.func, hd, Try.underlying24, HSL.out]) ⟨rfl, GrS.refl _ _ _⟩
                · exact opOk_val (v := .agg #[.int .u8 0, .int .u8 (fl.toNat : Int), .slice p k c]) (w' := wv) (by simp [execOp, go_sem, hρ.1.const, hρ.1.func, hd]) ⟨rfl, GrS.refl _ _ _⟩
                · exact opOk_call hρ.1 rfl rfl Try.func16 (by kernel_rfl) rfl (by simp [hd, hρ.1.const, hρ.1.func]) ((getData_any (.agg #[.int .u8 0, .int .u8 (fl.toNat : Int), .slice p k c]) ⟨0, fl, bd.take k⟩ wv ⟨_, rfl, HTK.out.mono hR.below⟩ HTL.out).mono fun e w' ⟨s, h1, h2, h3⟩ => ⟨_, h1, (by obtain ⟨p9, c9, rfl⟩ := RdF.form h2.rd; rw [HEE.out]; exact ⟨_, _, _, _, _, _, _, _, _, rfl⟩), GrS.of_gr _ hR.size h3⟩)
                · exact opOk_move (.inl rfl) ⟨(by first | exact hd | exact hd.1), GrS.refl _ _ _⟩
                · (obtain ⟨a0, a1, a2, a3, a4, a5, p9, n9, c9, h9⟩ : GDF ee _ _ := (by first | exact hd | exact hd.1); exact opOk_val (v := .agg #[.int .u32 a0, .int .u16 a1, .int .u16 a2, .bool a3, .bool a4, .bool a5, .slice p9 n9 c9]) (w' := wv) (by simp [execOp, go_sem, h9]) ⟨⟨_, _, _, _, _, _, _, _, _, rfl⟩, GrS.refl _ _ _⟩)
                · (obtain ⟨a0, a1, a2, a3, a4, a5, p9, n9, c9, h9⟩ : GDF ee _ _ := (by first | exact hd | exact hd.1); exact opOk_val (v := .int .i64 ee) (w' := wv) (by simp [execOp, go_sem, h9]) ⟨rfl, GrS.refl _ _ _⟩)
                · exact opOk_val (v := .pointer (some ⟨wv.heap.size, 0, none⟩)) (w' := wv.alloc (.cells #[.int .u32 0, .int .u16 0, .int .u16 0, .bool false, .bool false, .bool false, .slice none 0 0] 26 (0, 0))) (by simp [execOp, go_sem]) ⟨⟨_, _, rfl, hR.size, RowV.new wv 26 [.int .u32 0, .int .u16 0, .int .u16 0, .bool false, .bool false, .bool false, .slice none 0 0], rfl⟩, GrS.of_gr _ hR.size ((Below.refl _ _).alloc (Nat.le_refl _) _)⟩
                · (obtain ⟨hh, l7, hv, hge, hrow, hl7⟩ : ShF wA.heap.size 26 7 (ρ (.tmp 20)) wv := (by first | exact hd.1 | exact hd.2.1); obtain ⟨a0, a1, a2, a3, a4, a5, p9, n9, c9, h9⟩ : GD1 (ρ (.tmp 165)) wv := (by first | exact hd.2.1 | exact hd.1); obtain ⟨z0, z1, z2, z3, z4, z5, z6, rfl⟩ := seven_of hl7; obtain ⟨i0, i1, i2, i3, i4, i5, i6⟩ := hrow.seven; have y0 := hrow.frozen 0; have y1 := hrow.frozen 1; have y2 := hrow.frozen 2; have y3 := hrow.frozen 3; have y4 := hrow.frozen 4; have y5 := hrow.frozen 5; have y6 := hrow.frozen 6; exact opOk_skip (w' := ((((((wv.setCell ⟨hh, 0, none⟩ (.int .u32 a0)).setCell ⟨hh, 1, none⟩ (.int .u16 a1)).setCell ⟨hh, 2, none⟩ (.int .u16 a2)).setCell ⟨hh, 3, none⟩ (.bool a3)).setCell ⟨hh, 4, none⟩ (.bool a4)).setCell ⟨hh, 5, none⟩ (.bool a5)).setCell ⟨hh, 6, none⟩ (.slice p9 n9 c9)) (by simp [execOp, go_sem, hv, h9, i0, i1, i2, i3, i4, i5, i6, y0, y1, y2, y3, y4, y5, y6]) ⟨trivial, ((((((GrS.set hge trivial).trans (GrS.set hge trivial)).trans (GrS.set hge trivial)).trans (GrS.set hge trivial)).trans (GrS.set hge trivial)).trans (GrS.set hge trivial)).trans (GrS.set hge trivial)⟩)
                · exact opOk_move (.inr rfl) ⟨by simp only [Is]; (first | exact hρ.2 166 rfl | exact hd | exact hd.1 | exact hd.2 | simp [hd]), GrS.refl _ _ _⟩
              · intro vals wv hR hall
                have i10 := hall 10 (by simp)
                have i12 := hall 12 (by simp)
                have i14 := hall 14 (by simp)
                simp only [factAt, GD1, Is, ShF, List.getD_eq_getElem?_getD, List.getElem?_cons_succ, List.getElem?_cons_zero, Option.getD_some] at i10 i12 i14
                clear hall
                obtain ⟨a0, a1, a2, a3, a4, a5, p9, n9, c9, hq10⟩ := i10
                obtain ⟨hh, l7, hq12, hge, hrow, hl7⟩ := i12
                simp only [fillFrom, Act.put, hq10, hq12, i14, List.setIfInBounds_toArray, List.set_cons_zero, List.set_cons_succ]
                rename_i Kk hKk
                refine hKk _ _ ?_
                clear hKk Kk
                have GQ := hid (gr_trans G7.out hR.below)
                clear hq10 i14 hq12 hrow hR K0 K2 hl7 hge
                by_cases q8 : fl < 8
                · have q8n : fl.toNat < 8 := q8
                  have z8 : (fl.toNat : Int) < 8 := by omega
                  by_cases q12 : 12 < k
                  · have z12 : (12 : Int) < (k : Int) := by omega
                    obtain rfl : ee = 0 := HEI.out.2 ⟨q8, q12⟩
                    clear q8 q12 q8n
                    go_wp2_with fail
                    refine (works_any _).mono ?_
                    rintro e w8 ⟨rfl, hb8⟩
                    go_wp2_with fail
                    go_ret
                    exact ⟨rfl, gr_trans GQ.out hb8⟩
                  · have z12 : ¬ (12 : Int) < (k : Int) := by omega
                    have hz : (ee == 0) = false := by simp; exact fun h => q12 (HEI.out.1 h).2
                    clear q8 q12 q8n
                    go_wp2_with fail
                    refine (works_any _).mono ?_
                    rintro e w8 ⟨rfl, hb8⟩
                    go_wp2_with fail
                    go_ret
                    exact ⟨rfl, gr_trans GQ.out hb8⟩
                · have q8n : ¬ fl.toNat < 8 := q8
                  have z8 : ¬ (fl.toNat : Int) < 8 := by omega
                  have hz : (ee == 0) = false := by simp; exact fun h => q8 (HEI.out.1 h).1
                  clear q8 q8n
                  go_wp2_with fail
                  refine (works_any _).mono ?_
                  rintro e w8 ⟨rfl, hb8⟩
                  go_wp2_with fail
                  go_ret
                  exact ⟨rfl, gr_trans GQ.out hb8⟩
end Go.Proofs.Ytfiblhdejglpaaa

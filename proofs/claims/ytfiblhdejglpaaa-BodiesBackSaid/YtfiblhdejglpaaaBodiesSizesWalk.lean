/- BodiesSizes: the walk of the law. Conditions: none but what the row reads. -/
import Derived.Test.YtfiblhdejglpaaaBodOpen
namespace Go.FL
open Go.RowKit
theorem rowAll {w : World} {g e : Nat} {v0 v1 v2 v3 v4 v5 v6 v7 v8 v9 v10 v11 v12 v13 v14 v15 v16 v17 v18 v19 v20 v21 : Value} (h : RowV w g e [v0, v1, v2, v3, v4, v5, v6, v7, v8, v9, v10, v11, v12, v13, v14, v15, v16, v17, v18, v19, v20, v21]) : w.cell? ⟨g, 0, none⟩ = some v0 ∧ w.cell? ⟨g, 1, none⟩ = some v1 ∧ w.cell? ⟨g, 2, none⟩ = some v2 ∧ w.cell? ⟨g, 3, none⟩ = some v3 ∧ w.cell? ⟨g, 4, none⟩ = some v4 ∧ w.cell? ⟨g, 5, none⟩ = some v5 ∧ w.cell? ⟨g, 6, none⟩ = some v6 ∧ w.cell? ⟨g, 7, none⟩ = some v7 ∧ w.cell? ⟨g, 8, none⟩ = some v8 ∧ w.cell? ⟨g, 9, none⟩ = some v9 ∧ w.cell? ⟨g, 10, none⟩ = some v10 ∧ w.cell? ⟨g, 11, none⟩ = some v11 ∧ w.cell? ⟨g, 12, none⟩ = some v12 ∧ w.cell? ⟨g, 13, none⟩ = some v13 ∧ w.cell? ⟨g, 14, none⟩ = some v14 ∧ w.cell? ⟨g, 15, none⟩ = some v15 ∧ w.cell? ⟨g, 16, none⟩ = some v16 ∧ w.cell? ⟨g, 17, none⟩ = some v17 ∧ w.cell? ⟨g, 18, none⟩ = some v18 ∧ w.cell? ⟨g, 19, none⟩ = some v19 ∧ w.cell? ⟨g, 20, none⟩ = some v20 ∧ w.cell? ⟨g, 21, none⟩ = some v21 ∧ True :=
  ⟨h.at 0 (by simp), h.at 1 (by simp), h.at 2 (by simp), h.at 3 (by simp), h.at 4 (by simp), h.at 5 (by simp), h.at 6 (by simp), h.at 7 (by simp), h.at 8 (by simp), h.at 9 (by simp), h.at 10 (by simp), h.at 11 (by simp), h.at 12 (by simp), h.at 13 (by simp), h.at 14 (by simp), h.at 15 (by simp), h.at 16 (by simp), h.at 17 (by simp), h.at 18 (by simp), h.at 19 (by simp), h.at 20 (by simp), h.at 21 (by simp), trivial⟩
/-- A chunk by value, whatever its slice. -/
def ChkF (c : Chk) : Value → World → Prop := fun v w => ∃ s, v = .agg #[.int .u8 (c.k.toNat : Int), .int .u8 (c.f.toNat : Int), s] ∧ Rd w s c.b
theorem ChkF.gr (c : Chk) : Stab GrR (ChkF c) := fun _ _ _ ⟨s, h1, h2⟩ k => ⟨s, h1, h2.mono k⟩
end Go.FL
namespace Go.Proofs.Ytfiblhdejglpaaa
open Go.RowKit Go.FL Go.ChangeShapes

theorem field_chunk (a b s : Value) (w : World) : (Instr.field 28 (.agg #[a, b, s]) 2).run Try.prog w = .ok s w := by kernel_rfl

set_option maxRecDepth 100000 in
set_option maxHeartbeats 8000000 in
theorem bodiesSizes_walk {w : World} {v : Value} (x : AllD) (hx : AllL w (match v with | .agg cs => cs.toList | _ => []) x) :
    Calls Try.prog 7 #[v] w fun e w' => e = .returned (.bool true) ∧ Below w.heap.size w w' := by
  obtain ⟨s1, s2, s3, s4, s5, hcs, q1, q2, q3, q4, q5, wf1, wf2, wf3, wf4, wf5, wf6⟩ := hx
  have HD := hid (show DataAt w (.agg #[.int .u32 (x.data.tsn : Int), .int .u16 (x.data.st : Int), .int .u16 (x.data.ssn : Int), .bool x.data.un, .bool x.data.fi, .bool x.data.la, s1]) x.data from ⟨_, rfl, q1⟩)
  have HI := hid (show InitAt w (.agg #[.int .u32 (x.init.tag : Int), .int .u32 (x.init.rwnd : Int), .int .u16 (x.init.out : Int), .int .u16 (x.init.in_ : Int), .int .u32 (x.init.tsn : Int), s2]) x.init from ⟨_, rfl, q2⟩)
  have HS := hid (show SackAt w (.agg #[.int .u32 (x.sack.cum : Int), .int .u32 (x.sack.rwnd : Int), s3, s4]) x.sack from ⟨_, _, rfl, q3, q4⟩)
  have HF := hid (show FwdAt w (.agg #[.int .u32 (x.fwd.cum : Int), s5]) x.fwd from ⟨_, rfl, q5⟩)
  have HWD := hid wf1
  have HWI := hid wf2
  have HWS := hid wf3
  have HWF := hid wf4
  have HCM := hid wf6
  obtain ⟨pd, cd, rfl, l1, m1, -, -⟩ := q1
  obtain ⟨pi, ci, rfl, l2, m2, -, -⟩ := q2
  obtain ⟨pg, cg, rfl, l3, m3, -, -⟩ := q3
  obtain ⟨pu, cu, rfl, l4, m4, -⟩ := q4.nums
  obtain ⟨pf, cf, rfl, l5, m5, -, -⟩ := q5
  unfold maxLen at m1 m2 m3 m4 m5
  clear q4 wf1 wf2 wf3 wf4
  obtain ⟨ack, data, init, sack, fwd, at_, cum⟩ := x
  obtain ⟨nd, hnd⟩ : ∃ n, n = data.b.length := ⟨_, rfl⟩
  obtain ⟨ni, hni⟩ : ∃ n, n = init.ck.length := ⟨_, rfl⟩
  obtain ⟨ng, hng⟩ : ∃ n, n = sack.gaps.length := ⟨_, rfl⟩
  obtain ⟨nu, hnu⟩ : ∃ n, n = sack.dups.length := ⟨_, rfl⟩
  obtain ⟨nf, hnf⟩ : ∃ n, n = fwd.skips.length := ⟨_, rfl⟩
  obtain ⟨dt, hdt⟩ : ∃ n, n = data.tsn := ⟨_, rfl⟩
  obtain ⟨ds, hds⟩ : ∃ n, n = data.st := ⟨_, rfl⟩
  obtain ⟨dn, hdn⟩ : ∃ n, n = data.ssn := ⟨_, rfl⟩
  obtain ⟨du, hdu⟩ : ∃ n, n = data.un := ⟨_, rfl⟩
  obtain ⟨df, hdf⟩ : ∃ n, n = data.fi := ⟨_, rfl⟩
  obtain ⟨dl, hdl⟩ : ∃ n, n = data.la := ⟨_, rfl⟩
  obtain ⟨it, hit⟩ : ∃ n, n = init.tag := ⟨_, rfl⟩
  obtain ⟨ir, hir⟩ : ∃ n, n = init.rwnd := ⟨_, rfl⟩
  obtain ⟨io, hio⟩ : ∃ n, n = init.out := ⟨_, rfl⟩
  obtain ⟨ii, hii⟩ : ∃ n, n = init.in_ := ⟨_, rfl⟩
  obtain ⟨is_, his⟩ : ∃ n, n = init.tsn := ⟨_, rfl⟩
  obtain ⟨sc, hsc⟩ : ∃ n, n = sack.cum := ⟨_, rfl⟩
  obtain ⟨sr, hsr⟩ : ∃ n, n = sack.rwnd := ⟨_, rfl⟩
  obtain ⟨fc, hfc⟩ : ∃ n, n = fwd.cum := ⟨_, rfl⟩
  have HNI := hid (show init.ck.length = ni from hni.symm)
  have HND := hid (show data.b.length = nd from hnd.symm)
  have HNG := hid (show sack.gaps.length = ng from hng.symm)
  have HNU := hid (show sack.dups.length = nu from hnu.symm)
  have HNF := hid (show fwd.skips.length = nf from hnf.symm)
  have HIT := hid hit
  have HIO := hid hio
  have HII := hid hii
  simp only at *
  simp only [← hnd, ← hni, ← hng, ← hnu, ← hnf, ← hdt, ← hds, ← hdn, ← hdu, ← hdf, ← hdl, ← hit, ← hir, ← hio, ← hii, ← his, ← hsc, ← hsr, ← hfc] at hcs HD HI HS HF l1 l2 l3 l4 l5
  obtain ⟨cs, rfl⟩ : ∃ cs, v = .agg cs := by
    cases v <;> simp at hcs
    exact ⟨_, rfl⟩
  simp only at hcs
  obtain rfl : cs = #[.bool ack, .int .u32 (dt : Int), .int .u16 (ds : Int), .int .u16 (dn : Int), .bool du, .bool df, .bool dl, .slice pd nd cd, .int .u32 (it : Int), .int .u32 (ir : Int), .int .u16 (io : Int), .int .u16 (ii : Int), .int .u32 (is_ : Int), .slice pi ni ci, .int .u32 (sc : Int), .int .u32 (sr : Int), .slice pg ng cg, .slice pu nu cu, .int .u32 (fc : Int), .slice pf nf cf, .int .i64 at_, .int .u32 (cum : Int)] := by cases cs; simp at hcs; subst hcs; rfl
  clear hcs hnd hni hng hnu hnf hdt hds hdn hdu hdf hdl hit hir hio hii his hsc hsr hfc
  obtain ⟨W, hW⟩ : ∃ W, W = w.alloc (.cells #[.bool ack, .int .u32 (dt : Int), .int .u16 (ds : Int), .int .u16 (dn : Int), .bool du, .bool df, .bool dl, .slice pd nd cd, .int .u32 (it : Int), .int .u32 (ir : Int), .int .u16 (io : Int), .int .u16 (ii : Int), .int .u32 (is_ : Int), .slice pi ni ci, .int .u32 (sc : Int), .int .u32 (sr : Int), .slice pg ng cg, .slice pu nu cu, .int .u32 (fc : Int), .slice pf nf cf, .int .i64 at_, .int .u32 (cum : Int)] 72 (0, 0)) := ⟨_, rfl⟩
  have HR := hid (show RowV W w.heap.size 72 [.bool ack, .int .u32 (dt : Int), .int .u16 (ds : Int), .int .u16 (dn : Int), .bool du, .bool df, .bool dl, .slice pd nd cd, .int .u32 (it : Int), .int .u32 (ir : Int), .int .u16 (io : Int), .int .u16 (ii : Int), .int .u32 (is_ : Int), .slice pi ni ci, .int .u32 (sc : Int), .int .u32 (sr : Int), .slice pg ng cg, .slice pu nu cu, .int .u32 (fc : Int), .slice pf nf cf, .int .i64 at_, .int .u32 (cum : Int)] by rw [hW]; exact RowV.new w 72 _)
  have G0 := hid (show Below w.heap.size w W by rw [hW]; exact (Below.refl _ _).alloc (Nat.le_refl _) _)
  obtain ⟨c0, c1, c2, c3, c4, c5, c6, c7, c8, c9, c10, c11, c12, c13, c14, c15, c16, c17, c18, c19, c20, c21, -⟩ := rowAll HR.out
  rw [hW] at c0 c1 c2 c3 c4 c5 c6 c7 c8 c9 c10 c11 c12 c13 c14 c15 c16 c17 c18 c19 c20 c21
  have HE := hid hW
  clear hW
  have hworks : ∀ (wx : World), Below w.heap.size w wx → True := fun _ _ => trivial
  clear hworks
  go_enter Try.func7, Try.ntmps7
  go_wp2_with fail
  rw [← HE.out]
  refine (many_any _ _ sack fwd _ (HS.out.mono G0.out) (HF.out.mono G0.out)).mono ?_
  rw [HNG.out, HNU.out, HNF.out]
  rintro e w1 ⟨rfl, hb1⟩
  have HR1 := hid (HR.out.mono hb1)
  have G1 := hid (gr_trans G0.out hb1)
  clear hb1 c0 c1 c2 c3 c4 c5 c6 c7 c8 c9 c10 c11 c12 c13 c14 c15 c16 c17 c18 c19 c20 c21
  obtain ⟨c0, c1, c2, c3, c4, c5, c6, c7, c8, c9, c10, c11, c12, c13, c14, c15, c16, c17, c18, c19, c20, c21, -⟩ := rowAll HR1.out
  by_cases hm : 2048 < ng ∨ 2048 < nu ∨ 2048 < nf
  · rw [decide_eq_true hm]
    go_wp2_with fail
    refine (works_any _).mono ?_
    rintro e w2 ⟨rfl, hb2⟩
    go_wp2_with fail
    go_ret
    exact ⟨rfl, gr_trans G1.out hb2⟩
  · rw [decide_eq_false hm]
    have hng : ng ≤ 2048 := by omega
    have hnu : nu ≤ 2048 := by omega
    have hnf : nf ≤ 2048 := by omega
    clear hm
    by_cases h1 : 8192 < nd
    · have e1 : (8192 : Int) < (nd : Int) := by omega
      go_wp2_with fail
      refine (works_any _).mono ?_
      rintro e w2 ⟨rfl, hb2⟩
      go_wp2_with fail
      go_ret
      exact ⟨rfl, gr_trans G1.out hb2⟩
    · have e1 : ¬ (8192 : Int) < (nd : Int) := by omega
      by_cases h2 : 8192 < ni
      · have e2 : (8192 : Int) < (ni : Int) := by omega
        go_wp2_with fail
        refine (works_any _).mono ?_
        rintro e w2 ⟨rfl, hb2⟩
        go_wp2_with fail
        go_ret
        exact ⟨rfl, gr_trans G1.out hb2⟩
      · have e2 : ¬ (8192 : Int) < (ni : Int) := by omega
        obtain ⟨n3, hn3⟩ : ∃ n, n = ni + 3 := ⟨_, rfl⟩
        obtain ⟨k4, hk4⟩ : ∃ n, n = n3 / 4 := ⟨_, rfl⟩
        obtain ⟨k16, hk16⟩ : ∃ n, n = k4 * 4 := ⟨_, rfl⟩
        obtain ⟨LD, hLD⟩ : ∃ n, n = 12 + nd := ⟨_, rfl⟩
        obtain ⟨LJ, hLJ⟩ : ∃ n, n = 20 + k16 := ⟨_, rfl⟩
        obtain ⟨g4, hg4⟩ : ∃ n, n = 4 * ng := ⟨_, rfl⟩
        obtain ⟨g12, hg12⟩ : ∃ n, n = 12 + g4 := ⟨_, rfl⟩
        obtain ⟨u4, hu4⟩ : ∃ n, n = 4 * nu := ⟨_, rfl⟩
        obtain ⟨LS, hLS⟩ : ∃ n, n = g12 + u4 := ⟨_, rfl⟩
        obtain ⟨f4, hf4⟩ : ∃ n, n = 4 * nf := ⟨_, rfl⟩
        obtain ⟨LF, hLF⟩ : ∃ n, n = 4 + f4 := ⟨_, rfl⟩
        have HLD := hid (show data.chk.b.length = LD by show data.body.length = _; rw [DataD.body_length, HND.out, hLD])
        have HLT := hid (show (timeChk 4 at_).b.length = 12 from timeBody_length _)
        have HLC := hid (show (cumChk cum).b.length = 4 by simp [cumChk, beBytes_length])
        have HLI := hid (show (init.chk 1).b.length = 16 by show (init.body 1).length = _; rw [InitD.body, if_neg (by decide), InitD.head_length])
        have HLJ := hid (show (init.chk 2).b.length = LJ by show (init.body 2).length = _; rw [InitD.body, if_pos rfl, padded_length, InitD.more_length, HNI.out, roundN]; omega)
        have HLS := hid (show sack.chk.b.length = LS by show sack.body.length = _; rw [SackD.body_length, HNG.out, HNU.out]; omega)
        have HLF := hid (show fwd.chk.b.length = LF by show fwd.body.length = _; rw [FwdD.body_length, HNF.out]; omega)
        have A1 := hid (show IntKind.i64.wrap ((12 : Int) + (nd : Int)) = (LD : Int) by rw [IntKind.wrap_i64]; omega)
        have A2 := hid (show IntKind.i64.wrap ((ni : Int) + 3) = (n3 : Int) by rw [IntKind.wrap_i64]; omega)
        have A3 := hid (show (n3 : Int).tdiv 4 = (k4 : Int) by rw [Int.tdiv_eq_ediv_of_nonneg (by omega)]; omega)
        have A4 := hid (show IntKind.i64.wrap (k4 : Int) = (k4 : Int) by rw [IntKind.wrap_i64]; omega)
        have A5 := hid (show IntKind.i64.wrap ((k4 : Int) * 4) = (k16 : Int) by rw [IntKind.wrap_i64]; omega)
        have A6 := hid (show IntKind.i64.wrap ((20 : Int) + (k16 : Int)) = (LJ : Int) by rw [IntKind.wrap_i64]; omega)
        have A7 := hid (show IntKind.i64.wrap ((4 : Int) * (ng : Int)) = (g4 : Int) by rw [IntKind.wrap_i64]; omega)
        have A8 := hid (show IntKind.i64.wrap ((12 : Int) + (g4 : Int)) = (g12 : Int) by rw [IntKind.wrap_i64]; omega)
        have A9 := hid (show IntKind.i64.wrap ((4 : Int) * (nu : Int)) = (u4 : Int) by rw [IntKind.wrap_i64]; omega)
        have A10 := hid (show IntKind.i64.wrap ((g12 : Int) + (u4 : Int)) = (LS : Int) by rw [IntKind.wrap_i64]; omega)
        have A11 := hid (show IntKind.i64.wrap ((4 : Int) * (nf : Int)) = (f4 : Int) by rw [IntKind.wrap_i64]; omega)
        have A12 := hid (show IntKind.i64.wrap ((4 : Int) + (f4 : Int)) = (LF : Int) by rw [IntKind.wrap_i64]; omega)
        clear hn3 hk4 hk16 hLD hLJ hg4 hg12 hu4 hLS hf4 hLF
        have C0 := hid c0
        have C1 := hid c1
        have C2 := hid c2
        have C3 := hid c3
        have C4 := hid c4
        have C5 := hid c5
        have C6 := hid c6
        have C7 := hid c7
        have C8 := hid c8
        have C9 := hid c9
        have C10 := hid c10
        have C11 := hid c11
        have C12 := hid c12
        have C13 := hid c13
        have C14 := hid c14
        have C15 := hid c15
        have C16 := hid c16
        have C17 := hid c17
        have C18 := hid c18
        have C19 := hid c19
        have C20 := hid c20
        have C21 := hid c21
        go_wp2_with fail
        clear c0 c1 c2 c3 c4 c5 c6 c7 c8 c9 c10 c11 c12 c13 c14 c15 c16 c17 c18 c19 c20 c21
        refine wp_region_gr [Is (.pointer (some ⟨w.heap.size, 1, none⟩)), Is (.agg #[.int .u32 (dt : Int), .int .u16 (ds : Int), .int .u16 (dn : Int), .bool du, .bool df, .bool dl, .slice pd nd cd]), ChkF (data.chk), RdF (data.chk).b, Is (.int .i64 (LD : Int)), Is (.pointer (some ⟨w.heap.size, 1, none⟩)), Is (.pointer (some ⟨w.heap.size, 7, none⟩)), Is (.slice pd nd cd), Is (.int .i64 ((nd : Nat) : Int)), Is (.int .i64 (LD : Int)), Is (.bool false), Is (.bool false), Is (.pointer (some ⟨w.heap.size, 8, none⟩)), Is (.agg #[.int .u32 (it : Int), .int .u32 (ir : Int), .int .u16 (io : Int), .int .u16 (ii : Int), .int .u32 (is_ : Int), .slice pi ni ci]), ChkF (init.chk 1), RdF (init.chk 1).b, Is (.int .i64 16), Is (.bool false), Is (.bool false), Is (.bool false), Is (.pointer (some ⟨w.heap.size, 8, none⟩)), Is (.agg #[.int .u32 (it : Int), .int .u32 (ir : Int), .int .u16 (io : Int), .int .u16 (ii : Int), .int .u32 (is_ : Int), .slice pi ni ci]), ChkF (init.chk 2), RdF (init.chk 2).b, Is (.int .i64 (LJ : Int)), Is (.pointer (some ⟨w.heap.size, 8, none⟩)), Is (.pointer (some ⟨w.heap.size, 13, none⟩)), Is (.slice pi ni ci), Is (.int .i64 ((ni : Nat) : Int)), Is (.int .i64 (n3 : Int)), Is (.int .i64 (k4 : Int)), Is (.int .i64 (k16 : Int)), Is (.int .i64 (LJ : Int)), Is (.bool false), Is (.bool false)] (by kernel_rfl) (by kernel_rfl) (by kernel_rfl) ?_ ?_ ?_
        · simp only [StabAll, Is.gr, RdF.gr, OwnF.gr, AnyF.gr, ChkF.gr, and_self]
        · rename_i Kk hKk; clear hKk Kk
          simp only [AllOps, List.map_cons, List.map_nil, depsOf, List.filterMap_cons, List.filterMap_nil, Region.binds, depFacts, guardF, reduceIte, List.getD_eq_getElem?_getD, List.getElem?_cons_succ, List.getElem?_cons_zero, Option.getD_some, factAt, and_true]
          refine ⟨?_, ?_, ?_, ?_, ?_, ?_, ?_, ?_, ?_, ?_, ?_, ?_, ?_, ?_, ?_, ?_, ?_, ?_, ?_, ?_, ?_, ?_, ?_, ?_, ?_, ?_, ?_, ?_, ?_, ?_, ?_, ?_, ?_, ?_, ?_⟩
          all_goals intro ρ wv hρ hR hd
          all_goals try simp only [Is] at hd
          · exact opOk_val (v := .pointer (some ⟨w.heap.size, 1, none⟩)) (w' := wv) (by simp [execOp, go_sem, hρ.1.const, hρ.1.func, hd, (hρ.2 1 rfl)]) ⟨rfl, GrR.refl _⟩
          · (have h1 := cell?_of_below hR C1.out; have h2 := cell?_of_below hR C2.out; have h3 := cell?_of_below hR C3.out; have h4 := cell?_of_below hR C4.out; have h5 := cell?_of_below hR C5.out; have h6 := cell?_of_below hR C6.out; have h7 := cell?_of_below hR C7.out; exact opOk_val (v := .agg #[.int .u32 (dt : Int), .int .u16 (ds : Int), .int .u16 (dn : Int), .bool du, .bool df, .bool dl, .slice pd nd cd]) (w' := wv) (by simp [execOp, go_sem, hd, h1, h2, h3, h4, h5, h6, h7]) ⟨rfl, GrR.refl _⟩)
          · exact opOk_call hρ.1 rfl rfl Try.func15 (by kernel_rfl) rfl (by simp [hd, hρ.1.const, hρ.1.func]) ((putData_any _ data HWD.out wv ((HD.out.mono G1.out).mono hR) (by rw [HND.out]; omega)).mono fun e w' ⟨s, h1, h2, h3⟩ => ⟨_, h1, ⟨s, rfl, h2.rd⟩, h3⟩)
          · (obtain ⟨s, hs, hr⟩ : ChkF (data.chk) _ _ := (by first | exact hd | exact hd.1); exact opOk_val (v := s) (w' := wv) (by simp [execOp, go_sem, hs, field_chunk]) ⟨hr, GrR.refl _⟩)
          · (obtain ⟨p, c, hp⟩ : ∃ p c, _ = Value.slice p (data.chk).b.length c := RdF.form (by first | exact hd | exact hd.1); exact opOk_len rfl _ Try.underlying24 _ _ _ hp ⟨by show Value.int _ _ = _; first | (rw [HLD.out]; done) | (rw [HLD.out]; rfl), GrR.refl _⟩)
          · exact opOk_val (v := .pointer (some ⟨w.heap.size, 1, none⟩)) (w' := wv) (by simp [execOp, go_sem, hρ.1.const, hρ.1.func, hd, (hρ.2 1 rfl)]) ⟨rfl, GrR.refl _⟩
          · exact opOk_val (v := .pointer (some ⟨w.heap.size, 7, none⟩)) (w' := wv) (by simp [execOp, go_sem, hρ.1.const, hρ.1.func, hd]) ⟨rfl, GrR.refl _⟩
          · (have h7 := cell?_of_below hR C7.out; exact opOk_val (v := .slice pd nd cd) (w' := wv) (by simp [execOp, go_sem, hd, h7]) ⟨rfl, GrR.refl _⟩)
          · exact opOk_len rfl _ Try.underlying24 _ (nd) _ (by first | exact hρ.2 _ rfl | exact hd | exact hd.1 | exact hd.2 | simp [hd]) ⟨rfl, GrR.refl _⟩
          · exact opOk_val (v := .int .i64 (LD : Int)) (w' := wv) (by simp [execOp, go_sem, hρ.1.const, hρ.1.func, hd, A1.out]) ⟨rfl, GrR.refl _⟩
          · exact opOk_val (v := .bool false) (w' := wv) (by simp [execOp, go_sem, hρ.1.const, hρ.1.func, hd]) ⟨rfl, GrR.refl _⟩
          · exact opOk_move (.inl rfl) ⟨by simp only [Is]; (first | exact hρ.2 33 rfl | exact hd | exact hd.1 | exact hd.2 | simp [hd]), GrR.refl _⟩
          · refine ⟨fun _ => ?_, fun hg => absurd (by simp [hd]) hg⟩; exact opOk_val (v := .pointer (some ⟨w.heap.size, 8, none⟩)) (w' := wv) (by simp [execOp, go_sem, hρ.1.const, hρ.1.func, hd, (hρ.2 1 rfl)]) ⟨rfl, GrR.refl _⟩
          · refine ⟨fun _ => ?_, fun hg => absurd (by simp [hd]) hg⟩; (have h8 := cell?_of_below hR C8.out; have h9 := cell?_of_below hR C9.out; have h10 := cell?_of_below hR C10.out; have h11 := cell?_of_below hR C11.out; have h12 := cell?_of_below hR C12.out; have h13 := cell?_of_below hR C13.out; exact opOk_val (v := .agg #[.int .u32 (it : Int), .int .u32 (ir : Int), .int .u16 (io : Int), .int .u16 (ii : Int), .int .u32 (is_ : Int), .slice pi ni ci]) (w' := wv) (by simp [execOp, go_sem, hd, h8, h9, h10, h11, h12, h13]) ⟨rfl, GrR.refl _⟩)
          · refine ⟨fun _ => ?_, fun hg => absurd (by simp [hd]) hg⟩; exact opOk_call hρ.1 rfl rfl Try.func42 (by kernel_rfl) rfl (by simp [hd, hρ.1.const, hρ.1.func]) ((putInit_any 1 _ init HWI.out wv ((HI.out.mono G1.out).mono hR) (by rw [HNI.out]; omega)).mono fun e w' ⟨s, h1, h2, h3⟩ => ⟨_, h1, ⟨s, rfl, h2.rd⟩, h3⟩)
          · refine ⟨fun _ => ?_, fun hg => absurd (by simp [hd]) hg⟩; (obtain ⟨s, hs, hr⟩ : ChkF (init.chk 1) _ _ := (by first | exact hd | exact hd.1); exact opOk_val (v := s) (w' := wv) (by simp [execOp, go_sem, hs, field_chunk]) ⟨hr, GrR.refl _⟩)
          · refine ⟨fun _ => ?_, fun hg => absurd (by simp [hd]) hg⟩; (obtain ⟨p, c, hp⟩ : ∃ p c, _ = Value.slice p (init.chk 1).b.length c := RdF.form (by first | exact hd | exact hd.1); exact opOk_len rfl _ Try.underlying24 _ _ _ hp ⟨by show Value.int _ _ = _; first | (rw [HLI.out]; done) | (rw [HLI.out]; rfl), GrR.refl _⟩)
          · refine ⟨fun _ => ?_, fun hg => absurd (by simp [hd]) hg⟩; exact opOk_val (v := .bool false) (w' := wv) (by simp [execOp, go_sem, hρ.1.const, hρ.1.func, hd]) ⟨rfl, GrR.refl _⟩
          · exact opOk_val (v := .bool false) (w' := wv) (by simp [execOp, go_sem, hρ.1.const, hρ.1.func, hd]) ⟨rfl, GrR.refl _⟩
          · exact opOk_move (.inl rfl) ⟨by simp only [Is]; (first | exact hρ.2 41 rfl | exact hd | exact hd.1 | exact hd.2 | simp [hd]), GrR.refl _⟩
          · refine ⟨fun _ => ?_, fun hg => absurd (by simp [hd]) hg⟩; exact opOk_val (v := .pointer (some ⟨w.heap.size, 8, none⟩)) (w' := wv) (by simp [execOp, go_sem, hρ.1.const, hρ.1.func, hd, (hρ.2 1 rfl)]) ⟨rfl, GrR.refl _⟩
          · refine ⟨fun _ => ?_, fun hg => absurd (by simp [hd]) hg⟩; (have h8 := cell?_of_below hR C8.out; have h9 := cell?_of_below hR C9.out; have h10 := cell?_of_below hR C10.out; have h11 := cell?_of_below hR C11.out; have h12 := cell?_of_below hR C12.out; have h13 := cell?_of_below hR C13.out; exact opOk_val (v := .agg #[.int .u32 (it : Int), .int .u32 (ir : Int), .int .u16 (io : Int), .int .u16 (ii : Int), .int .u32 (is_ : Int), .slice pi ni ci]) (w' := wv) (by simp [execOp, go_sem, hd, h8, h9, h10, h11, h12, h13]) ⟨rfl, GrR.refl _⟩)
          · refine ⟨fun _ => ?_, fun hg => absurd (by simp [hd]) hg⟩; exact opOk_call hρ.1 rfl rfl Try.func42 (by kernel_rfl) rfl (by simp [hd, hρ.1.const, hρ.1.func]) ((putInit_any 2 _ init HWI.out wv ((HI.out.mono G1.out).mono hR) (by rw [HNI.out]; omega)).mono fun e w' ⟨s, h1, h2, h3⟩ => ⟨_, h1, ⟨s, rfl, h2.rd⟩, h3⟩)
          · refine ⟨fun _ => ?_, fun hg => absurd (by simp [hd]) hg⟩; (obtain ⟨s, hs, hr⟩ : ChkF (init.chk 2) _ _ := (by first | exact hd | exact hd.1); exact opOk_val (v := s) (w' := wv) (by simp [execOp, go_sem, hs, field_chunk]) ⟨hr, GrR.refl _⟩)
          · refine ⟨fun _ => ?_, fun hg => absurd (by simp [hd]) hg⟩; (obtain ⟨p, c, hp⟩ : ∃ p c, _ = Value.slice p (init.chk 2).b.length c := RdF.form (by first | exact hd | exact hd.1); exact opOk_len rfl _ Try.underlying24 _ _ _ hp ⟨by show Value.int _ _ = _; first | (rw [HLJ.out]; done) | (rw [HLJ.out]; rfl), GrR.refl _⟩)
          · refine ⟨fun _ => ?_, fun hg => absurd (by simp [hd]) hg⟩; exact opOk_val (v := .pointer (some ⟨w.heap.size, 8, none⟩)) (w' := wv) (by simp [execOp, go_sem, hρ.1.const, hρ.1.func, hd, (hρ.2 1 rfl)]) ⟨rfl, GrR.refl _⟩
          · refine ⟨fun _ => ?_, fun hg => absurd (by simp [hd]) hg⟩; exact opOk_val (v := .pointer (some ⟨w.heap.size, 13, none⟩)) (w' := wv) (by simp [execOp, go_sem, hρ.1.const, hρ.1.func, hd]) ⟨rfl, GrR.refl _⟩
          · refine ⟨fun _ => ?_, fun hg => absurd (by simp [hd]) hg⟩; (have h13 := cell?_of_below hR C13.out; exact opOk_val (v := .slice pi ni ci) (w' := wv) (by simp [execOp, go_sem, hd, h13]) ⟨rfl, GrR.refl _⟩)
          · refine ⟨fun _ => ?_, fun hg => absurd (by simp [hd]) hg⟩; exact opOk_len rfl _ Try.underlying24 _ (ni) _ (by first | exact hρ.2 _ rfl | exact hd | exact hd.1 | exact hd.2 | simp [hd]) ⟨rfl, GrR.refl _⟩
          · refine ⟨fun _ => ?_, fun hg => absurd (by simp [hd]) hg⟩; exact opOk_val (v := .int .i64 (n3 : Int)) (w' := wv) (by simp [execOp, go_sem, hρ.1.const, hρ.1.func, hd, A2.out]) ⟨rfl, GrR.refl _⟩
          · refine ⟨fun _ => ?_, fun hg => absurd (by simp [hd]) hg⟩; exact opOk_val (v := .int .i64 (k4 : Int)) (w' := wv) (by simp [execOp, go_sem, hρ.1.const, hρ.1.func, hd, A3.out, A4.out]) ⟨rfl, GrR.refl _⟩
          · refine ⟨fun _ => ?_, fun hg => absurd (by simp [hd]) hg⟩; exact opOk_val (v := .int .i64 (k16 : Int)) (w' := wv) (by simp [execOp, go_sem, hρ.1.const, hρ.1.func, hd, A5.out]) ⟨rfl, GrR.refl _⟩
          · refine ⟨fun _ => ?_, fun hg => absurd (by simp [hd]) hg⟩; exact opOk_val (v := .int .i64 (LJ : Int)) (w' := wv) (by simp [execOp, go_sem, hρ.1.const, hρ.1.func, hd, A6.out]) ⟨rfl, GrR.refl _⟩
          · refine ⟨fun _ => ?_, fun hg => absurd (by simp [hd]) hg⟩; exact opOk_val (v := .bool false) (w' := wv) (by simp [execOp, go_sem, hρ.1.const, hρ.1.func, hd]) ⟨rfl, GrR.refl _⟩
          · exact opOk_val (v := .bool false) (w' := wv) (by simp [execOp, go_sem, hρ.1.const, hρ.1.func, hd]) ⟨rfl, GrR.refl _⟩
        · intro vals wv hR hall
          have hend := hall 34 (by simp)
          simp only [factAt, Is, List.getD_eq_getElem?_getD, List.getElem?_cons_succ, List.getElem?_cons_zero, Option.getD_some] at hend
          clear hall
          simp only [fillFrom, Act.put, hend, List.setIfInBounds_toArray, List.set_cons_zero, List.set_cons_succ]
          rename_i Kk hKk
          refine hKk _ _ ?_
          clear hKk Kk hend
          have G3 := hid (gr_trans G1.out hR)
          have HR3 := hid (HR1.out.mono hR)
          clear hR C0 C1 C2 C3 C4 C5 C6 C7 C8 C9 C10 C11 C12 C13 C14 C15 C16 C17 C18 C19 C20 C21
          obtain ⟨c0, c1, c2, c3, c4, c5, c6, c7, c8, c9, c10, c11, c12, c13, c14, c15, c16, c17, c18, c19, c20, c21, -⟩ := rowAll HR3.out
          have C0 := hid c0
          have C1 := hid c1
          have C2 := hid c2
          have C3 := hid c3
          have C4 := hid c4
          have C5 := hid c5
          have C6 := hid c6
          have C7 := hid c7
          have C8 := hid c8
          have C9 := hid c9
          have C10 := hid c10
          have C11 := hid c11
          have C12 := hid c12
          have C13 := hid c13
          have C14 := hid c14
          have C15 := hid c15
          have C16 := hid c16
          have C17 := hid c17
          have C18 := hid c18
          have C19 := hid c19
          have C20 := hid c20
          have C21 := hid c21
          go_wp2_with fail
          clear c0 c1 c2 c3 c4 c5 c6 c7 c8 c9 c10 c11 c12 c13 c14 c15 c16 c17 c18 c19 c20 c21
          refine wp_region_gr [Is (.pointer (some ⟨w.heap.size, 14, none⟩)), Is (.agg #[.int .u32 (sc : Int), .int .u32 (sr : Int), .slice pg ng cg, .slice pu nu cu]), ChkF (sack.chk), RdF (sack.chk).b, Is (.int .i64 (LS : Int)), Is (.pointer (some ⟨w.heap.size, 14, none⟩)), Is (.pointer (some ⟨w.heap.size, 16, none⟩)), Is (.slice pg ng cg), Is (.int .i64 ((ng : Nat) : Int)), Is (.int .i64 (g4 : Int)), Is (.int .i64 (g12 : Int)), Is (.pointer (some ⟨w.heap.size, 14, none⟩)), Is (.pointer (some ⟨w.heap.size, 17, none⟩)), Is (.slice pu nu cu), Is (.int .i64 ((nu : Nat) : Int)), Is (.int .i64 (u4 : Int)), Is (.int .i64 (LS : Int)), Is (.bool false), Is (.bool false), Is (.pointer (some ⟨w.heap.size, 18, none⟩)), Is (.agg #[.int .u32 (fc : Int), .slice pf nf cf]), ChkF (fwd.chk), RdF (fwd.chk).b, Is (.int .i64 (LF : Int)), Is (.pointer (some ⟨w.heap.size, 18, none⟩)), Is (.pointer (some ⟨w.heap.size, 19, none⟩)), Is (.slice pf nf cf), Is (.int .i64 ((nf : Nat) : Int)), Is (.int .i64 (f4 : Int)), Is (.int .i64 (LF : Int)), Is (.bool false), Is (.bool false)] (by kernel_rfl) (by kernel_rfl) (by kernel_rfl) ?_ ?_ ?_
          · simp only [StabAll, Is.gr, RdF.gr, OwnF.gr, AnyF.gr, ChkF.gr, and_self]
          · rename_i Kk hKk; clear hKk Kk
            simp only [AllOps, List.map_cons, List.map_nil, depsOf, List.filterMap_cons, List.filterMap_nil, Region.binds, depFacts, guardF, reduceIte, List.getD_eq_getElem?_getD, List.getElem?_cons_succ, List.getElem?_cons_zero, Option.getD_some, factAt, and_true]
            refine ⟨?_, ?_, ?_, ?_, ?_, ?_, ?_, ?_, ?_, ?_, ?_, ?_, ?_, ?_, ?_, ?_, ?_, ?_, ?_, ?_, ?_, ?_, ?_, ?_, ?_, ?_, ?_, ?_, ?_, ?_, ?_, ?_⟩
            all_goals intro ρ wv hρ hR hd
            all_goals try simp only [Is] at hd
            · exact opOk_val (v := .pointer (some ⟨w.heap.size, 14, none⟩)) (w' := wv) (by simp [execOp, go_sem, hρ.1.const, hρ.1.func, hd, (hρ.2 1 rfl)]) ⟨rfl, GrR.refl _⟩
            · (have h14 := cell?_of_below hR C14.out; have h15 := cell?_of_below hR C15.out; have h16 := cell?_of_below hR C16.out; have h17 := cell?_of_below hR C17.out; exact opOk_val (v := .agg #[.int .u32 (sc : Int), .int .u32 (sr : Int), .slice pg ng cg, .slice pu nu cu]) (w' := wv) (by simp [execOp, go_sem, hd, h14, h15, h16, h17]) ⟨rfl, GrR.refl _⟩)
            · exact opOk_call hρ.1 rfl rfl Try.func24 (by kernel_rfl) rfl (by simp [hd, hρ.1.const, hρ.1.func]) ((putSack_any _ sack HWS.out wv ((HS.out.mono G3.out).mono hR) (by rw [HNG.out]; omega) (by rw [HNU.out]; omega)).mono fun e w' ⟨s, h1, h2, h3⟩ => ⟨_, h1, ⟨s, rfl, h2.rd⟩, h3⟩)
            · (obtain ⟨s, hs, hr⟩ : ChkF (sack.chk) _ _ := (by first | exact hd | exact hd.1); exact opOk_val (v := s) (w' := wv) (by simp [execOp, go_sem, hs, field_chunk]) ⟨hr, GrR.refl _⟩)
            · (obtain ⟨p, c, hp⟩ : ∃ p c, _ = Value.slice p (sack.chk).b.length c := RdF.form (by first | exact hd | exact hd.1); exact opOk_len rfl _ Try.underlying24 _ _ _ hp ⟨by show Value.int _ _ = _; first | (rw [HLS.out]; done) | (rw [HLS.out]; rfl), GrR.refl _⟩)
            · exact opOk_val (v := .pointer (some ⟨w.heap.size, 14, none⟩)) (w' := wv) (by simp [execOp, go_sem, hρ.1.const, hρ.1.func, hd, (hρ.2 1 rfl)]) ⟨rfl, GrR.refl _⟩
            · exact opOk_val (v := .pointer (some ⟨w.heap.size, 16, none⟩)) (w' := wv) (by simp [execOp, go_sem, hρ.1.const, hρ.1.func, hd]) ⟨rfl, GrR.refl _⟩
            · (have h16 := cell?_of_below hR C16.out; exact opOk_val (v := .slice pg ng cg) (w' := wv) (by simp [execOp, go_sem, hd, h16]) ⟨rfl, GrR.refl _⟩)
            · exact opOk_len rfl _ Try.underlying42 _ (ng) _ (by first | exact hρ.2 _ rfl | exact hd | exact hd.1 | exact hd.2 | simp [hd]) ⟨rfl, GrR.refl _⟩
            · exact opOk_val (v := .int .i64 (g4 : Int)) (w' := wv) (by simp [execOp, go_sem, hρ.1.const, hρ.1.func, hd, A7.out]) ⟨rfl, GrR.refl _⟩
            · exact opOk_val (v := .int .i64 (g12 : Int)) (w' := wv) (by simp [execOp, go_sem, hρ.1.const, hρ.1.func, hd, A8.out]) ⟨rfl, GrR.refl _⟩
            · exact opOk_val (v := .pointer (some ⟨w.heap.size, 14, none⟩)) (w' := wv) (by simp [execOp, go_sem, hρ.1.const, hρ.1.func, hd, (hρ.2 1 rfl)]) ⟨rfl, GrR.refl _⟩
            · exact opOk_val (v := .pointer (some ⟨w.heap.size, 17, none⟩)) (w' := wv) (by simp [execOp, go_sem, hρ.1.const, hρ.1.func, hd]) ⟨rfl, GrR.refl _⟩
            · (have h17 := cell?_of_below hR C17.out; exact opOk_val (v := .slice pu nu cu) (w' := wv) (by simp [execOp, go_sem, hd, h17]) ⟨rfl, GrR.refl _⟩)
            · exact opOk_len rfl _ Try.underlying43 _ (nu) _ (by first | exact hρ.2 _ rfl | exact hd | exact hd.1 | exact hd.2 | simp [hd]) ⟨rfl, GrR.refl _⟩
            · exact opOk_val (v := .int .i64 (u4 : Int)) (w' := wv) (by simp [execOp, go_sem, hρ.1.const, hρ.1.func, hd, A9.out]) ⟨rfl, GrR.refl _⟩
            · exact opOk_val (v := .int .i64 (LS : Int)) (w' := wv) (by simp [execOp, go_sem, hρ.1.const, hρ.1.func, hd, A10.out]) ⟨rfl, GrR.refl _⟩
            · exact opOk_val (v := .bool false) (w' := wv) (by simp [execOp, go_sem, hρ.1.const, hρ.1.func, hd]) ⟨rfl, GrR.refl _⟩
            · exact opOk_move (.inl rfl) ⟨by simp only [Is]; (first | exact hρ.2 75 rfl | exact hd | exact hd.1 | exact hd.2 | simp [hd]), GrR.refl _⟩
            · refine ⟨fun _ => ?_, fun hg => absurd (by simp [hd]) hg⟩; exact opOk_val (v := .pointer (some ⟨w.heap.size, 18, none⟩)) (w' := wv) (by simp [execOp, go_sem, hρ.1.const, hρ.1.func, hd, (hρ.2 1 rfl)]) ⟨rfl, GrR.refl _⟩
            · refine ⟨fun _ => ?_, fun hg => absurd (by simp [hd]) hg⟩; (have h18 := cell?_of_below hR C18.out; have h19 := cell?_of_below hR C19.out; exact opOk_val (v := .agg #[.int .u32 (fc : Int), .slice pf nf cf]) (w' := wv) (by simp [execOp, go_sem, hd, h18, h19]) ⟨rfl, GrR.refl _⟩)
            · refine ⟨fun _ => ?_, fun hg => absurd (by simp [hd]) hg⟩; exact opOk_call hρ.1 rfl rfl Try.func29 (by kernel_rfl) rfl (by simp [hd, hρ.1.const, hρ.1.func]) ((putFwd_any _ fwd HWF.out wv ((HF.out.mono G3.out).mono hR) (by rw [HNF.out]; omega)).mono fun e w' ⟨s, h1, h2, h3⟩ => ⟨_, h1, ⟨s, rfl, h2.rd⟩, h3⟩)
            · refine ⟨fun _ => ?_, fun hg => absurd (by simp [hd]) hg⟩; (obtain ⟨s, hs, hr⟩ : ChkF (fwd.chk) _ _ := (by first | exact hd | exact hd.1); exact opOk_val (v := s) (w' := wv) (by simp [execOp, go_sem, hs, field_chunk]) ⟨hr, GrR.refl _⟩)
            · refine ⟨fun _ => ?_, fun hg => absurd (by simp [hd]) hg⟩; (obtain ⟨p, c, hp⟩ : ∃ p c, _ = Value.slice p (fwd.chk).b.length c := RdF.form (by first | exact hd | exact hd.1); exact opOk_len rfl _ Try.underlying24 _ _ _ hp ⟨by show Value.int _ _ = _; first | (rw [HLF.out]; done) | (rw [HLF.out]; rfl), GrR.refl _⟩)
            · refine ⟨fun _ => ?_, fun hg => absurd (by simp [hd]) hg⟩; exact opOk_val (v := .pointer (some ⟨w.heap.size, 18, none⟩)) (w' := wv) (by simp [execOp, go_sem, hρ.1.const, hρ.1.func, hd, (hρ.2 1 rfl)]) ⟨rfl, GrR.refl _⟩
            · refine ⟨fun _ => ?_, fun hg => absurd (by simp [hd]) hg⟩; exact opOk_val (v := .pointer (some ⟨w.heap.size, 19, none⟩)) (w' := wv) (by simp [execOp, go_sem, hρ.1.const, hρ.1.func, hd]) ⟨rfl, GrR.refl _⟩
            · refine ⟨fun _ => ?_, fun hg => absurd (by simp [hd]) hg⟩; (have h19 := cell?_of_below hR C19.out; exact opOk_val (v := .slice pf nf cf) (w' := wv) (by simp [execOp, go_sem, hd, h19]) ⟨rfl, GrR.refl _⟩)
            · refine ⟨fun _ => ?_, fun hg => absurd (by simp [hd]) hg⟩; exact opOk_len rfl _ Try.underlying47 _ (nf) _ (by first | exact hρ.2 _ rfl | exact hd | exact hd.1 | exact hd.2 | simp [hd]) ⟨rfl, GrR.refl _⟩
            · refine ⟨fun _ => ?_, fun hg => absurd (by simp [hd]) hg⟩; exact opOk_val (v := .int .i64 (f4 : Int)) (w' := wv) (by simp [execOp, go_sem, hρ.1.const, hρ.1.func, hd, A11.out]) ⟨rfl, GrR.refl _⟩
            · refine ⟨fun _ => ?_, fun hg => absurd (by simp [hd]) hg⟩; exact opOk_val (v := .int .i64 (LF : Int)) (w' := wv) (by simp [execOp, go_sem, hρ.1.const, hρ.1.func, hd, A12.out]) ⟨rfl, GrR.refl _⟩
            · refine ⟨fun _ => ?_, fun hg => absurd (by simp [hd]) hg⟩; exact opOk_val (v := .bool false) (w' := wv) (by simp [execOp, go_sem, hρ.1.const, hρ.1.func, hd]) ⟨rfl, GrR.refl _⟩
            · exact opOk_val (v := .bool false) (w' := wv) (by simp [execOp, go_sem, hρ.1.const, hρ.1.func, hd]) ⟨rfl, GrR.refl _⟩
          · intro vals wv hR hall
            have hend := hall 31 (by simp)
            simp only [factAt, Is, List.getD_eq_getElem?_getD, List.getElem?_cons_succ, List.getElem?_cons_zero, Option.getD_some] at hend
            clear hall
            simp only [fillFrom, Act.put, hend, List.setIfInBounds_toArray, List.set_cons_zero, List.set_cons_succ]
            rename_i Kk hKk
            refine hKk _ _ ?_
            clear hKk Kk hend
            have G5 := hid (gr_trans G3.out hR)
            have HR5 := hid (HR3.out.mono hR)
            clear hR C0 C1 C2 C3 C4 C5 C6 C7 C8 C9 C10 C11 C12 C13 C14 C15 C16 C17 C18 C19 C20 C21
            obtain ⟨-, -, -, -, -, -, -, -, -, -, -, -, -, -, -, -, -, -, -, -, c20, c21, -⟩ := rowAll HR5.out
            go_wp2_with fail
            refine (putTime_any 4 at_ _).mono ?_
            rintro e w6 ⟨s6, rfl, ho6, hb6⟩
            obtain ⟨p6, c6, hs6⟩ := RdF.form (show RdF (timeChk 4 at_).b s6 w6 from ho6.rd)
            rw [show (timeChk 4 at_).b.length = 12 from HLT.out] at hs6
            have d21 := cell?_of_below hb6 c21
            have G6 := hid (gr_trans G5.out hb6)
            clear c20 c21 hb6 ho6
            subst hs6
            have hfd := field_chunk
            go_wp2_with fail
            refine (putCum_any cum HCM.out _).mono ?_
            rintro e w7 ⟨s7, rfl, ho7, hb7⟩
            obtain ⟨p7, c7, hs7⟩ := RdF.form (show RdF (cumChk cum).b s7 w7 from ho7.rd)
            rw [show (cumChk cum).b.length = 4 from HLC.out] at hs7
            have G7 := hid (gr_trans G6.out hb7)
            clear d21 hb7 ho7
            subst hs7
            go_wp2_with fail
            refine (works_any _).mono ?_
            rintro e w8 ⟨rfl, hb8⟩
            have G8 := hid (gr_trans G7.out hb8)
            clear hb8
            go_wp2_with fail
            go_ret
            exact ⟨rfl, G8.out⟩
end Go.Proofs.Ytfiblhdejglpaaa

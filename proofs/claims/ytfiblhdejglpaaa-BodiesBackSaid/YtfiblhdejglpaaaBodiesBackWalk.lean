/- BodiesBack: the walk of the law. Conditions: none but what the row reads. -/
import Derived.Test.YtfiblhdejglpaaaBodiesSizesWalk
import Derived.Test.YtfiblhdejglpaaaBodBackMath
import Derived.Deep.CutRange
namespace Go.FL
open Go.RowKit
theorem InitAt.rd {w : World} {a b c d e s : Value} {i : InitD} (h : InitAt w (.agg #[a, b, c, d, e, s]) i) : Rd w s i.ck := by
  obtain ⟨s', h1, h2⟩ := h
  simp only [Value.agg.injEq, Array.mk.injEq, List.cons.injEq] at h1
  obtain ⟨-, -, -, -, -, rfl, -⟩ := h1
  exact h2
theorem SackAt.gaps {w : World} {a b s t : Value} {i : SackD} (h : SackAt w (.agg #[a, b, s, t]) i) : RdP w s i.gaps := by
  obtain ⟨s', t', h1, h2, -⟩ := h
  simp only [Value.agg.injEq, Array.mk.injEq, List.cons.injEq] at h1
  obtain ⟨-, -, rfl, -⟩ := h1
  exact h2
end Go.FL
namespace Go.Proofs.Ytfiblhdejglpaaa
open Go.RowKit Go.FL Go.ChangeShapes

set_option maxRecDepth 100000 in
set_option maxHeartbeats 8000000 in
theorem bodiesBack_walk {w : World} {v : Value} (x : AllD) (hx : AllL w (match v with | .agg cs => cs.toList | _ => []) x) :
    Calls Try.prog 9 #[v] w fun e w' => e = .returned (.bool true) ∧ Below w.heap.size w w' := by
  obtain ⟨s1, s2, s3, s4, s5, hcs, q1, q2, q3, q4, q5, wf1, wf2, wf3, wf4, wf5, wf6⟩ := hx
  have HD := hid (show DataAt w (.agg #[.int .u32 (x.data.tsn : Int), .int .u16 (x.data.st : Int), .int .u16 (x.data.ssn : Int), .bool x.data.un, .bool x.data.fi, .bool x.data.la, s1]) x.data from ⟨_, rfl, q1⟩)
  have HI := hid (show InitAt w (.agg #[.int .u32 (x.init.tag : Int), .int .u32 (x.init.rwnd : Int), .int .u16 (x.init.out : Int), .int .u16 (x.init.in_ : Int), .int .u32 (x.init.tsn : Int), s2]) x.init from ⟨_, rfl, q2⟩)
  have HS := hid (show SackAt w (.agg #[.int .u32 (x.sack.cum : Int), .int .u32 (x.sack.rwnd : Int), s3, s4]) x.sack from ⟨_, _, rfl, q3, q4⟩)
  have HF := hid (show FwdAt w (.agg #[.int .u32 (x.fwd.cum : Int), s5]) x.fwd from ⟨_, rfl, q5⟩)
  have HWD := hid wf1
  have HWI := hid wf2
  have HWS := hid wf3
  have HWF := hid wf4
  have HCM := hid wf6
  have HAT := hid wf5
  obtain ⟨pd, cd, rfl, l1, m1, -, -⟩ := q1
  obtain ⟨pi, ci, rfl, l2, m2, -, -⟩ := q2
  obtain ⟨pg, cg, rfl, l3, m3, -, -⟩ := q3
  obtain ⟨pu, cu, rfl, l4, m4, -⟩ := q4.nums
  obtain ⟨pf, cf, rfl, l5, m5, -, -⟩ := q5
  unfold maxLen at m1 m2 m3 m4 m5
  clear q4 wf1 wf2 wf3 wf4
  obtain ⟨ack, data, init, sack, fwd, at_, cum⟩ := x
  obtain ⟨nd, hnd⟩ : ∃ n, n = data.b.length := ⟨_, rfl⟩
  obtain ⟨ni, hni⟩ : ∃ n, n = init.ck.length := ⟨_, rfl⟩
  obtain ⟨ng, hng⟩ : ∃ n, n = sack.gaps.length := ⟨_, rfl⟩
  obtain ⟨nu, hnu⟩ : ∃ n, n = sack.dups.length := ⟨_, rfl⟩
  obtain ⟨nf, hnf⟩ : ∃ n, n = fwd.skips.length := ⟨_, rfl⟩
  obtain ⟨dt, hdt⟩ : ∃ n, n = data.tsn := ⟨_, rfl⟩
  obtain ⟨ds, hds⟩ : ∃ n, n = data.st := ⟨_, rfl⟩
  obtain ⟨dn, hdn⟩ : ∃ n, n = data.ssn := ⟨_, rfl⟩
  obtain ⟨du, hdu⟩ : ∃ n, n = data.un := ⟨_, rfl⟩
  obtain ⟨df, hdf⟩ : ∃ n, n = data.fi := ⟨_, rfl⟩
  obtain ⟨dl, hdl⟩ : ∃ n, n = data.la := ⟨_, rfl⟩
  obtain ⟨it, hit⟩ : ∃ n, n = init.tag := ⟨_, rfl⟩
  obtain ⟨ir, hir⟩ : ∃ n, n = init.rwnd := ⟨_, rfl⟩
  obtain ⟨io, hio⟩ : ∃ n, n = init.out := ⟨_, rfl⟩
  obtain ⟨ii, hii⟩ : ∃ n, n = init.in_ := ⟨_, rfl⟩
  obtain ⟨is_, his⟩ : ∃ n, n = init.tsn := ⟨_, rfl⟩
  obtain ⟨sc, hsc⟩ : ∃ n, n = sack.cum := ⟨_, rfl⟩
  obtain ⟨sr, hsr⟩ : ∃ n, n = sack.rwnd := ⟨_, rfl⟩
  obtain ⟨fc, hfc⟩ : ∃ n, n = fwd.cum := ⟨_, rfl⟩
  have HNI := hid (show init.ck.length = ni from hni.symm)
  have HND := hid (show data.b.length = nd from hnd.symm)
  have HNG := hid (show sack.gaps.length = ng from hng.symm)
  have HNU := hid (show sack.dups.length = nu from hnu.symm)
  have HNF := hid (show fwd.skips.length = nf from hnf.symm)
  have HIT := hid hit
  have HIO := hid hio
  have HII := hid hii
  have HIR := hid hir
  have HIS := hid his
  have HIR := hid hir
  have HIS := hid his
  simp only at *
  simp only [← hnd, ← hni, ← hng, ← hnu, ← hnf, ← hdt, ← hds, ← hdn, ← hdu, ← hdf, ← hdl, ← hit, ← hir, ← hio, ← hii, ← his, ← hsc, ← hsr, ← hfc] at hcs HD HI HS HF l1 l2 l3 l4 l5
  obtain ⟨cs, rfl⟩ : ∃ cs, v = .agg cs := by
    cases v <;> simp at hcs
    exact ⟨_, rfl⟩
  simp only at hcs
  obtain rfl : cs = #[.bool ack, .int .u32 (dt : Int), .int .u16 (ds : Int), .int .u16 (dn : Int), .bool du, .bool df, .bool dl, .slice pd nd cd, .int .u32 (it : Int), .int .u32 (ir : Int), .int .u16 (io : Int), .int .u16 (ii : Int), .int .u32 (is_ : Int), .slice pi ni ci, .int .u32 (sc : Int), .int .u32 (sr : Int), .slice pg ng cg, .slice pu nu cu, .int .u32 (fc : Int), .slice pf nf cf, .int .i64 at_, .int .u32 (cum : Int)] := by cases cs; simp at hcs; subst hcs; rfl
  clear hcs hnd hni hng hnu hnf hdt hds hdn hdu hdf hdl hit hir hio hii his hsc hsr hfc
  obtain ⟨W, hW⟩ : ∃ W, W = w.alloc (.cells #[.bool ack, .int .u32 (dt : Int), .int .u16 (ds : Int), .int .u16 (dn : Int), .bool du, .bool df, .bool dl, .slice pd nd cd, .int .u32 (it : Int), .int .u32 (ir : Int), .int .u16 (io : Int), .int .u16 (ii : Int), .int .u32 (is_ : Int), .slice pi ni ci, .int .u32 (sc : Int), .int .u32 (sr : Int), .slice pg ng cg, .slice pu nu cu, .int .u32 (fc : Int), .slice pf nf cf, .int .i64 at_, .int .u32 (cum : Int)] 72 (0, 0)) := ⟨_, rfl⟩
  have HR := hid (show RowV W w.heap.size 72 [.bool ack, .int .u32 (dt : Int), .int .u16 (ds : Int), .int .u16 (dn : Int), .bool du, .bool df, .bool dl, .slice pd nd cd, .int .u32 (it : Int), .int .u32 (ir : Int), .int .u16 (io : Int), .int .u16 (ii : Int), .int .u32 (is_ : Int), .slice pi ni ci, .int .u32 (sc : Int), .int .u32 (sr : Int), .slice pg ng cg, .slice pu nu cu, .int .u32 (fc : Int), .slice pf nf cf, .int .i64 at_, .int .u32 (cum : Int)] by rw [hW]; exact RowV.new w 72 _)
  have G0 := hid (show Below w.heap.size w W by rw [hW]; exact (Below.refl _ _).alloc (Nat.le_refl _) _)
  obtain ⟨c0, c1, c2, c3, c4, c5, c6, c7, c8, c9, c10, c11, c12, c13, c14, c15, c16, c17, c18, c19, c20, c21, -⟩ := rowAll HR.out
  rw [hW] at c0 c1 c2 c3 c4 c5 c6 c7 c8 c9 c10 c11 c12 c13 c14 c15 c16 c17 c18 c19 c20 c21
  have HE := hid hW
  clear hW
  go_enter Try.func9, Try.ntmps9
  go_wp2_with fail
  rw [← HE.out]
  refine (many_any _ _ sack fwd _ (HS.out.mono G0.out) (HF.out.mono G0.out)).mono ?_
  rw [HNG.out, HNU.out, HNF.out]
  rintro e w1 ⟨rfl, hb1⟩
  have HR1 := hid (HR.out.mono hb1)
  have G1 := hid (gr_trans G0.out hb1)
  clear hb1 c0 c1 c2 c3 c4 c5 c6 c7 c8 c9 c10 c11 c12 c13 c14 c15 c16 c17 c18 c19 c20 c21
  obtain ⟨c0, c1, c2, c3, c4, c5, c6, c7, c8, c9, c10, c11, c12, c13, c14, c15, c16, c17, c18, c19, c20, c21, -⟩ := rowAll HR1.out
  by_cases hm : 2048 < ng ∨ 2048 < nu ∨ 2048 < nf
  · rw [decide_eq_true hm]
    go_wp2_with fail
    refine (works_any _).mono ?_
    rintro e w2 ⟨rfl, hb2⟩
    go_wp2_with fail
    go_ret
    exact ⟨rfl, gr_trans G1.out hb2⟩
  · rw [decide_eq_false hm]
    have hng : ng ≤ 2048 := by omega
    have hnu : nu ≤ 2048 := by omega
    have hnf : nf ≤ 2048 := by omega
    clear hm
    by_cases h1 : 8192 < nd
    · have e1 : (8192 : Int) < (nd : Int) := by omega
      go_wp2_with fail
      refine (works_any _).mono ?_
      rintro e w2 ⟨rfl, hb2⟩
      go_wp2_with fail
      go_ret
      exact ⟨rfl, gr_trans G1.out hb2⟩
    · have e1 : ¬ (8192 : Int) < (nd : Int) := by omega
      by_cases h2 : 8192 < ni
      · have e2 : (8192 : Int) < (ni : Int) := by omega
        go_wp2_with fail
        refine (works_any _).mono ?_
        rintro e w2 ⟨rfl, hb2⟩
        go_wp2_with fail
        go_ret
        exact ⟨rfl, gr_trans G1.out hb2⟩
      · have e2 : ¬ (8192 : Int) < (ni : Int) := by omega
        obtain ⟨d3, er3, hgd⟩ : ∃ d3 er3, dataGet data.chk = (d3, er3) := ⟨_, _, rfl⟩
        have HGD := hid hgd
        have HD1 := hid (show 0 < nd → d3 = data ∧ er3 = 0 from fun h => by rw [dataGet_chk data HWD.out, HND.out, if_pos h] at hgd; exact ⟨(Prod.mk.inj hgd).1.symm, (Prod.mk.inj hgd).2.symm⟩)
        have HD0 := hid (show ¬ 0 < nd → er3 = 7 from fun h => by rw [dataGet_chk data HWD.out, HND.out, if_neg h] at hgd; exact (Prod.mk.inj hgd).2.symm)
        have HLD := hid (show data.chk.b.length ≤ 1000000 by show data.body.length ≤ _; rw [DataD.body_length, HND.out]; omega)
        clear hgd
        go_wp2_with fail
        refine (putData_any _ data HWD.out _ (HD.out.mono G1.out) (by rw [HND.out]; omega)).mono ?_
        rintro e w2 ⟨s2, rfl, ho2, hb2⟩
        have HS2 := hid ho2.rd
        have G2 := hid (gr_trans G1.out hb2)
        have HR2 := hid (HR1.out.mono hb2)
        clear ho2 hb2 c0 c1 c2 c3 c4 c5 c6 c7 c8 c9 c10 c11 c12 c13 c14 c15 c16 c17 c18 c19 c20 c21
        go_wp2_with fail
        refine (getData_any _ data.chk _ ⟨s2, rfl, HS2.out⟩ HLD.out).mono ?_
        rintro e w3 ⟨s3, rfl, ho3, hb3⟩
        rw [HGD.out] at ho3 ⊢
        simp only [DataD.vals]
        obtain ⟨p3, c3, hs3⟩ := RdF.form (show RdF d3.b s3 w3 from ho3.rd)
        obtain ⟨n3, hn3⟩ : ∃ n, n = d3.b.length := ⟨_, rfl⟩
        rw [← hn3] at hs3
        subst hs3
        clear hn3
        have HS3 := hid ho3.rd
        have G3 := hid (gr_trans G2.out hb3)
        have HR3 := hid (HR2.out.mono hb3)
        obtain ⟨W4, hW4⟩ : ∃ W4, W4 = w3.alloc (.cells #[.int .u32 (d3.tsn : Int), .int .u16 (d3.st : Int), .int .u16 (d3.ssn : Int), .bool d3.un, .bool d3.fi, .bool d3.la, .slice p3 n3 c3] 26 (0, 0)) := ⟨_, rfl⟩
        have g4 : Below w3.heap.size w3 W4 := by rw [hW4]; exact (Below.refl _ _).alloc (Nat.le_refl _) _
        have HV4 := hid (show RowV W4 w3.heap.size 26 [.int .u32 (d3.tsn : Int), .int .u16 (d3.st : Int), .int .u16 (d3.ssn : Int), .bool d3.un, .bool d3.fi, .bool d3.la, .slice p3 n3 c3] by rw [hW4]; exact RowV.new w3 26 _)
        have G4 := hid (gr_trans G3.out g4)
        have HR4 := hid (HR3.out.mono g4)
        have HT4 := hid (show DataAt W4 (.agg #[.int .u32 (d3.tsn : Int), .int .u16 (d3.st : Int), .int .u16 (d3.ssn : Int), .bool d3.un, .bool d3.fi, .bool d3.la, .slice p3 n3 c3]) d3 from ⟨_, rfl, HS3.out.mono g4⟩)
        have HE4 := hid hW4
        clear ho3 hb3 hW4 g4
        go_upto_region 4 with fail
        rw [← HE4.out]
        go_cut [64] from 46 to 64 (fun s64 wx => s64 = .bool false ∧ RowV wx w.heap.size 72 [.bool ack, .int .u32 (dt : Int), .int .u16 (ds : Int), .int .u16 (dn : Int), .bool du, .bool df, .bool dl, .slice pd nd cd, .int .u32 (it : Int), .int .u32 (ir : Int), .int .u16 (io : Int), .int .u16 (ii : Int), .int .u32 (is_ : Int), .slice pi ni ci, .int .u32 (sc : Int), .int .u32 (sr : Int), .slice pg ng cg, .slice pu nu cu, .int .u32 (fc : Int), .slice pf nf cf, .int .i64 at_, .int .u32 (cum : Int)] ∧ Below w.heap.size w wx)
        case first =>
          obtain ⟨c0, c1, c2, c3, c4, c5, c6, c7, c8, c9, c10, c11, c12, c13, c14, c15, c16, c17, c18, c19, c20, c21, -⟩ := rowAll HR4.out
          obtain ⟨k0, k1, k2, k3, k4, k5, k6, -⟩ := rowData HV4.out
          by_cases h0 : 0 < nd
          · have HQ := hid (HD1.out h0)
            have hz : (er3 == 0) = true := by rw [HQ.out.2]; rfl
            have hn : (0 : Int) < (nd : Int) := by omega
            have hn2 : decide ((0 : Int) < (nd : Int)) = true := decide_eq_true hn
            go_wp2_with fail
            refine (sameData_yes _ _ data _ (show DataAt W4 _ data by rw [← HQ.out.1]; exact HT4.out) (HD.out.mono G4.out)).mono ?_
            rintro e w5 ⟨rfl, hb5⟩
            have HR5 := hid (HR4.out.mono hb5)
            have G5 := hid (gr_trans G4.out hb5)
            clear hb5 c0 c1 c2 c3 c4 c5 c6 c7 c8 c9 c10 c11 c12 c13 c14 c15 c16 c17 c18 c19 c20 c21 k0 k1 k2 k3 k4 k5 k6
            go_wp2_with fail
            go_meet
            exact ⟨rfl, HR5.out, G5.out⟩
          · have HQ := hid (HD0.out h0)
            have hz : (er3 == 0) = false := by rw [HQ.out]; rfl
            have hn : ¬ (0 : Int) < (nd : Int) := by omega
            have hn2 : decide ((0 : Int) < (nd : Int)) = false := decide_eq_false hn
            go_wp2_with fail
            go_meet
            exact ⟨rfl, HR4.out, G4.out⟩
        case rest =>
          obtain ⟨rfl, hrow, hbel⟩ := hcut
          have HRA := hid hrow
          have GA := hid hbel
          clear hrow hbel HD0 HD1 HV4 HT4 HE4 HGD HS2 HS3 HR4 G4 HR3 G3 HR2 G2
          obtain ⟨c0, c1, c2, c3, c4, c5, c6, c7, c8, c9, c10, c11, c12, c13, c14, c15, c16, c17, c18, c19, c20, c21, -⟩ := rowAll HRA.out
          have HK2 := hid (show initGet (init.chk 2) = if (decide (0 < ni) && initB init) = true then (init, 0) else (.zero, 7) by
            rw [initGet_chk 2 init HWI.out (by rw [HNI.out]; omega) (fun h => absurd rfl h) (.inr rfl), HNI.out, show decide ((2 : UInt8) = 1) = false from rfl, Bool.false_or, Bool.and_comm])
          have HK1 := hid (show initGet (InitD.chk 1 ⟨init.tag, init.rwnd, init.out, init.in_, init.tsn, []⟩) = if (true && initB init) = true then (⟨init.tag, init.rwnd, init.out, init.in_, init.tsn, []⟩, 0) else (.zero, 7) by
            rw [initGet_chk 1 ⟨init.tag, init.rwnd, init.out, init.in_, init.tsn, []⟩ HWI.out (by simp) (fun _ => rfl) (.inl rfl), show initB ⟨init.tag, init.rwnd, init.out, init.in_, init.tsn, []⟩ = initB init from rfl, show decide ((1 : UInt8) = 1) = true from rfl, Bool.true_or, Bool.and_true, Bool.true_and])
          go_upto_if 71 with fail
          go_cut [0, 5, 6] from 65 to 80 (fun s0 s5 s6 wx => ∃ (kd : UInt8) (cb : Bool) (px : Option Addr) (nx cx : Nat) (d2 : InitD), s5 = .int .u8 (kd.toNat : Int) ∧ s6 = .bool cb ∧ RowV wx w.heap.size 72 [.bool ack, .int .u32 (dt : Int), .int .u16 (ds : Int), .int .u16 (dn : Int), .bool du, .bool df, .bool dl, .slice pd nd cd, .int .u32 (it : Int), .int .u32 (ir : Int), .int .u16 (io : Int), .int .u16 (ii : Int), .int .u32 (is_ : Int), .slice px nx cx, .int .u32 (sc : Int), .int .u32 (sr : Int), .slice pg ng cg, .slice pu nu cu, .int .u32 (fc : Int), .slice pf nf cf, .int .i64 at_, .int .u32 (cum : Int)] ∧ Below w.heap.size w wx ∧ Rd wx (.slice px nx cx) d2.ck ∧ (d2.tag = init.tag ∧ d2.rwnd = init.rwnd ∧ d2.out = init.out ∧ d2.in_ = init.in_ ∧ d2.tsn = init.tsn) ∧ d2.wf ∧ d2.ck.length ≤ 8192 ∧ cx ≤ 2 ^ 63 - 1 ∧ initGet (d2.chk kd) = if (cb && initB init) = true then (d2, 0) else (.zero, 7))
          case first =>
            cases ack
            case true =>
              go_wp2_with fail
              go_meet
              exact ⟨2, decide (0 < ni), pi, ni, ci, init, rfl, rfl, HRA.out, GA.out, (HI.out.mono GA.out).rd, ⟨rfl, rfl, rfl, rfl, rfl⟩, HWI.out, by rw [HNI.out]; omega, m2, HK2.out⟩
            case false =>
              by_cases h0 : ni = 0
              · have hz : ((ni : Int) == 0) = true := by simp [h0]
                have HZ := hid (show init.ck = [] from List.length_eq_zero_iff.1 (by rw [HNI.out, h0]))
                clear h0
                go_wp2_with fail
                go_meet
                exact ⟨1, true, pi, ni, ci, ⟨init.tag, init.rwnd, init.out, init.in_, init.tsn, []⟩, rfl, congrArg Value.bool hz, HRA.out, GA.out, by have := (HI.out.mono GA.out).rd; rwa [HZ.out] at this, ⟨rfl, rfl, rfl, rfl, rfl⟩, HWI.out, by simp, m2, HK1.out⟩
              · have hz : ((ni : Int) == 0) = false := by simp; omega
                have y13 := HRA.out.frozen 13
                clear h0
                go_wp2_with fail
                go_meet
                exact ⟨1, true, none, 0, 0, ⟨init.tag, init.rwnd, init.out, init.in_, init.tsn, []⟩, rfl, rfl, HRA.out.store 13 (.slice none 0 0), GA.out.setCell (Nat.le_refl _) _, Rd.nil _, ⟨rfl, rfl, rfl, rfl, rfl⟩, HWI.out, by simp, by omega, HK1.out⟩
          case rest =>
            obtain ⟨kd, cb, px, nx, cx, d2, rfl, rfl, hrow, hbel, hrd, ⟨t1, t2, t3, t4, t5⟩, hw2, hl2, m6, hgi⟩ := hcut
            have HRB := hid hrow
            have GB := hid hbel
            have HW2 := hid hw2
            have HL2 := hid hl2
            have hnn : nx = d2.ck.length := by
              obtain ⟨pp, cc, he, -⟩ := hrd
              simp only [Value.slice.injEq] at he
              exact he.2.1
            have hn2 : nx ≤ 8192 := by omega
            have HI2 := hid (show InitAt wc (.agg #[.int .u32 (it : Int), .int .u32 (ir : Int), .int .u16 (io : Int), .int .u16 (ii : Int), .int .u32 (is_ : Int), .slice px nx cx]) d2 from ⟨_, by rw [t1, t2, t3, t4, t5, HIT.out, HIO.out, HII.out, HIR.out, HIS.out], hrd⟩)
            have HLB := hid (show (d2.chk kd).b.length ≤ 1000000 by
              show (d2.body kd).length ≤ _
              unfold InitD.body
              split
              · rw [padded_length, InitD.more_length, roundN]
                omega
              · rw [InitD.head_length]
                omega)
            obtain ⟨d4, er4, hgd⟩ : ∃ d4 er4, initGet (d2.chk kd) = (d4, er4) := ⟨_, _, rfl⟩
            have HGD := hid hgd
            rw [hgd] at hgi
            have HB := hid (show initB init = (decide (it ≠ 0) && decide (io ≠ 0) && decide (ii ≠ 0)) by unfold initB; rw [HIT.out, HIO.out, HII.out])
            have HD1 := hid (show (cb && initB init) = true → d4 = d2 ∧ er4 = 0 from fun h => by rw [if_pos h] at hgi; exact ⟨(Prod.mk.inj hgi).1, (Prod.mk.inj hgi).2⟩)
            have HD0 := hid (show (cb && initB init) = false → er4 = 7 from fun h => by rw [if_neg (by rw [h]; simp)] at hgi; exact (Prod.mk.inj hgi).2)
            clear hgd hgi hrow hbel hw2 hl2 hrd t1 t2 t3 t4 t5 hnn HRA GA c0 c1 c2 c3 c4 c5 c6 c7 c8 c9 c10 c11 c12 c13 c14 c15 c16 c17 c18 c19 c20 c21
            obtain ⟨c0, c1, c2, c3, c4, c5, c6, c7, c8, c9, c10, c11, c12, c13, c14, c15, c16, c17, c18, c19, c20, c21, -⟩ := rowAll HRB.out
            go_wp2_with fail
            refine (putInit_any kd _ d2 HW2.out _ HI2.out (Nat.le_trans HL2.out (by omega))).mono ?_
            rintro e w2 ⟨s2, rfl, ho2, hb2⟩
            have HS2 := hid ho2.rd
            have G2 := hid (gr_trans GB.out hb2)
            have HR2 := hid (HRB.out.mono hb2)
            have HI3 := hid (HI2.out.mono hb2)
            clear ho2 hb2 c0 c1 c2 c3 c4 c5 c6 c7 c8 c9 c10 c11 c12 c13 c14 c15 c16 c17 c18 c19 c20 c21
            go_wp2_with fail
            refine (getInit_any _ (d2.chk kd) _ ⟨s2, rfl, HS2.out⟩ HLB.out).mono ?_
            rintro e w3 ⟨s4, rfl, ho3, hb3⟩
            rw [HGD.out] at ho3 ⊢
            simp only [InitD.vals]
            obtain ⟨p3, c3, hs3⟩ := RdF.form (show RdF d4.ck s4 w3 from ho3.rd)
            obtain ⟨n3, hn3⟩ : ∃ n, n = d4.ck.length := ⟨_, rfl⟩
            rw [← hn3] at hs3
            subst hs3
            clear hn3
            have HS3 := hid ho3.rd
            have G3 := hid (gr_trans G2.out hb3)
            have HR3 := hid (HR2.out.mono hb3)
            obtain ⟨W4, hW4⟩ : ∃ W4, W4 = w3.alloc (.cells #[.int .u32 (d4.tag : Int), .int .u32 (d4.rwnd : Int), .int .u16 (d4.out : Int), .int .u16 (d4.in_ : Int), .int .u32 (d4.tsn : Int), .slice p3 n3 c3] 70 (0, 0)) := ⟨_, rfl⟩
            have g4 : Below w3.heap.size w3 W4 := by rw [hW4]; exact (Below.refl _ _).alloc (Nat.le_refl _) _
            have HV4 := hid (show RowV W4 w3.heap.size 70 [.int .u32 (d4.tag : Int), .int .u32 (d4.rwnd : Int), .int .u16 (d4.out : Int), .int .u16 (d4.in_ : Int), .int .u32 (d4.tsn : Int), .slice p3 n3 c3] by rw [hW4]; exact RowV.new w3 70 _)
            have G4 := hid (gr_trans G3.out g4)
            have HR4 := hid (HR3.out.mono g4)
            have HI4 := hid ((HI3.out.mono hb3).mono g4)
            have HT4 := hid (show InitAt W4 (.agg #[.int .u32 (d4.tag : Int), .int .u32 (d4.rwnd : Int), .int .u16 (d4.out : Int), .int .u16 (d4.in_ : Int), .int .u32 (d4.tsn : Int), .slice p3 n3 c3]) d4 from ⟨_, rfl, HS3.out.mono g4⟩)
            have HE4 := hid hW4
            clear ho3 hb3 hW4 g4
            go_upto_region 15 with fail
            rw [← HE4.out]
            go_cut [6, 121] from 89 to 121 (fun _ s121 wx => s121 = .bool false ∧ RowV wx w.heap.size 72 [.bool ack, .int .u32 (dt : Int), .int .u16 (ds : Int), .int .u16 (dn : Int), .bool du, .bool df, .bool dl, .slice pd nd cd, .int .u32 (it : Int), .int .u32 (ir : Int), .int .u16 (io : Int), .int .u16 (ii : Int), .int .u32 (is_ : Int), .slice px nx cx, .int .u32 (sc : Int), .int .u32 (sr : Int), .slice pg ng cg, .slice pu nu cu, .int .u32 (fc : Int), .slice pf nf cf, .int .i64 at_, .int .u32 (cum : Int)] ∧ Below w.heap.size w wx)
            case first =>
              obtain ⟨c0, c1, c2, c3, c4, c5, c6, c7, c8, c9, c10, c11, c12, c13, c14, c15, c16, c17, c18, c19, c20, c21, -⟩ := rowAll HR4.out
              obtain ⟨k0, k1, k2, k3, k4, k5, -⟩ := rowInit HV4.out
              by_cases q0 : cb = true
              · have hcb : cb = true := q0
                by_cases q1 : it ≠ 0
                · have z1 : ((it : Int) != 0) = true := by simp; omega
                  by_cases q2 : io ≠ 0
                  · have z2 : ((io : Int) != 0) = true := by simp; omega
                    by_cases q3 : ii ≠ 0
                    · have z3 : ((ii : Int) != 0) = true := by simp; omega
                      have HMY := hid (show (cb && initB init) = true by rw [HB.out, hcb]; simp; omega)
                      clear q1 q2 q3
                      have HQ := hid (HD1.out HMY.out)
                      have hz : (er4 == 0) = true := by rw [HQ.out.2]; rfl
                      go_wp2_with fail
                      refine (sameInit_yes _ _ d2 _ (show InitAt W4 _ d2 by rw [← HQ.out.1]; exact HT4.out) HI4.out).mono ?_
                      rintro e w5 ⟨rfl, hb5⟩
                      have HR5 := hid (HR4.out.mono hb5)
                      have G5 := hid (gr_trans G4.out hb5)
                      clear hb5 c0 c1 c2 c3 c4 c5 c6 c7 c8 c9 c10 c11 c12 c13 c14 c15 c16 c17 c18 c19 c20 c21 k0 k1 k2 k3 k4 k5
                      go_wp2_with fail
                      go_meet
                      exact ⟨rfl, HR5.out, G5.out⟩
                    · have z3 : ((ii : Int) != 0) = false := by simp; omega
                      have HMY := hid (show (cb && initB init) = false by rw [HB.out, decide_eq_false q3]; simp)
                      clear q1 q2 q3
                      have HQ := hid (HD0.out HMY.out)
                      have hz : (er4 == 0) = false := by rw [HQ.out]; rfl
                      go_wp2_with fail
                      go_meet
                      exact ⟨rfl, HR4.out, G4.out⟩
                  · have z2 : ((io : Int) != 0) = false := by simp; omega
                    have HMY := hid (show (cb && initB init) = false by rw [HB.out, decide_eq_false q2]; simp)
                    clear q1 q2
                    have HQ := hid (HD0.out HMY.out)
                    have hz : (er4 == 0) = false := by rw [HQ.out]; rfl
                    go_wp2_with fail
                    go_meet
                    exact ⟨rfl, HR4.out, G4.out⟩
                · have z1 : ((it : Int) != 0) = false := by simp; omega
                  have HMY := hid (show (cb && initB init) = false by rw [HB.out, decide_eq_false q1]; simp)
                  clear q1
                  have HQ := hid (HD0.out HMY.out)
                  have hz : (er4 == 0) = false := by rw [HQ.out]; rfl
                  go_wp2_with fail
                  go_meet
                  exact ⟨rfl, HR4.out, G4.out⟩
              · have hcb : cb = false := by simpa using q0
                have HMY := hid (show (cb && initB init) = false by rw [hcb]; rfl)
                clear q0
                have HQ := hid (HD0.out HMY.out)
                have hz : (er4 == 0) = false := by rw [HQ.out]; rfl
                go_wp2_with fail
                go_meet
                exact ⟨rfl, HR4.out, G4.out⟩
            case rest =>
              obtain ⟨rfl, hrow, hbel⟩ := hcut
              have HRC := hid hrow
              have GC := hid hbel
              clear hrow hbel HD0 HD1 HV4 HT4 HE4 HGD HS2 HS3 HR4 G4 HR3 G3 HR2 G2 HI2 HI3 HI4
              obtain ⟨ap, hap⟩ : ∃ b, b = (apartS sack.gaps).1 := ⟨_, rfl⟩
              have HAP := hid hap
              obtain ⟨d5, er5, hgd⟩ : ∃ d5 er5, sackGet sack.chk = (d5, er5) := ⟨_, _, rfl⟩
              have HGD := hid hgd
              rw [sackGet_chk sack HWS.out (by rw [HNG.out]; omega) (by rw [HNU.out]; omega), ← hap] at hgd
              have HD1 := hid (show ap = true → d5 = sack ∧ er5 = 0 from fun h => by rw [if_pos h] at hgd; exact ⟨(Prod.mk.inj hgd).1.symm, (Prod.mk.inj hgd).2.symm⟩)
              have HD0 := hid (show ap = false → er5 = 7 from fun h => by rw [if_neg (by rw [h]; simp)] at hgd; exact (Prod.mk.inj hgd).2.symm)
              have HLS := hid (show sack.chk.b.length ≤ 1000000 by show sack.body.length ≤ _; rw [SackD.body_length, HNG.out, HNU.out]; omega)
              clear hgd hap
              obtain ⟨c0, c1, c2, c3, c4, c5, c6, c7, c8, c9, c10, c11, c12, c13, c14, c15, c16, c17, c18, c19, c20, c21, -⟩ := rowAll HRC.out
              go_wp2_with fail
              refine (putSack_any _ sack HWS.out _ (HS.out.mono GC.out) (by rw [HNG.out]; omega) (by rw [HNU.out]; omega)).mono ?_
              rintro e w2 ⟨s2, rfl, ho2, hb2⟩
              have HS2 := hid ho2.rd
              have G2 := hid (gr_trans GC.out hb2)
              have HR2 := hid (HRC.out.mono hb2)
              clear ho2 hb2 c0 c1 c2 c3 c4 c5 c6 c7 c8 c9 c10 c11 c12 c13 c14 c15 c16 c17 c18 c19 c20 c21
              go_wp2_with fail
              refine (getSack_any _ sack.chk _ ⟨s2, rfl, HS2.out⟩ HLS.out).mono ?_
              rintro e w3 ⟨v3, rfl, ho3, hb3⟩
              rw [HGD.out] at ho3 ⊢
              obtain ⟨sg, sd, rfl, hg3, hd3⟩ := ho3
              simp only at hg3 hd3
              obtain ⟨p3, c3, hp3, -, -, -, -⟩ := id hg3
              obtain ⟨q3, e3, hq3, -, -, -⟩ := hd3.nums
              obtain ⟨n3, hn3⟩ : ∃ n, n = d5.gaps.length := ⟨_, rfl⟩
              obtain ⟨m3', hm3⟩ : ∃ n, n = d5.dups.length := ⟨_, rfl⟩
              rw [← hn3] at hp3
              rw [← hm3] at hq3
              subst hp3 hq3
              clear hn3 hm3
              have G3 := hid (gr_trans G2.out hb3)
              have HR3 := hid (HR2.out.mono hb3)
              obtain ⟨W4, hW4⟩ : ∃ W4, W4 = w3.alloc (.cells #[.int .u32 (d5.cum : Int), .int .u32 (d5.rwnd : Int), .slice p3 n3 c3, .slice q3 m3' e3] 45 (0, 0)) := ⟨_, rfl⟩
              have g4 : Below w3.heap.size w3 W4 := by rw [hW4]; exact (Below.refl _ _).alloc (Nat.le_refl _) _
              have HV4 := hid (show RowV W4 w3.heap.size 45 [.int .u32 (d5.cum : Int), .int .u32 (d5.rwnd : Int), .slice p3 n3 c3, .slice q3 m3' e3] by rw [hW4]; exact RowV.new w3 45 _)
              have G4 := hid (gr_trans G3.out g4)
              have HR4 := hid (HR3.out.mono g4)
              have HT4 := hid (show SackAt W4 (.agg #[.int .u32 (d5.cum : Int), .int .u32 (d5.rwnd : Int), .slice p3 n3 c3, .slice q3 m3' e3]) d5 from (show SackAt w3 (.agg #[.int .u32 (d5.cum : Int), .int .u32 (d5.rwnd : Int), .slice p3 n3 c3, .slice q3 m3' e3]) d5 from ⟨_, _, rfl, hg3, hd3⟩).mono g4)
              have HE4 := hid hW4
              clear hg3 hd3 hb3 hW4 g4
              go_wp2_with fail
              rw [← HE4.out]
              go_loopw [9, 10, 11] (fun y9 y10 _ wr => ∃ (k : Nat), k ≤ ng ∧ y10 = .int .i64 (k : Int) ∧ y9 = .bool (apartS (sack.gaps.take k)).1 ∧ Hid (Below W4.heap.size W4 wr)) (fun _ y10 _ _ => ng - (intOf y10).toNat)
              case atStart => exact ⟨0, Nat.zero_le _, rfl, rfl, hid (Below.refl _ _)⟩
              case round =>
                obtain ⟨k, hk, rfl, rfl, HB⟩ := hrel
                have GW := hid (gr_trans G4.out HB.out)
                have HRW := hid (HR4.out.mono HB.out)
                obtain ⟨c0, c1, c2, c3, c4, c5, c6, c7, c8, c9, c10, c11, c12, c13, c14, c15, c16, c17, c18, c19, c20, c21, -⟩ := rowAll HRW.out
                by_cases hlt : k < ng
                · have hlt2 : k < sack.gaps.length := by rw [HNG.out]; exact hlt
                  obtain ⟨pp, cc, hpe, -, -, -, hcel⟩ := (HS.out.mono GW.out).gaps
                  simp only [Value.slice.injEq] at hpe
                  obtain ⟨rfl, -, rfl⟩ := hpe
                  obtain ⟨bb, off, rfl, d0, d1⟩ := hcel k hlt2
                  have hp1 : k - 1 < sack.gaps.length := by omega
                  obtain ⟨b', off', he, -, d2⟩ := hcel (k - 1) hp1
                  simp only [Option.some.injEq, Addr.mk.injEq] at he
                  obtain ⟨rfl, rfl, -⟩ := he
                  have hat1 := apart_take sack.gaps k hlt2
                  obtain ⟨b0, hb0⟩ : ∃ b, b = (apartS (sack.gaps.take k)).1 := ⟨_, rfl⟩
                  rw [← hb0] at hat1 ⊢
                  have hgw := HWS.out.2.2.1 _ (List.getElem_mem hlt2)
                  obtain ⟨ga, hga⟩ : ∃ n, n = sack.gaps[k].1 := ⟨_, rfl⟩
                  obtain ⟨gb, hgb⟩ : ∃ n, n = sack.gaps[k].2 := ⟨_, rfl⟩
                  rw [← hga, ← hgb] at hgw hat1
                  rw [← hga] at d0
                  rw [← hgb] at d1
                  obtain ⟨q1, q2⟩ := hgw
                  obtain ⟨gp, hgp⟩ : ∃ n, n = (sack.gaps[k - 1]'hp1).2 := ⟨_, rfl⟩
                  have hgp2 := (HWS.out.2.2.1 _ (List.getElem_mem hp1)).2
                  rw [← hgp] at hat1 d2 hgp2
                  obtain ⟨k1, hk1⟩ : ∃ n, n = k - 1 := ⟨_, rfl⟩
                  rw [← hk1] at d2
                  obtain ⟨gp1, hgp1⟩ : ∃ n, n = gp + 1 := ⟨_, rfl⟩
                  rw [← hgp1] at hat1
                  have i0 : (0 : Int) ≤ (k : Int) := by omega
                  have i1 : (k : Int) < (ng : Int) := by omega
                  have i2 : ((k : Int)).toNat = k := by omega
                  have j0 : (0 : Int) ≤ (k1 : Int) := by omega
                  have j1 : (k1 : Int) < (ng : Int) := by omega
                  have j2 : ((k1 : Int)).toNat = k1 := by omega
                  have hwa : IntKind.i64.wrap (ga : Int) = (ga : Int) := by rw [IntKind.wrap_i64]; omega
                  have hwp : IntKind.i64.wrap (gp : Int) = (gp : Int) := by rw [IntKind.wrap_i64]; omega
                  have hwq : IntKind.i64.wrap ((gp : Int) + 1) = (gp1 : Int) := by rw [IntKind.wrap_i64]; omega
                  have HWK := hid (show k ≠ 0 → IntKind.i64.wrap ((k : Int) - 1) = (k1 : Int) from fun h => by rw [IntKind.wrap_i64]; omega)
                  have HA := hid hat1
                  have HP1 := hid hp1
                  have HLT2 := hid hlt2
                  obtain ⟨W5, hW5⟩ : ∃ W5, W5 = wr.alloc (.cells #[.int .u16 (ga : Int), .int .u16 (gb : Int)] 80 (0, 0)) := ⟨_, rfl⟩
                  have g5 : Below wr.heap.size wr W5 := by rw [hW5]; exact (Below.refl _ _).alloc (Nat.le_refl _) _
                  have HV5 := hid (show RowV W5 wr.heap.size 80 [.int .u16 (ga : Int), .int .u16 (gb : Int)] by rw [hW5]; exact RowV.new wr 80 _)
                  have HB5 := hid (gr_trans HB.out g5)
                  have HE5 := hid hW5
                  have D2 := hid (cell?_of_below g5 d2)
                  have HR5 := hid (HRW.out.mono g5)
                  clear hga hgb hb0 hcel hgp hgp2 hk1 hgp1 hat1 hp1 hlt2 g5 hW5 d2 q1 q2
                  go_wp2_with fail
                  rw [← HE5.out]
                  clear d0 d1 c0 c1 c2 c3 c4 c5 c6 c7 c8 c9 c10 c11 c12 c13 c14 c15 c16 c17 c18 c19 c20 c21
                  obtain ⟨c0, c1, c2, c3, c4, c5, c6, c7, c8, c9, c10, c11, c12, c13, c14, c15, c16, c17, c18, c19, c20, c21, -⟩ := rowAll HR5.out
                  have k0 := HV5.out.at 0 (by simp)
                  have kk1 := HV5.out.at 1 (by simp)
                  simp only [List.getElem_cons_succ, List.getElem_cons_zero] at k0 kk1
                  have d2 := D2.out
                  cases b0
                  case false =>
                    have HRES := hid (show (apartS (sack.gaps.take (k + 1))).1 = false by rw [HA.out]; rfl)
                    go_quiet (fail)
                    go_wp2_with fail
                    go_roundw
                    case rel => exact ⟨k + 1, by omega, by go_num, congrArg Value.bool HRES.out.symm, hid (gr_trans HB5.out (gr_drewN _ _))⟩
                    case measure => simp [intOf]; omega
                  case true =>
                    by_cases q1 : ga ≤ gb
                    · have z1 : decide (ga ≤ gb) = true := decide_eq_true q1
                      have z1' : decide ((ga : Int) ≤ (gb : Int)) = true := decide_eq_true (by omega)
                      by_cases q2 : 2 ≤ ga
                      · have z2 : decide (2 ≤ ga) = true := decide_eq_true q2
                        have z2' : decide ((2 : Int) ≤ (ga : Int)) = true := decide_eq_true (by omega)
                        by_cases q3 : k = 0
                        · have z3 : ((k : Int) == 0) = true := by simp; omega
                          have HRES := hid (show (apartS (sack.gaps.take (k + 1))).1 = true by rw [HA.out, z1, z2, decide_eq_true q3]; rfl)
                          clear q1 q2 q3
                          go_quiet (fail)
                          go_wp2_with fail
                          go_roundw
                          case rel => exact ⟨k + 1, by omega, by go_num, congrArg Value.bool HRES.out.symm, hid (gr_trans HB5.out (gr_drewN _ _))⟩
                          case measure => simp [intOf]; omega
                        · have z3 : ((k : Int) == 0) = false := by simp; omega
                          have hwk := HWK.out q3
                          by_cases q4 : gp1 < ga
                          · have z4 : decide (gp1 < ga) = true := decide_eq_true q4
                            have z4' : decide ((gp1 : Int) < (ga : Int)) = true := decide_eq_true (by omega)
                            have HRES := hid (show (apartS (sack.gaps.take (k + 1))).1 = true by rw [HA.out, z1, z2, decide_eq_false q3, z4]; rfl)
                            clear q1 q2 q3 q4
                            go_quiet (fail)
                            go_wp2_with fail
                            go_roundw
                            case rel => exact ⟨k + 1, by omega, by go_num, congrArg Value.bool HRES.out.symm, hid (gr_trans HB5.out (gr_drewN _ _))⟩
                            case measure => simp [intOf]; omega
                          · have z4 : decide (gp1 < ga) = false := decide_eq_false q4
                            have z4' : decide ((gp1 : Int) < (ga : Int)) = false := decide_eq_false (by omega)
                            have HRES := hid (show (apartS (sack.gaps.take (k + 1))).1 = false by rw [HA.out, z1, z2, decide_eq_false q3, z4]; rfl)
                            clear q1 q2 q3 q4
                            go_quiet (fail)
                            go_wp2_with fail
                            go_roundw
                            case rel => exact ⟨k + 1, by omega, by go_num, congrArg Value.bool HRES.out.symm, hid (gr_trans HB5.out (gr_drewN _ _))⟩
                            case measure => simp [intOf]; omega
                      · have z2 : decide (2 ≤ ga) = false := decide_eq_false q2
                        have z2' : decide ((2 : Int) ≤ (ga : Int)) = false := decide_eq_false (by omega)
                        have HRES := hid (show (apartS (sack.gaps.take (k + 1))).1 = false by rw [HA.out, z1, z2]; rfl)
                        clear q1 q2
                        go_quiet (fail)
                        go_wp2_with fail
                        go_roundw
                        case rel => exact ⟨k + 1, by omega, by go_num, congrArg Value.bool HRES.out.symm, hid (gr_trans HB5.out (gr_drewN _ _))⟩
                        case measure => simp [intOf]; omega
                    · have z1 : decide (ga ≤ gb) = false := decide_eq_false q1
                      have z1' : decide ((ga : Int) ≤ (gb : Int)) = false := decide_eq_false (by omega)
                      have HRES := hid (show (apartS (sack.gaps.take (k + 1))).1 = false by rw [HA.out, z1]; rfl)
                      clear q1
                      go_quiet (fail)
                      go_wp2_with fail
                      go_roundw
                      case rel => exact ⟨k + 1, by omega, by go_num, congrArg Value.bool HRES.out.symm, hid (gr_trans HB5.out (gr_drewN _ _))⟩
                      case measure => simp [intOf]; omega
                · obtain rfl : ng = k := by omega
                  rw [show (apartS (sack.gaps.take ng)).1 = ap by rw [List.take_of_length_le (by rw [HNG.out]; exact Nat.le_refl _), HAP.out]]
                  have HV5 := hid (HV4.out.mono HB.out)
                  have HT5 := hid (HT4.out.mono HB.out)
                  clear hlt hk
                  go_upto_region 24 with fail
                  go_cut [9, 190] from 176 to 190 (fun _ s190 wx => s190 = .bool false ∧ RowV wx w.heap.size 72 [.bool ack, .int .u32 (dt : Int), .int .u16 (ds : Int), .int .u16 (dn : Int), .bool du, .bool df, .bool dl, .slice pd nd cd, .int .u32 (it : Int), .int .u32 (ir : Int), .int .u16 (io : Int), .int .u16 (ii : Int), .int .u32 (is_ : Int), .slice px nx cx, .int .u32 (sc : Int), .int .u32 (sr : Int), .slice pg ng cg, .slice pu nu cu, .int .u32 (fc : Int), .slice pf nf cf, .int .i64 at_, .int .u32 (cum : Int)] ∧ Below w.heap.size w wx)
                  case first =>
                    obtain ⟨k0, k1, k2, k3, -⟩ := rowSack HV5.out
                    by_cases hq : ap = true
                    · have HQ := hid (HD1.out hq)
                      have hz : (er5 == 0) = true := by rw [HQ.out.2]; rfl
                      go_wp2_with fail
                      refine (sameSack_yes _ _ sack _ (show SackAt wr _ sack by rw [← HQ.out.1]; exact HT5.out) (HS.out.mono GW.out) (by rw [HNG.out]; omega) (by rw [HNU.out]; omega)).mono ?_
                      rintro e w5 ⟨rfl, hb5⟩
                      have HR5 := hid (HRW.out.mono hb5)
                      have G5 := hid (gr_trans GW.out hb5)
                      clear hb5 c0 c1 c2 c3 c4 c5 c6 c7 c8 c9 c10 c11 c12 c13 c14 c15 c16 c17 c18 c19 c20 c21 k0 k1 k2 k3
                      go_wp2_with fail
                      go_meet
                      exact ⟨rfl, HR5.out, G5.out⟩
                    · have hq2 : ap = false := by simpa using hq
                      have HQ := hid (HD0.out hq2)
                      have hz : (er5 == 0) = false := by rw [HQ.out]; rfl
                      clear hq
                      go_wp2_with fail
                      go_meet
                      exact ⟨rfl, HRW.out, GW.out⟩
                  case rest =>
                    obtain ⟨rfl, hrow, hbel⟩ := hcut
                    have HRD := hid hrow
                    have GD := hid hbel
                    clear hrow hbel HD0 HD1 HV4 HT4 HE4 HGD HS2 HR4 G4 HR3 G3 HR2 G2 HV5 HT5 HRW GW HB c0 c1 c2 c3 c4 c5 c6 c7 c8 c9 c10 c11 c12 c13 c14 c15 c16 c17 c18 c19 c20 c21
                    obtain ⟨c0, c1, c2, c3, c4, c5, c6, c7, c8, c9, c10, c11, c12, c13, c14, c15, c16, c17, c18, c19, c20, c21, -⟩ := rowAll HRD.out
                    have HLF := hid (show fwd.chk.b.length ≤ 1000000 by show fwd.body.length ≤ _; rw [FwdD.body_length, HNF.out]; omega)
                    go_wp2_with fail
                    refine (putFwd_any _ fwd HWF.out _ (HF.out.mono GD.out) (by rw [HNF.out]; omega)).mono ?_
                    rintro e w2 ⟨s2, rfl, ho2, hb2⟩
                    have HS2 := hid ho2.rd
                    have G2 := hid (gr_trans GD.out hb2)
                    have HR2 := hid (HRD.out.mono hb2)
                    clear ho2 hb2 c0 c1 c2 c3 c4 c5 c6 c7 c8 c9 c10 c11 c12 c13 c14 c15 c16 c17 c18 c19 c20 c21
                    go_wp2_with fail
                    refine (getFwd_any _ fwd.chk _ ⟨s2, rfl, HS2.out⟩ HLF.out).mono ?_
                    rintro e w3 ⟨sf, rfl, ho3, hb3⟩
                    rw [fwdGet_chk fwd HWF.out] at ho3 ⊢
                    simp only at ho3 ⊢
                    obtain ⟨p3, c3, hp3, -, -, -, -⟩ := id ho3
                    rw [HNF.out] at hp3
                    subst hp3
                    have G3 := hid (gr_trans G2.out hb3)
                    have HR3 := hid (HR2.out.mono hb3)
                    obtain ⟨W4, hW4⟩ : ∃ W4, W4 = w3.alloc (.cells #[.int .u32 (fwd.cum : Int), .slice p3 nf c3] 49 (0, 0)) := ⟨_, rfl⟩
                    have g4 : Below w3.heap.size w3 W4 := by rw [hW4]; exact (Below.refl _ _).alloc (Nat.le_refl _) _
                    have HV4 := hid (show RowV W4 w3.heap.size 49 [.int .u32 (fwd.cum : Int), .slice p3 nf c3] by rw [hW4]; exact RowV.new w3 49 _)
                    have G4 := hid (gr_trans G3.out g4)
                    have HR4 := hid (HR3.out.mono g4)
                    have HT4 := hid (show FwdAt W4 (.agg #[.int .u32 (fwd.cum : Int), .slice p3 nf c3]) fwd from (show FwdAt w3 (.agg #[.int .u32 (fwd.cum : Int), .slice p3 nf c3]) fwd from ⟨_, rfl, ho3⟩).mono g4)
                    have HE4 := hid hW4
                    obtain ⟨k0, k1, -⟩ := rowFwd HV4.out
                    obtain ⟨c0, c1, c2, c3, c4, c5, c6, c7, c8, c9, c10, c11, c12, c13, c14, c15, c16, c17, c18, c19, c20, c21, -⟩ := rowAll HR4.out
                    rw [hW4] at k0 k1 c0 c1 c2 c3 c4 c5 c6 c7 c8 c9 c10 c11 c12 c13 c14 c15 c16 c17 c18 c19 c20 c21
                    clear ho3 hb3 hW4 g4
                    go_wp2_with fail
                    rw [← HE4.out]
                    refine (sameFwd_yes _ _ fwd _ HT4.out (HF.out.mono G4.out) (by rw [HNF.out]; omega)).mono ?_
                    rintro e w5 ⟨rfl, hb5⟩
                    have HR5 := hid (HR4.out.mono hb5)
                    have G5 := hid (gr_trans G4.out hb5)
                    clear hb5 c0 c1 c2 c3 c4 c5 c6 c7 c8 c9 c10 c11 c12 c13 c14 c15 c16 c17 c18 c19 c20 c21 k0 k1
                    obtain ⟨c0, c1, c2, c3, c4, c5, c6, c7, c8, c9, c10, c11, c12, c13, c14, c15, c16, c17, c18, c19, c20, c21, -⟩ := rowAll HR5.out
                    clear HV4 HT4 HE4
                    go_wp2_with fail
                    refine (putTime_any 4 at_ _).mono ?_
                    rintro e w6 ⟨s6, rfl, ho6, hb6⟩
                    have HO6 := hid ho6.rd
                    have G6 := hid (gr_trans G5.out hb6)
                    have HR6 := hid (HR5.out.mono hb6)
                    clear ho6 hb6 c0 c1 c2 c3 c4 c5 c6 c7 c8 c9 c10 c11 c12 c13 c14 c15 c16 c17 c18 c19 c20 c21 G5 HR5
                    go_wp2_with fail
                    refine (getTime_any _ (timeChk 4 at_) _ ⟨s6, rfl, HO6.out⟩ (by show (timeBody at_).length ≤ _; rw [timeBody_length]; omega)).mono ?_
                    rintro e w7 ⟨rfl, hb7⟩
                    rw [timeGet_chk 4 (by simp) at_ HAT.out]
                    simp only
                    have G5 := hid (gr_trans G6.out hb7)
                    have HR5 := hid (HR6.out.mono hb7)
                    clear hb7 G6 HR6
                    obtain ⟨c0, c1, c2, c3, c4, c5, c6, c7, c8, c9, c10, c11, c12, c13, c14, c15, c16, c17, c18, c19, c20, c21, -⟩ := rowAll HR5.out
                    go_wp2_with fail
                    refine (putTime_any 5 at_ _).mono ?_
                    rintro e w6 ⟨s6, rfl, ho6, hb6⟩
                    have HO6 := hid ho6.rd
                    have G6 := hid (gr_trans G5.out hb6)
                    have HR6 := hid (HR5.out.mono hb6)
                    clear ho6 hb6 c0 c1 c2 c3 c4 c5 c6 c7 c8 c9 c10 c11 c12 c13 c14 c15 c16 c17 c18 c19 c20 c21 G5 HR5
                    go_wp2_with fail
                    refine (getTime_any _ (timeChk 5 at_) _ ⟨s6, rfl, HO6.out⟩ (by show (timeBody at_).length ≤ _; rw [timeBody_length]; omega)).mono ?_
                    rintro e w7 ⟨rfl, hb7⟩
                    rw [timeGet_chk 5 (by simp) at_ HAT.out]
                    simp only
                    have G5 := hid (gr_trans G6.out hb7)
                    have HR5 := hid (HR6.out.mono hb7)
                    clear hb7 G6 HR6
                    obtain ⟨c0, c1, c2, c3, c4, c5, c6, c7, c8, c9, c10, c11, c12, c13, c14, c15, c16, c17, c18, c19, c20, c21, -⟩ := rowAll HR5.out
                    go_wp2_with fail
                    refine (putCum_any cum HCM.out _).mono ?_
                    rintro e w6 ⟨s6, rfl, ho6, hb6⟩
                    have HO6 := hid ho6.rd
                    have G6 := hid (gr_trans G5.out hb6)
                    have HR6 := hid (HR5.out.mono hb6)
                    clear ho6 hb6 c0 c1 c2 c3 c4 c5 c6 c7 c8 c9 c10 c11 c12 c13 c14 c15 c16 c17 c18 c19 c20 c21 G5 HR5
                    go_wp2_with fail
                    refine (getCum_any _ (cumChk cum) _ ⟨s6, rfl, HO6.out⟩ (by show (beBytes 4 cum).length ≤ _; rw [beBytes_length]; omega)).mono ?_
                    rintro e w7 ⟨rfl, hb7⟩
                    rw [cumGet_chk cum HCM.out]
                    simp only
                    have G5 := hid (gr_trans G6.out hb7)
                    have HR5 := hid (HR6.out.mono hb7)
                    clear hb7 G6 HR6
                    obtain ⟨c0, c1, c2, c3, c4, c5, c6, c7, c8, c9, c10, c11, c12, c13, c14, c15, c16, c17, c18, c19, c20, c21, -⟩ := rowAll HR5.out
                    have ea : (at_ == at_) = true := by simp
                    have ec : ((cum : Int) == (cum : Int)) = true := by simp
                    go_wp2_with fail
                    refine (works_any _).mono ?_
                    rintro e w8 ⟨rfl, hb8⟩
                    have G8 := hid (gr_trans G5.out hb8)
                    clear hb8 c0 c1 c2 c3 c4 c5 c6 c7 c8 c9 c10 c11 c12 c13 c14 c15 c16 c17 c18 c19 c20 c21
                    go_wp2_with fail
                    go_ret
                    exact ⟨rfl, G8.out⟩
end Go.Proofs.Ytfiblhdejglpaaa

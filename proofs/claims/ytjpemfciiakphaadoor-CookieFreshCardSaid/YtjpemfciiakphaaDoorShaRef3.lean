/- The document's SHA-256. Conditions: none. -/
import Derived.Test.YtjpemfciiakphaaDoorShaRefW
namespace Go.FL
open Go.RowKit
/-- A row whose places above i have been moved by one. -/
def shaMoved (s : Sha) (i : Nat) : List (BitVec 32) := s.list.take (i + 1) ++ (s.list.take 7).drop i
theorem shaMoved_seven (s : Sha) : shaMoved s 7 = s.list := rfl
theorem shaMoved_length (s : Sha) (i : Nat) (h : i < 8) : (shaMoved s i).length = 8 := by simp [shaMoved, sha_list_length]; omega
theorem shaMoved_get (s : Sha) (i : Nat) (h : i < 7) : (shaMoved s (i + 1))[i]? = some (s.list.getD i 0#32) := by
  rcases i with _ | _ | _ | _ | _ | _ | _ | i <;> first | rfl | omega
theorem shaMoved_set (s : Sha) (i : Nat) (h : i < 7) : (shaMoved s (i + 1)).set (i + 1) (s.list.getD i 0#32) = shaMoved s i := by
  rcases i with _ | _ | _ | _ | _ | _ | _ | i <;> first | rfl | omega
theorem wordsV_set (l : List (BitVec 32)) (i : Nat) (x : BitVec 32) : (wordsV l).set i (u32v x) = wordsV (l.set i x) := by simp [wordsV, List.map_set]
theorem shaMoved_step (s : Sha) (k w : BitVec 32) : ((shaMoved s 0).set 4 (s.d + (s.h + sumE s.e + shaCh s.e s.f s.g + k + w))).set 0 (s.h + sumE s.e + shaCh s.e s.f s.g + k + w + (sumA s.a + shaMaj s.a s.b s.c)) = (shaStep s k w).list := rfl
theorem wordsV_at (l : List (BitVec 32)) (i : Nat) (x : BitVec 32) (h : l[i]? = some x) : (wordsV l)[i]? = some (.int .u32 (x.toNat : Int)) := by
  simp [wordsV, u32v, h]
theorem ch_doc (e f g : BitVec 32) : bits .xor .u32 (bits .and .u32 (e.toNat : Int) (f.toNat : Int)) (bits .and .u32 (bits .xor .u32 (e.toNat : Int) 4294967295) (g.toNat : Int)) = ((shaCh e f g).toNat : Int) := by
  rw [show (4294967295 : Int) = (((0xffffffff#32 : BitVec 32).toNat : Nat) : Int) from rfl, bits_xor32, bits_and32, bits_and32, bits_xor32, shaCh_xor]
theorem maj_doc (a b c : BitVec 32) : bits .xor .u32 (bits .xor .u32 (bits .and .u32 (a.toNat : Int) (b.toNat : Int)) (bits .and .u32 (a.toNat : Int) (c.toNat : Int))) (bits .and .u32 (b.toNat : Int) (c.toNat : Int)) = ((shaMaj a b c).toNat : Int) := by
  rw [bits_and32, bits_and32, bits_and32, bits_xor32, bits_xor32, shaMaj_xor]
theorem take_eight (s : Sha) (i : Nat) (h : i < 8) : s.list.take i ++ [s.list.getD i 0#32] = s.list.take (i + 1) := by
  rcases i with _ | _ | _ | _ | _ | _ | _ | _ | i <;> first | rfl | omega
theorem rest_next8 (t : Nat) (h : t < 8) : List.replicate (8 - t) (u32v 0#32) = u32v 0#32 :: List.replicate (8 - (t + 1)) (u32v 0#32) := by
  obtain ⟨m, h1, h2⟩ : ∃ m, 8 - t = m + 1 ∧ 8 - (t + 1) = m := ⟨_, by omega, rfl⟩
  rw [h1, h2]
  rfl
end Go.FL
namespace Go.Proofs.YtjpemfciiakphaaDoor
open Go.RowKit Go.FL

set_option maxRecDepth 100000 in
set_option maxHeartbeats 8000000 in
theorem refSum_any (v : Value) (l : List UInt8) (w : World) (hv : Rd w v l) (hs : l.length ≤ 1048000) :
    Calls Tryd.prog 40 #[v] w fun e w' => e = .returned (.agg (bytesV (shaSum l)).toArray) ∧ Below w.heap.size w w' := by
  have HV := hid hv
  obtain ⟨p, c, rfl, hlc, hcm, hpn, hcell⟩ := hv
  unfold maxLen at hcm
  clear hcell
  obtain ⟨d, hd⟩ : ∃ d, d = shaSum l := ⟨_, rfl⟩
  rw [← hd]
  have HD := hid hd
  clear hd
  have hzo := zeroOut
  have HOUT0 := hid ((RowV.new w 46 zeros32).alloc (.cells (wordsV shaH.list).toArray 23 (0, 0)))
  have HH0 := hid (show RowV ((w.alloc (.cells zeros32.toArray 46 (0, 0))).alloc (.cells (wordsV shaH.list).toArray 23 (0, 0))) (w.heap.size + 1) 23 (wordsV shaH.list) by simpa using RowV.new (w.alloc (.cells zeros32.toArray 46 (0, 0))) 23 (wordsV shaH.list))
  have HB0 := hid (show Below w.heap.size w ((w.alloc (.cells zeros32.toArray 46 (0, 0))).alloc (.cells (wordsV shaH.list).toArray 23 (0, 0))) from ((Below.refl _ _).alloc (Nat.le_refl _) _).alloc (by simp) _)
  have hsz0 : ((w.alloc (.cells zeros32.toArray 46 (0, 0))).alloc (.cells (wordsV shaH.list).toArray 23 (0, 0))).heap.size = w.heap.size + 2 := by simp
  have HARR := hid (show (wordsV shaH.list).toArray = #[.int .u32 1779033703, .int .u32 3144134277, .int .u32 1013904242, .int .u32 2773480762, .int .u32 1359893119, .int .u32 2600822924, .int .u32 528734635, .int .u32 1541459225] from rfl)
  go_enter Tryd.func40, Tryd.ntmps40
  go_wp2_with fail
  rw [← HARR.out]
  generalize (w.alloc (.cells zeros32.toArray 46 (0, 0))).alloc (.cells (wordsV shaH.list).toArray 23 (0, 0)) = w0 at *
  refine (constants_any w0).mono ?_
  rintro e w1 ⟨rfl, hk1, hb1⟩
  rw [hsz0] at hk1
  have HK1 := hid hk1
  have HB1 := hid (HB0.out.trans (hb1.mono (by omega)))
  have HOUT1 := hid (HOUT0.out.mono hb1)
  have HH1 := hid (HH0.out.mono hb1)
  have hsz1 : w.heap.size + 3 ≤ w1.heap.size := hk1.lt
  clear hk1 hb1
  rw [hsz0]
  go_wp2_with fail
  refine (whole_any _ l _ (HV.out.mono HB1.out) (by omega)).mono ?_
  rintro e w2 ⟨v5, rfl, ho2, hb2⟩
  obtain ⟨pd, hpd⟩ : ∃ pd, pd = shaPad l := ⟨_, rfl⟩
  rw [← hpd] at ho2
  obtain ⟨p5, c5, rfl, hl5, hc5, _, _⟩ := ho2.rd
  rename_i k1 k2
  clear k1 k2
  unfold maxLen at hc5
  have hpl : pd.length = 64 * ((l.length + 72) / 64) := by rw [hpd]; exact shaPad_length l
  obtain ⟨N, hN⟩ : ∃ N, N = (l.length + 72) / 64 := ⟨_, rfl⟩
  rw [← hN] at hpl
  have hN2 : N ≤ 20000 := by omega
  have HO2 := hid ho2
  have HB2 := hid (HB1.out.trans (hb2.mono HB1.out.size))
  have HOUT2 := hid (HOUT1.out.mono hb2)
  have HH2 := hid (HH1.out.mono hb2)
  have HK2 := hid (HK1.out.mono hb2)
  have hsz2 : w.heap.size + 3 ≤ w2.heap.size := Nat.le_trans hsz1 hb2.size
  have HSUM := hid (show shaSum l = shaBytes (shaChain pd N) by rw [hpd, hN]; rfl)
  rw [← HD.out] at HSUM
  have HNE5 := hid (show ∀ k, (Value.slice p5 pd.length c5).ownBlock = some k → w.heap.size + 3 ≤ k from fun k hk => Nat.le_trans hsz1 (ho2.ge k hk))
  clear ho2 hb2 HB0 HB1 HOUT0 HOUT1 HH0 HH1 HK1 hsz0 hsz1 hpd hN HARR hzo
  go_wp2_with fail
  go_loopw [6] (fun y wr => ∃ j : Nat, j ≤ N ∧ y = .int .i64 (64 * (j : Int)) ∧ Hid (RowV wr (w.heap.size + 1) 23 (wordsV (shaChain pd j).list)) ∧ Hid (w2.grownBy wr (some (w.heap.size + 1)))) (fun y _ => 64 * N - (intOf y).toNat)
  case atStart => exact ⟨0, Nat.zero_le _, by go_num, HH2.out, gb_refl _ _⟩
  case round =>
    clear HH2
    obtain ⟨j, hj, rfl, hh, hg⟩ := hrel
    by_cases hlt : j < N
    · have HRD := hid (HO2.out.rd.grown hg.out (fun k hk h => by have := HNE5.out k hk; simp at h; omega))
      have hcut := HRD.out.cut (64 * j) (64 * j + 64) (by omega) (by omega)
      rw [Nat.add_sub_cancel_left] at hcut
      have hcap : ¬ c5 = 64 * j := by omega
      rw [sliced, if_neg hcap, Nat.add_sub_cancel_left, Nat.mul_one] at hcut
      have HNX := hid (show shaChain pd (j + 1) = shaBlock (shaChain pd j) ((pd.drop (64 * j)).take 64) from rfl)
      have hbl : ((pd.drop (64 * j)).take 64).length = 64 := by simp; omega
      generalize (pd.drop (64 * j)).take 64 = blk at *
      generalize shaChain pd j = s at *
      have HC := hid hcut
      have HBL := hid hbl
      have HG := hid hg.out
      have HH := hid hh.out
      have hwr : w.heap.size + 3 ≤ wr.heap.size := Nat.le_trans hsz2 hg.out.size
      have HKr := hid (HK2.out.grown hg.out (by simp))
      clear hg hh hcut hbl HRD
      have hmk := fun wx => run_make_u32 (P := Tryd.prog) 57 23 Tryd.underlying57 (by kernel_rfl) .i64 .i64 8 (by decide) 8 rfl wx
      go_wp2_with fail
      refine (words_any _ _ blk _ HC.out HBL.out).mono ?_
      rintro e w3 ⟨rfl, hw3, hb3⟩
      have HW3 := hid hw3
      have HH3 := hid (HH.out.mono hb3)
      have HK3 := hid (HKr.out.mono hb3)
      have HG3 := hid (gb_trans HG.out (gb_of_gr hb3 _))
      have hwr3 : w.heap.size + 3 ≤ w3.heap.size := Nat.le_trans hwr hb3.size
      have hwr4 : wr.heap.size < w3.heap.size := hw3.lt
      obtain ⟨gw, hgw⟩ : ∃ gw, gw = wr.heap.size := ⟨_, rfl⟩
      rw [← hgw] at HW3 hwr4 ⊢
      clear hw3 hb3 HG HH HKr HC hgw
      go_wp2_with fail
      clear hmk
      go_loopw [9] (fun y wx => ∃ i : Nat, i ≤ 8 ∧ y = .int .i64 (i : Int) ∧ Hid (RowV wx w3.heap.size 23 (wordsV (s.list.take i) ++ List.replicate (8 - i) (u32v 0#32))) ∧ Hid (Below w3.heap.size w3 wx)) (fun y _ => 8 - (intOf y).toNat)
      case atStart => exact ⟨0, Nat.zero_le _, rfl, RowV.new w3 23 (List.replicate 8 (u32v 0#32)), (Below.refl _ _).alloc (Nat.le_refl _) _⟩
      case round =>
        obtain ⟨i, hi, rfl, hr, hb⟩ := hrel
        by_cases hi8 : i < 8
        · have hrt := hr.out
          rw [rest_next8 i hi8] at hrt
          have hlen : (s.list.take i).length = i := by simp [sha_list_length]; omega
          have hfw := hr.out.frozen i
          have phere := rowT_here hrt hlen
          have hst := rowT_store hrt hlen (u32v (s.list.getD i 0#32))
          rw [rowT_next _ _ _ _ rfl, take_eight s i hi8] at hst
          have hcw : wr.cell? ⟨w.heap.size + 1, i, none⟩ = some (.int .u32 ((s.list.getD i 0#32).toNat : Int)) := by
            rw [(HH3.out.mono hb.out).cell, wordsV_get _ _ (by rw [sha_list_length]; exact hi8)]
          have HST := hid hst
          have HB := hid hb.out
          generalize s.list.getD i 0#32 = x at *
          clear hst hr hb hrt hlen
          go_wp2
          go_roundw
          case rel => exact ⟨i + 1, by omega, by go_num, HST.out, HB.out.setCell (p := ⟨w3.heap.size, i, none⟩) (Nat.le_refl _) _⟩
          case measure => simp [intOf]; omega
        · obtain rfl : i = 8 := by omega
          have hrow := hr.out
          rw [show List.replicate (8 - 8) (u32v 0#32) = [] from rfl, List.append_nil, show s.list.take 8 = (shaRounds (shaSched blk 64) s 0).list from rfl] at hrow
          have HR := hid hrow
          have HB := hid hb.out
          have HBK := hid (show shaBlock s blk = s.add (shaRounds (shaSched blk 64) s 64) from rfl)
          have hwl := shaSched_length blk 64
          generalize shaSched blk 64 = ws at *
          have HWL := hid hwl
          clear hr hb hrow hwl
          go_wp2_with fail
          go_loopw [10] (fun y wx => ∃ t : Nat, t ≤ 64 ∧ y = .int .i64 (t : Int) ∧ Hid (RowV wx w3.heap.size 23 (wordsV (shaRounds ws s t).list)) ∧ Hid (Below w3.heap.size w3 wx)) (fun y _ => 64 - (intOf y).toNat)
          case atStart => exact ⟨0, Nat.zero_le _, rfl, HR.out, HB.out⟩
          case round =>
            clear HR HB
            obtain ⟨t, ht, rfl, hr, hb⟩ := hrel
            by_cases ht64 : t < 64
            · have HS := hid (show shaRounds ws s (t + 1) = shaStep (shaRounds ws s t) (shaK.getD t 0#32) (ws.getD t 0#32) from rfl)
              have hk : wr.cell? ⟨w.heap.size + 2, t, none⟩ = some (.int .u32 ((shaK.getD t 0#32).toNat : Int)) := by rw [(HK3.out.mono hb.out).cell, wordsV_get _ _ (by simpa [shaK] using ht64)]
              have hw : wr.cell? ⟨gw, t, none⟩ = some (.int .u32 ((ws.getD t 0#32).toNat : Int)) := by rw [(HW3.out.mono hb.out).cell, wordsV_get _ _ (by rw [HWL.out]; exact ht64)]
              generalize shaRounds ws s t = S at *
              generalize shaK.getD t 0#32 = kt at *
              generalize ws.getD t 0#32 = wt at *
              have q0 : wr.cell? ⟨w3.heap.size, 0, none⟩ = some (.int .u32 (S.a.toNat : Int)) := by rw [hr.out.cell]; rfl
              have q1 : wr.cell? ⟨w3.heap.size, 1, none⟩ = some (.int .u32 (S.b.toNat : Int)) := by rw [hr.out.cell]; rfl
              have q2 : wr.cell? ⟨w3.heap.size, 2, none⟩ = some (.int .u32 (S.c.toNat : Int)) := by rw [hr.out.cell]; rfl
              have q3 : wr.cell? ⟨w3.heap.size, 3, none⟩ = some (.int .u32 (S.d.toNat : Int)) := by rw [hr.out.cell]; rfl
              have q4 : wr.cell? ⟨w3.heap.size, 4, none⟩ = some (.int .u32 (S.e.toNat : Int)) := by rw [hr.out.cell]; rfl
              have q5 : wr.cell? ⟨w3.heap.size, 5, none⟩ = some (.int .u32 (S.f.toNat : Int)) := by rw [hr.out.cell]; rfl
              have q6 : wr.cell? ⟨w3.heap.size, 6, none⟩ = some (.int .u32 (S.g.toNat : Int)) := by rw [hr.out.cell]; rfl
              have q7 : wr.cell? ⟨w3.heap.size, 7, none⟩ = some (.int .u32 (S.h.toNat : Int)) := by rw [hr.out.cell]; rfl
              have it : (0 : Int) ≤ (t : Int) := by omega
              have jt : (t : Int) < 64 := by omega
              have HR := hid hr.out
              have HB := hid hb.out
              clear hr hb
              go_wp2_with fail
              go_quiet (exact Calls.quiet_of_same (right_k _ _ (by decide) _))
              go_wp2_with fail
              have HRa := hid (show RowV (wr.drewN nq) w3.heap.size 23 (wordsV S.list) from HR.out)
              have HBa := hid (show Below w3.heap.size w3 (wr.drewN nq) from below_drewN' HB.out nq)
              have z0 : (wr.drewN nq).cell? ⟨w3.heap.size, 0, none⟩ = some (.int .u32 (S.a.toNat : Int)) := q0
              have z1 : (wr.drewN nq).cell? ⟨w3.heap.size, 1, none⟩ = some (.int .u32 (S.b.toNat : Int)) := q1
              have z2 : (wr.drewN nq).cell? ⟨w3.heap.size, 2, none⟩ = some (.int .u32 (S.c.toNat : Int)) := q2
              have z3 : (wr.drewN nq).cell? ⟨w3.heap.size, 3, none⟩ = some (.int .u32 (S.d.toNat : Int)) := q3
              have z4 : (wr.drewN nq).cell? ⟨w3.heap.size, 4, none⟩ = some (.int .u32 (S.e.toNat : Int)) := q4
              have z5 : (wr.drewN nq).cell? ⟨w3.heap.size, 5, none⟩ = some (.int .u32 (S.f.toNat : Int)) := q5
              have z6 : (wr.drewN nq).cell? ⟨w3.heap.size, 6, none⟩ = some (.int .u32 (S.g.toNat : Int)) := q6
              have z7 : (wr.drewN nq).cell? ⟨w3.heap.size, 7, none⟩ = some (.int .u32 (S.h.toNat : Int)) := q7
              clear q0 q1 q2 q3 q4 q5 q6 q7 hk hw HR HB
              generalize wr.drewN nq = wz at *
              go_quiet (exact Calls.quiet_of_same (right_k _ _ (by decide) _))
              go_wp2_with fail
              have HRb := hid (show RowV (wz.drewN nq) w3.heap.size 23 (wordsV S.list) from HRa.out)
              have HBb := hid (show Below w3.heap.size w3 (wz.drewN nq) from below_drewN' HBa.out nq)
              clear z0 z1 z2 z3 z4 z5 z6 z7 HRa HBa
              generalize wz.drewN nq = wy at *
              rw [← shaMoved_seven] at HRb
              obtain ⟨P, hP⟩ : ∃ P, P = S.h + sumE S.e + shaCh S.e S.f S.g + kt + wt := ⟨_, rfl⟩
              obtain ⟨Q, hQ⟩ : ∃ Q, Q = sumA S.a + shaMaj S.a S.b S.c := ⟨_, rfl⟩
              have hp : (((S.h.toNat : Int) + ((sumE S.e).toNat : Int) + ((shaCh S.e S.f S.g).toNat : Int) + (kt.toNat : Int)) % 4294967296 + (wt.toNat : Int)) % 4294967296 = (P.toNat : Int) := by
                rw [hP]; simp only [BitVec.toNat_add]; omega
              have hq : (((sumA S.a).toNat : Int) + ((shaMaj S.a S.b S.c).toNat : Int)) % 4294967296 = (Q.toNat : Int) := by
                rw [hQ]; simp only [BitVec.toNat_add]; omega
              rw [sumE_val, ch_doc, hp, sumA_val, maj_doc, hq]
              have HSTEP := hid (show ((shaMoved S 0).set 4 (S.d + P)).set 0 (P + Q) = (shaStep S kt wt).list from by rw [hP, hQ]; exact shaMoved_step S kt wt)
              clear hp hq hP hQ
              go_loopw [13] (fun y wx => ∃ i : Nat, i ≤ 7 ∧ y = .int .i64 (i : Int) ∧ Hid (RowV wx w3.heap.size 23 (wordsV (shaMoved S i))) ∧ Hid (Below w3.heap.size w3 wx)) (fun y _ => (intOf y).toNat)
              case atStart => exact ⟨7, by omega, rfl, HRb.out, HBb.out⟩
              case round =>
                clear HRb HBb
                obtain ⟨i, hi7, rfl, hr, hb⟩ := hrel
                by_cases hi0 : 0 < i
                · obtain ⟨m, rfl⟩ : ∃ m, i = m + 1 := ⟨i - 1, by omega⟩
                  have hc : wr.cell? ⟨w3.heap.size, m, none⟩ = some (.int .u32 ((S.list.getD m 0#32).toNat : Int)) := by rw [hr.out.cell]; exact wordsV_at _ _ _ (shaMoved_get S m (by omega))
                  obtain ⟨u0, hu0⟩ : ∃ u, wr.cell? ⟨w3.heap.size, m + 1, none⟩ = some u := ⟨_, hr.out.at (m + 1) (by rw [wordsV_length, shaMoved_length S _ (by omega)]; omega)⟩
                  have hf := hr.out.frozen (m + 1)
                  have hst := hr.out.store (m + 1) (u32v (S.list.getD m 0#32))
                  rw [wordsV_set, shaMoved_set S m (by omega)] at hst
                  have HST := hid hst
                  have HB := hid hb.out
                  have hsub : ((m + 1 : Nat) : Int) - 1 = (m : Int) := by omega
                  have hsub2 : (m : Int) + 1 - 1 = (m : Int) := by omega
                  generalize S.list.getD m 0#32 = x at *
                  clear hr hb hst
                  go_wp2
                  go_roundw
                  case rel => exact ⟨m, by omega, by go_num, HST.out, HB.out.setCell (p := ⟨w3.heap.size, m + 1, none⟩) (Nat.le_refl _) _⟩
                  case measure => simp [intOf] <;> omega
                · obtain rfl : i = 0 := by omega
                  have hc4 : wr.cell? ⟨w3.heap.size, 4, none⟩ = some (.int .u32 (S.d.toNat : Int)) := by rw [hr.out.cell]; rfl
                  have hc0 : wr.cell? ⟨w3.heap.size, 0, none⟩ = some (.int .u32 (S.a.toNat : Int)) := by rw [hr.out.cell]; rfl
                  have hf4 := hr.out.frozen 4
                  have hf0 := hr.out.frozen 0
                  have hst := (hr.out.store 4 (u32v (S.d + P))).store 0 (u32v (P + Q))
                  rw [wordsV_set, wordsV_set, HSTEP.out, ← HS.out] at hst
                  have HST := hid hst
                  have HB := hid hb.out
                  clear hr hb hst
                  go_wp2
                  go_roundw
                  case rel => exact ⟨t + 1, by omega, by go_num, by rw [add32, add32]; exact HST.out, (HB.out.setCell (p := ⟨w3.heap.size, 4, none⟩) (Nat.le_refl _) _).setCell (p := ⟨w3.heap.size, 0, none⟩) (Nat.le_refl _) _⟩
                  case measure => simp [intOf] <;> omega
            · obtain rfl : t = 64 := by omega
              generalize shaRounds ws s 64 = R at *
              have HR := hid hr.out
              have HRH := hid (show RowV wr (w.heap.size + 1) 23 (wordsV (shaMixed s R 0)) from by rw [shaMixed_zero]; exact HH3.out.mono hb.out) 
              have HGr := hid (gb_trans HG3.out (gb_of_gr hb.out _))
              have hwr5 : w.heap.size + 3 ≤ w3.heap.size := hwr3
              clear hr hb
              go_wp2_with fail
              go_loopw [14] (fun y wx => ∃ i : Nat, i ≤ 8 ∧ y = .int .i64 (i : Int) ∧ Hid (RowV wx (w.heap.size + 1) 23 (wordsV (shaMixed s R i))) ∧ Hid (wr.grownBy wx (some (w.heap.size + 1)))) (fun y _ => 8 - (intOf y).toNat)
              case atStart => exact ⟨0, Nat.zero_le _, rfl, HRH.out, gb_refl _ _⟩
              case round =>
                clear HRH
                obtain ⟨i, hi, rfl, hr, hg⟩ := hrel
                by_cases hi8 : i < 8
                · have hc : wr.cell? ⟨w.heap.size + 1, i, none⟩ = some (.int .u32 ((s.list.getD i 0#32).toNat : Int)) := by rw [hr.out.cell]; exact wordsV_at _ _ _ (shaMixed_get s R i hi8)
                  have hca : wr.cell? ⟨w3.heap.size, i, none⟩ = some (.int .u32 ((R.list.getD i 0#32).toNat : Int)) := by
                    rw [(HR.out.grown hg.out (by simp; omega)).cell, wordsV_get _ _ (by rw [sha_list_length]; exact hi8)]
                  have hf := hr.out.frozen i
                  have hst := hr.out.store i (u32v (s.list.getD i 0#32 + R.list.getD i 0#32))
                  rw [wordsV_set, shaMixed_set s R i hi8] at hst
                  have HST := hid hst
                  have HGi := hid hg.out
                  have it : (0 : Int) ≤ (i : Int) := by omega
                  have jt : (i : Int) < 8 := by omega
                  generalize s.list.getD i 0#32 = x at *
                  generalize R.list.getD i 0#32 = y at *
                  clear hst hr hg
                  go_wp2_with fail
                  go_region
                  go_wp2
                  go_roundw
                  case rel => exact ⟨i + 1, by omega, by go_num, by rw [add32]; exact HST.out, gb_set (gb_drewN HGi.out _) _ _⟩
                  case measure => simp [intOf] <;> omega
                · obtain rfl : i = 8 := by omega
                  have HEND := hid (show RowV wr (w.heap.size + 1) 23 (wordsV (shaChain pd (j + 1)).list) from by rw [HNX.out, HBK.out, ← shaMixed_all]; exact hr.out)
                  have HGE := hid (gb_trans HGr.out hg.out)
                  clear hr hg
                  go_wp2
                  go_roundw
                  case rel => exact ⟨j + 1, by omega, by go_num, HEND.out, HGE.out⟩
                  case measure => simp [intOf] <;> omega
    · obtain rfl : j = N := by omega
      have hzo := zeroOut
      obtain ⟨s5, hs5⟩ : ∃ s5, s5 = (shaChain pd j).list := ⟨_, rfl⟩
      have hsl : s5.length = 8 := by rw [hs5]; rfl
      have HML := hid (show d.length = 32 from by rw [HSUM.out]; exact shaBytes_length _)
      have HGET := hid (show ∀ i (_ : i < 32) (h2 : i < d.length), d[i] = shaByte s5 i from by
        have h := HSUM.out
        intro i hi h2
        subst h
        rw [hs5]
        simp [shaBytes])
      rw [← hs5] at hh
      have HH := hid hh.out
      have HG := hid hg.out
      have hwr : w.heap.size + 3 ≤ wr.heap.size := Nat.le_trans hsz2 hg.out.size
      have HOUTR := hid (HOUT2.out.grown hg.out (by simp))
      clear hh hg hs5 HSUM
      have HO5 := hid (show Row (wr.alloc (.cells zeros32.toArray 46 (0, 0))) wr.heap.size 46 (d.take 0 ++ List.replicate (d.length - 0) 0) from by
        rw [HML.out]
        exact (RowV.new wr 46 zeros32).to_row)
      have HB5 := hid (show Below wr.heap.size wr (wr.alloc (.cells zeros32.toArray 46 (0, 0))) from (Below.refl _ _).alloc (Nat.le_refl _) _)
      go_wp2_with fail
      clear hzo
      go_loopw [16] (fun y wx => ∃ i : Nat, i ≤ 32 ∧ y = .int .i64 (i : Int) ∧ Hid (Row wx wr.heap.size 46 (d.take i ++ List.replicate (d.length - i) 0)) ∧ Hid (Below wr.heap.size wr wx)) (fun y _ => 32 - (intOf y).toNat)
      case atStart => exact ⟨0, Nat.zero_le _, rfl, HO5.out, HB5.out⟩
      case round =>
        clear HO5 HB5
        obtain ⟨i, hi, rfl, hr, hb⟩ := hrel
        by_cases hlt : i < 32
        · have hil : i < d.length := by rw [HML.out]; exact hlt
          have hcd := hr.out.cell i (by rw [out_here d i hil]; exact hil)
          have hcf := hr.out.frozen i
          have hst := hr.out.store i d[i]
          rw [out_step d i hil] at hst
          have hx : s5.getD (i / 4) 0#32 = s5[i / 4] := by simp [List.getD, show i / 4 < s5.length by omega]
          have hcw : wr.cell? ⟨w.heap.size + 1, i / 4, none⟩ = some (.int .u32 ((s5.getD (i / 4) 0#32).toNat : Int)) := by
            rw [(HH.out.mono hb.out).cell, wordsV_get _ _ (by omega)]
          have hgd : d[i] = shaByte s5 i := HGET.out i hlt hil
          have hby := shr_byte (s5.getD (i / 4) 0#32).toNat (24 - 8 * (i % 4))
          rw [show UInt8.ofNat ((s5.getD (i / 4) 0#32).toNat / 2 ^ (24 - 8 * (i % 4))) = d[i] from hgd.symm] at hby
          have hsh : (24 : Int) - 8 * ((i : Int) % 4) = ((24 - 8 * (i % 4) : Nat) : Int) := by omega
          have hsh24 : ((24 - 8 * (i % 4) : Nat) : Int) ≤ 24 := by omega
          have hix : ((i : Int) / 4).toNat = i / 4 := by omega
          have i0 : (0 : Int) ≤ (i : Int) / 4 := by omega
          have i8 : (i : Int) / 4 < 8 := by omega
          have HST := hid hst
          have HB := hid hb.out
          have HBY := hid hby
          generalize s5.getD (i / 4) 0#32 = x at *
          generalize d[i] = di at *
          generalize 24 - 8 * (i % 4) = sh at *
          clear hst hr hb hx hgd hby
          go_wp2
          go_roundw
          case rel => exact ⟨i + 1, by omega, by go_num, by rw [HBY.out]; exact HST.out, HB.out.setCell (p := ⟨_, i, none⟩) (Nat.le_refl _) _⟩
          case measure => simp [intOf]; omega
        · obtain rfl : i = 32 := by omega
          have hr2 := hr.out
          rw [List.take_of_length_le (by rw [HML.out]; exact Nat.le_refl _), show List.replicate (d.length - 32) (0 : UInt8) = [] by rw [HML.out]; rfl, List.append_nil] at hr2
          have HR := hid (RowV.of_row hr2)
          have HRO := hid (HOUTR.out.mono hb.out)
          have HBE := hid (show Below w.heap.size w _ from HB2.out.trans ((gb_below HG.out (by omega) HB2.out.size).trans (hb.out.mono (by omega))))
          have hdl : (bytesV d).length = 32 := by rw [bytesV_length, HML.out]
          have HDL := hid hdl
          clear hr hb hr2 hdl
          go_wp2_with (first | (refine wpList_load_rowV rfl 46 (.tmp 15) rfl _ (bytesV d) 46 rfl _ HR.out Tryd.underlying46 rfl ?hi ?_) | (refine wpList_store_rowV rfl 46 (.tmp 2) (.tmp 190) rfl w.heap.size (bytesV d) zeros32 46 rfl rfl HRO.out ?hi2 ?ho (bytesV_oneCell d) ?_))
          case hi => rw [HDL.out]; kernel_rfl
          case hi2 => rw [HDL.out]; kernel_rfl
          case ho => rw [HDL.out, zeros32_length]
          intro w7 hr7 hg7
          have HBF := hid (show Below w.heap.size w w7 from HBE.out.trans (gb_below hg7.out (Nat.le_refl _) HBE.out.size))
          go_wp2
          exact bodyPost_ret (v := .agg (bytesV d).toArray) (results_cell_row Tryd.results40 _ _ w.heap.size 46 (bytesV d).toArray (0, 0) _ rfl hr7.out Tryd.underlying46 rfl (by rw [List.size_toArray, HDL.out]; kernel_rfl)) rfl ⟨rfl, HBF.out⟩
end Go.Proofs.YtjpemfciiakphaaDoor

/- What sha's own functions do to a state. Conditions: the state lies in a block of its own; the package's tables hold what its text says. -/
import Derived.Test.YtjpemfciiakphaaDoorRows
import Derived.Test.YtjpemfciiakphaaDoorShaWords
import Derived.BigQuiet
import Derived.Deep.QuietTactic
import Derived.StillTailTactics
import Derived.RegionTactic
import Derived.BigRegion
import Derived.Deep.RegionHeld3
namespace Go.Proofs.YtjpemfciiakphaaDoor
open Go.RowKit Go.FL

theorem rotl_val (x : BitVec 32) (n : Nat) : bits .or .u32 ((x.toNat : Int) * 2 ^ (32 - n) % 4294967296) ((x.toNat : Int) / 2 ^ n) = ((rr x n).toNat : Int) := by
  rw [shl32, shr32, bits_or32, rr]
  congr 2
  apply BitVec.eq_of_getLsbD_eq
  intro i _
  simp only [BitVec.getLsbD_or, Bool.or_comm]

theorem and31 (n : Nat) (h0 : 0 < n) (h : n < 32) : bits .and .u64 (18446744073709551616 - (n : Int)) 31 = ((32 - n : Nat) : Int) := by
  have key : ∀ n : Nat, n < 32 → 0 < n → bits .and .u64 (18446744073709551616 - (n : Int)) 31 = ((32 - n : Nat) : Int) := by decide +kernel
  exact key n h h0

theorem rotl_any (x : BitVec 32) (n : Nat) (h0 : 0 < n) (h : n < 32) (w : World) :
    Calls Tryd.prog 51 #[.int .u32 (x.toNat : Int), .int .i64 (-(n : Int))] w fun e w' => e = .returned (.int .u32 ((rr x n).toNat : Int)) ∧ w = w' := by
  have hc : IntKind.u64.wrap (-(n : Int)) = 18446744073709551616 - (n : Int) := by rw [IntKind.wrap_u64]; omega
  have ha : bits .and .u64 (18446744073709551616 - (n : Int)) 31 = ((32 - n : Nat) : Int) := and31 n h0 h
  have hb : ((32 - n : Nat) : Int) ≤ 31 := by omega
  have hd : (32 : Int) - ((32 - n : Nat) : Int) = (n : Int) := by omega
  go_enter Tryd.func51, Tryd.ntmps51
  go_wp2
  go_ret
  exact ⟨by rw [← rotl_val x n]; rfl, rfl⟩

theorem rotl_at (x : BitVec 32) (n : Nat) (k : Int) (h0 : 0 < n) (h : n < 32) (hk : k = -(n : Int)) (w : World) :
    Calls Tryd.prog 51 #[.int .u32 (x.toNat : Int), .int .i64 k] w fun e w' => e = .returned (.int .u32 ((rr x n).toNat : Int)) ∧ w = w' := by
  subst hk
  exact rotl_any x n h0 h w
theorem rotl_k (x : BitVec 32) (k : Int) (h : -32 < k ∧ k < 0) (w : World) :
    Calls Tryd.prog 51 #[.int .u32 (x.toNat : Int), .int .i64 k] w fun e w' => e = .returned (.int .u32 ((rr x (-k).toNat).toNat : Int)) ∧ w' = w :=
  (rotl_at x (-k).toNat k (by omega) (by omega) (by omega) w).mono fun _ _ ⟨h1, h2⟩ => ⟨h1, h2.symm⟩
/-- The package's two tables. -/
def ShaLaid (w : World) : Prop := (∀ i (h : i < shaH.list.length), w.cell? ⟨0, i, none⟩ = some (u32v shaH.list[i])) ∧ (∀ i (h : i < shaK.length), w.cell? ⟨1, i, none⟩ = some (u32v shaK[i]))
theorem ShaLaid.mono {w w' : World} (h : ShaLaid w) (hb : Below w.heap.size w w') : ShaLaid w' :=
  ⟨fun i hi => cell?_of_below hb (h.1 i hi), fun i hi => cell?_of_below hb (h.2 i hi)⟩
theorem ShaLaid.grown {w w' : World} {g e : Nat} {b : Bool} {l : List Value} (h : ShaLaid w) (hr : RowV w g e (.bool b :: l)) (hb : w.grownBy w' (some g)) : ShaLaid w' := by
  have h0 := hr.at 0 (by simp)
  have n0 : g ≠ 0 := by
    rintro rfl
    rw [h.1 0 (by decide)] at h0
    cases h0
  have n1 : g ≠ 1 := by
    rintro rfl
    rw [h.2 0 (by decide)] at h0
    cases h0
  exact ⟨fun i hi => hb.cell (h.1 i hi) (by simp; omega), fun i hi => hb.cell (h.2 i hi) (by simp; omega)⟩

set_option maxRecDepth 100000 in
set_option maxHeartbeats 8000000 in
theorem take_any (g : Nat) (begun : Bool) (s0 : List (BitVec 32)) (s : Sha) (blk : List UInt8) (n : Nat) (w : World)
    (hrow : RowV w g 70 (stV begun s0 blk n)) (hbl : blk.length = 64) (hs0 : s0.length = 8) (hst : (begun = true ∧ s0 = s.list) ∨ (begun = false ∧ s = shaH)) (hlaid : ShaLaid w) :
    Calls Tryd.prog 43 #[.pointer (some ⟨g, 0, none⟩)] w fun e w' => e = .returned (.tuple #[]) ∧ RowV w' g 70 (stV true (shaBlock s blk).list blk n) ∧ w.grownBy w' (some g) := by
  have HR := hid hrow
  have HL := hid hlaid
  have HBL := hid hbl
  have c0 : w.cell? ⟨g, 0, none⟩ = some (.bool begun) := hrow.at 0 (by simp [stV])
  have f0 := hrow.frozen
  rcases hst with hst | hst
  case' inl =>
    obtain ⟨rfl, rfl⟩ := hst
    clear hlaid hbl
    have HG := hid (gb_refl w (some g))
    go_enter Tryd.func43, Tryd.ntmps43
    go_wp2
    obtain ⟨wa, hwa⟩ : ∃ wa : World, wa = w := ⟨_, rfl⟩
    rw [← hwa] at HL HR ⊢
    have HG : Hid (w.grownBy wa (some g)) := by rw [hwa]; exact HG
    clear hwa c0 f0 hrow hs0
  case' inr =>
    obtain ⟨rfl, hsH⟩ := hst
    have k0 : w.cell? ⟨0, 0, none⟩ = some (.int .u32 1779033703) := hlaid.1 0 (by decide)
    have k1 : w.cell? ⟨0, 1, none⟩ = some (.int .u32 3144134277) := hlaid.1 1 (by decide)
    have k2 : w.cell? ⟨0, 2, none⟩ = some (.int .u32 1013904242) := hlaid.1 2 (by decide)
    have k3 : w.cell? ⟨0, 3, none⟩ = some (.int .u32 2773480762) := hlaid.1 3 (by decide)
    have k4 : w.cell? ⟨0, 4, none⟩ = some (.int .u32 1359893119) := hlaid.1 4 (by decide)
    have k5 : w.cell? ⟨0, 5, none⟩ = some (.int .u32 2600822924) := hlaid.1 5 (by decide)
    have k6 : w.cell? ⟨0, 6, none⟩ = some (.int .u32 528734635) := hlaid.1 6 (by decide)
    have k7 : w.cell? ⟨0, 7, none⟩ = some (.int .u32 1541459225) := hlaid.1 7 (by decide)
    obtain ⟨x0, x1, x2, x3, x4, x5, x6, x7, rfl⟩ := list8 hs0
    have g1 : w.cell? ⟨g, 1, none⟩ = some (u32v x0) := hrow.at 1 (by simp [stV, wordsV])
    have g2 : w.cell? ⟨g, 2, none⟩ = some (u32v x1) := hrow.at 2 (by simp [stV, wordsV])
    have g3 : w.cell? ⟨g, 3, none⟩ = some (u32v x2) := hrow.at 3 (by simp [stV, wordsV])
    have g4 : w.cell? ⟨g, 4, none⟩ = some (u32v x3) := hrow.at 4 (by simp [stV, wordsV])
    have g5 : w.cell? ⟨g, 5, none⟩ = some (u32v x4) := hrow.at 5 (by simp [stV, wordsV])
    have g6 : w.cell? ⟨g, 6, none⟩ = some (u32v x5) := hrow.at 6 (by simp [stV, wordsV])
    have g7 : w.cell? ⟨g, 7, none⟩ = some (u32v x6) := hrow.at 7 (by simp [stV, wordsV])
    have g8 : w.cell? ⟨g, 8, none⟩ = some (u32v x7) := hrow.at 8 (by simp [stV, wordsV])
    have HR := hid (show RowV (((((((((w.setCell ⟨g, 0, none⟩ (.bool true)).setCell ⟨g, 1, none⟩ (.int .u32 1779033703)).setCell ⟨g, 2, none⟩ (.int .u32 3144134277)).setCell ⟨g, 3, none⟩ (.int .u32 1013904242)).setCell ⟨g, 4, none⟩ (.int .u32 2773480762)).setCell ⟨g, 5, none⟩ (.int .u32 1359893119)).setCell ⟨g, 6, none⟩ (.int .u32 2600822924)).setCell ⟨g, 7, none⟩ (.int .u32 528734635)).setCell ⟨g, 8, none⟩ (.int .u32 1541459225)) g 70 (stV true s.list blk n) from by rw [hsH]; exact ((((((((hrow.store 0 (.bool true)).store 1 (.int .u32 1779033703)).store 2 (.int .u32 3144134277)).store 3 (.int .u32 1013904242)).store 4 (.int .u32 2773480762)).store 5 (.int .u32 1359893119)).store 6 (.int .u32 2600822924)).store 7 (.int .u32 528734635)).store 8 (.int .u32 1541459225))
    have HG := hid (gb_set (gb_set (gb_set (gb_set (gb_set (gb_set (gb_set (gb_set (gb_set (gb_refl w (some g)) 0 (.bool true)) 1 (.int .u32 1779033703)) 2 (.int .u32 3144134277)) 3 (.int .u32 1013904242)) 4 (.int .u32 2773480762)) 5 (.int .u32 1359893119)) 6 (.int .u32 2600822924)) 7 (.int .u32 528734635)) 8 (.int .u32 1541459225))
    have HL := hid (hlaid.grown hrow HG.out)
    clear hlaid hbl hsH
    go_enter Tryd.func43, Tryd.ntmps43
    go_wp2
    clear k0 k1 k2 k3 k4 k5 k6 k7 g1 g2 g3 g4 g5 g6 g7 g8 c0 f0 hrow hs0
    obtain ⟨wa, hwa⟩ : ∃ wa : World, wa = ((((((((w.setCell ⟨g, 0, none⟩ (.bool true)).setCell ⟨g, 1, none⟩ (.int .u32 1779033703)).setCell ⟨g, 2, none⟩ (.int .u32 3144134277)).setCell ⟨g, 3, none⟩ (.int .u32 1013904242)).setCell ⟨g, 4, none⟩ (.int .u32 2773480762)).setCell ⟨g, 5, none⟩ (.int .u32 1359893119)).setCell ⟨g, 6, none⟩ (.int .u32 2600822924)).setCell ⟨g, 7, none⟩ (.int .u32 528734635)).setCell ⟨g, 8, none⟩ (.int .u32 1541459225) := ⟨_, rfl⟩
    have hwz : w.heap.size = wa.heap.size := by rw [hwa]; simp
    rw [← hwa] at HL HR HG ⊢
    rw [hwz]
    clear hwa hwz
  all_goals
    have HX := hid (Below.refl wa.heap.size wa)
    go_loopw [36] (fun y wr => ∃ t : Nat, t ≤ 64 ∧ y = .int .i64 (t : Int) ∧ Hid (RowV wr wa.heap.size 76 (wordsV (shaSched blk t) ++ List.replicate (64 - t) (u32v 0#32))) ∧ Hid (Below wa.heap.size wa wr)) (fun y _ => 64 - (intOf y).toNat)
    case atStart => exact ⟨0, Nat.zero_le _, rfl, RowV.new wa 76 (List.replicate 64 (u32v 0#32)), (Below.refl _ _).alloc (Nat.le_refl _) _⟩
    case round =>
      obtain ⟨t, ht, rfl, hr, hb⟩ := hrel
      by_cases hlt : t < 64
      · have hrt := hr.out
        rw [rest_next t hlt] at hrt
        have hlen := shaSched_length blk t
        by_cases h16 : t < 16
        · have HR1 := hid (HR.out.mono hb.out)
          have hsl := fun wx => run_sliceAt_arr (P := Tryd.prog) 58 5 64 Tryd.underlying58 (by kernel_rfl) g 9 (4 * t) (4 * t + 4) (by omega) (by omega) (by omega) .i64 .i64 (4 * (t : Int)) (4 * (t : Int) + 4) (by omega) (by omega) wx
          rw [show 4 * t + 4 - 4 * t = 4 by omega] at hsl
          have HS := hid (shaSched_low blk t h16)
          have HRT := hid hrt
          have HB := hid hb.out
          have HLN := hid hlen
          clear hr hb hrt hlen
          go_wp2
          clear hsl
          go_loopw [51] (fun y wx => ∃ j : Nat, j ≤ 4 ∧ y = .int .i64 (j : Int) ∧ Hid (RowV wx wa.heap.size 76 (wordsV (shaSched blk t) ++ (.int .u32 ((beVal ((blk.drop (4 * t)).take j) : Nat) : Int) :: List.replicate (64 - (t + 1)) (u32v 0#32)))) ∧ Hid (Below wa.heap.size wa wx)) (fun y _ => 4 - (intOf y).toNat)
          case atStart => exact ⟨0, Nat.zero_le _, rfl, HRT.out, HB.out⟩
          case round =>
            clear HRT HB
            obtain ⟨j, hj, rfl, hr, hb⟩ := hrel
            by_cases hlj : j < 4
            · have hbl := HBL.out
              have hcb : wr.cell? ⟨g, 9 + 4 * t + j, none⟩ = some (.int .u8 (blk[4 * t + j].toNat : Int)) := by
                rw [(HR.out.mono hb.out).cell, Nat.add_assoc, stV_byte true s.list blk n (4 * t + j) rfl (by omega)]
              have hcw := rowT_here hr.out HLN.out
              have hfw := hr.out.frozen t
              have hst := rowT_store hr.out HLN.out (.int .u32 ((beVal ((blk.drop (4 * t)).take (j + 1)) : Nat) : Int))
              have hbv : beVal ((blk.drop (4 * t)).take (j + 1)) = beVal ((blk.drop (4 * t)).take j) * 256 + blk[4 * t + j].toNat := by
                rw [List.take_succ_eq_append_getElem (by simp; omega), beVal_snoc]
                simp
              have hx : beVal ((blk.drop (4 * t)).take j) < 16777216 := by
                have h1 := beVal_lt ((blk.drop (4 * t)).take j)
                have h2 : 256 ^ ((blk.drop (4 * t)).take j).length ≤ 256 ^ 3 := Nat.pow_le_pow_right (by decide) (by simp; omega)
                omega
              rw [hbv] at hst
              have HBV := hid hbv
              generalize beVal ((blk.drop (4 * t)).take j) = x at *
              have HST := hid hst
              have HB := hid (hb.out.setCell (p := ⟨wa.heap.size, t, none⟩) (Nat.le_refl _) (.int .u32 ((x * 256 + blk[4 * t + j].toNat : Nat) : Int)))
              have hbb := byte_lt blk[4 * t + j]
              have hob := word_byte x blk[4 * t + j] hx
              generalize blk[4 * t + j] = c at *
              clear hr hb hst hbv hbl
              go_wp2
              go_roundw
              case rel => exact ⟨j + 1, by omega, by go_num, by rw [HBV.out]; exact HST.out, HB.out⟩
              case measure => simp [intOf]; omega
            · obtain rfl : j = 4 := by omega
              have hnx := rowT_next (shaSched blk t) (shaWord blk t) (.int .u32 ((beVal ((blk.drop (4 * t)).take 4) : Nat) : Int)) (List.replicate (64 - (t + 1)) (u32v 0#32)) (by
                have h1 := beVal_lt ((blk.drop (4 * t)).take 4)
                have h2 : 256 ^ ((blk.drop (4 * t)).take 4).length ≤ 256 ^ 4 := Nat.pow_le_pow_right (by decide) (by simp; omega)
                simp only [u32v, shaWord, BitVec.toNat_ofNat]
                rw [Nat.mod_eq_of_lt (by omega)])
              rw [hnx, ← HS.out] at hr
              have HRN := hid hr.out
              have HB := hid hb.out
              clear hr hb hnx
              go_wp2
              go_roundw
              case rel => exact ⟨t + 1, by omega, by go_num, HRN.out, HB.out⟩
              case measure => simp [intOf]; omega
        · have HS := hid (shaSched_high blk t (by omega))
          have p16 := rowT_low hrt (t - 16) (by omega)
          have p15 := rowT_low hrt (t - 15) (by omega)
          have p7 := rowT_low hrt (t - 7) (by omega)
          have p2 := rowT_low hrt (t - 2) (by omega)
          have hmix : shaMix (shaSched blk t) = (shaSched blk t).getD (t - 16) 0#32 + sigA ((shaSched blk t).getD (t - 15) 0#32) + (shaSched blk t).getD (t - 7) 0#32 + sigB ((shaSched blk t).getD (t - 2) 0#32) := by rw [shaMix, hlen]
          have hfw := hr.out.frozen t
          have phere := rowT_here hrt hlen
          have hst := rowT_store hrt hlen (u32v (shaMix (shaSched blk t)))
          rw [rowT_next _ _ _ _ rfl, ← HS.out] at hst
          generalize (shaSched blk t).getD (t - 16) 0#32 = x16 at *
          generalize (shaSched blk t).getD (t - 15) 0#32 = x15 at *
          generalize (shaSched blk t).getD (t - 7) 0#32 = x7 at *
          generalize (shaSched blk t).getD (t - 2) 0#32 = x2 at *
          generalize shaMix (shaSched blk t) = xm at *
          have HST := hid hst
          have HMX := hid hmix
          have HB := hid hb.out
          have e16 : ((t : Int) - 16).toNat = t - 16 := by omega
          have e15 : ((t : Int) - 15).toNat = t - 15 := by omega
          have e7 : ((t : Int) - 7).toNat = t - 7 := by omega
          have e2 : ((t : Int) - 2).toNat = t - 2 := by omega
          have i16 : (0 : Int) ≤ (t : Int) - 16 := by omega
          have i15 : (0 : Int) ≤ (t : Int) - 15 := by omega
          have i7 : (0 : Int) ≤ (t : Int) - 7 := by omega
          have i2 : (0 : Int) ≤ (t : Int) - 2 := by omega
          have j16 : (t : Int) - 16 < 64 := by omega
          have j15 : (t : Int) - 15 < 64 := by omega
          have j7 : (t : Int) - 7 < 64 := by omega
          have j2 : (t : Int) - 2 < 64 := by omega
          clear hst hmix hr hb hrt hlen
          go_wp2_with fail
          go_quiet (fail)
          go_wp2_with fail
          refine (rotl_at x15 7 (-7) (by decide) (by decide) rfl _).mono ?_
          rintro e w1 ⟨rfl, rfl⟩
          go_wp2_with fail
          refine (rotl_at x15 18 (-18) (by decide) (by decide) rfl _).mono ?_
          rintro e w1 ⟨rfl, rfl⟩
          go_wp2_with fail
          refine (rotl_at x2 17 (-17) (by decide) (by decide) rfl _).mono ?_
          rintro e w1 ⟨rfl, rfl⟩
          go_wp2_with fail
          refine (rotl_at x2 19 (-19) (by decide) (by decide) rfl _).mono ?_
          rintro e w1 ⟨rfl, rfl⟩
          go_wp2_with fail
          have w16 : IntKind.i64.wrap ((t : Int) - 16) = (t : Int) - 16 := by rw [IntKind.wrap_i64]; omega
          have w7 : IntKind.i64.wrap ((t : Int) - 7) = (t : Int) - 7 := by rw [IntKind.wrap_i64]; omega
          have it : (0 : Int) ≤ (t : Int) := by omega
          have k16 : (16 : Int) ≤ (t : Int) := by omega
          have k7 : (7 : Int) ≤ (t : Int) := by omega
          rw [sigA_val, sigB_val]
          generalize sigA x15 = sa at *
          generalize sigB x2 = sb at *
          have jt : (t : Int) < 64 := by omega
          go_region_held3 (fun w' => w'.cell? ⟨wa.heap.size, t - 16, none⟩ = some (.int .u32 (x16.toNat : Int)) ∧ w'.cell? ⟨wa.heap.size, t - 7, none⟩ = some (.int .u32 (x7.toNat : Int))) (first | go_keep | exact ⟨(cell_off _ (by omega)).trans p16, (cell_off _ (by omega)).trans p7⟩) (fail)
          go_wp2
          go_roundw
          case rel => exact ⟨t + 1, by omega, by go_num, by rw [add32, add32, add32, ← HMX.out]; exact HST.out, (below_drewN' HB.out _).setCell (p := ⟨wa.heap.size, t, none⟩) (Nat.le_refl _) _⟩
          case measure => simp [intOf]; omega
      · obtain rfl : t = 64 := by omega
        have hrow := hr.out
        rw [show List.replicate (64 - 64) (u32v 0#32) = [] from rfl, List.append_nil] at hrow
        have HRW := hid hrow
        have HB := hid hb.out
        have HRS := hid (HR.out.mono hb.out)
        have HLS := hid (HL.out.mono hb.out)
        have q0 : wr.cell? ⟨g, 1, none⟩ = some (.int .u32 (s.a.toNat : Int)) := HRS.out.at 1 (by simp [stV, wordsV, Sha.list])
        have q1 : wr.cell? ⟨g, 2, none⟩ = some (.int .u32 (s.b.toNat : Int)) := HRS.out.at 2 (by simp [stV, wordsV, Sha.list])
        have q2 : wr.cell? ⟨g, 3, none⟩ = some (.int .u32 (s.c.toNat : Int)) := HRS.out.at 3 (by simp [stV, wordsV, Sha.list])
        have q3 : wr.cell? ⟨g, 4, none⟩ = some (.int .u32 (s.d.toNat : Int)) := HRS.out.at 4 (by simp [stV, wordsV, Sha.list])
        have q4 : wr.cell? ⟨g, 5, none⟩ = some (.int .u32 (s.e.toNat : Int)) := HRS.out.at 5 (by simp [stV, wordsV, Sha.list])
        have q5 : wr.cell? ⟨g, 6, none⟩ = some (.int .u32 (s.f.toNat : Int)) := HRS.out.at 6 (by simp [stV, wordsV, Sha.list])
        have q6 : wr.cell? ⟨g, 7, none⟩ = some (.int .u32 (s.g.toNat : Int)) := HRS.out.at 7 (by simp [stV, wordsV, Sha.list])
        have q7 : wr.cell? ⟨g, 8, none⟩ = some (.int .u32 (s.h.toNat : Int)) := HRS.out.at 8 (by simp [stV, wordsV, Sha.list])
        clear hr hb hrow
        go_wp2_with fail
        go_quiet (fail)
        clear q0 q1 q2 q3 q4 q5 q6 q7
        have hsz : (wordsV (shaSched blk 64)).toArray.size = 64 := by rw [List.size_toArray, wordsV_length, shaSched_length]
        go_wp2_with (refine wpList_load_row rfl 76 (.tmp 2) rfl wa.heap.size rfl 76 (wordsV (shaSched blk 64)).toArray (0, 0) _ HRW.out Tryd.underlying76 rfl ?hi ?_)
        case hi => rw [hsz]; kernel_rfl
        go_wp2
        have HIX := hid (fun (t : Nat) (ht : t < 64) => run_index_row (P := Tryd.prog) 76 23 64 Tryd.underlying76 .u32 Tryd.underlying23 (by kernel_rfl) (wordsV (shaSched blk 64)) t (.int .u32 (((shaSched blk 64).getD t 0#32).toNat : Int)) ht (by simp [wordsV, u32v, shaSched_length, ht]))
        have HK := hid (fun (t : Nat) (ht : t < 64) => show wr.cell? ⟨1, t, none⟩ = some (.int .u32 ((shaK.getD t 0#32).toNat : Int)) by
          have h1 := HLS.out.2 t (by simpa [shaK] using ht)
          rw [h1, List.getD_eq_getElem?_getD, List.getElem?_eq_getElem (by simpa [shaK] using ht)]
          rfl)
        clear hsz
        have HBK := hid (show shaBlock s blk = s.add (shaRounds (shaSched blk 64) s 64) from rfl)
        clear HRW
        generalize shaSched blk 64 = ws at *
        go_loopw [10, 11, 12, 13, 14, 15, 16, 17, 146] (fun va vb vc vd ve vf vg vh y wx => ∃ t : Nat, t ≤ 64 ∧ y = .int .i64 (t : Int) ∧ va = .int .u32 ((shaRounds ws s t).a.toNat : Int) ∧ vb = .int .u32 ((shaRounds ws s t).b.toNat : Int) ∧ vc = .int .u32 ((shaRounds ws s t).c.toNat : Int) ∧ vd = .int .u32 ((shaRounds ws s t).d.toNat : Int) ∧ ve = .int .u32 ((shaRounds ws s t).e.toNat : Int) ∧ vf = .int .u32 ((shaRounds ws s t).f.toNat : Int) ∧ vg = .int .u32 ((shaRounds ws s t).g.toNat : Int) ∧ vh = .int .u32 ((shaRounds ws s t).h.toNat : Int) ∧ ∃ m, wx = wr.drewN m) (fun _ _ _ _ _ _ _ _ y _ => 64 - (intOf y).toNat)
        case atStart => exact ⟨0, Nat.zero_le _, rfl, rfl, rfl, rfl, rfl, rfl, rfl, rfl, rfl, _, rfl⟩
        case round =>
          obtain ⟨t, ht, rfl, rfl, rfl, rfl, rfl, rfl, rfl, rfl, rfl, m, rfl⟩ := hrel
          by_cases hlt : t < 64
          · have hix := HIX.out t hlt
            have hk := HK.out t hlt
            have HS := hid (show shaRounds ws s (t + 1) = shaStep (shaRounds ws s t) (shaK.getD t 0#32) (ws.getD t 0#32) from rfl)
            generalize shaRounds ws s t = S at *
            generalize shaK.getD t 0#32 = kt at *
            generalize ws.getD t 0#32 = wt at *
            have it : (0 : Int) ≤ (t : Int) := by omega
            have jt : (t : Int) < 64 := by omega
            have hk' : (wr.drewN m).cell? ⟨1, t, none⟩ = some (.int .u32 (kt.toNat : Int)) := hk
            have HM := hid (show ∃ d, wr.drewN m = wr.drewN d from ⟨m, rfl⟩)
            clear hk
            generalize wr.drewN m = wz at *
            go_wp2_with fail
            go_quiet (exact Calls.quiet_of_same (rotl_k _ _ (by decide) _))
            go_wp2_with fail
            refine (rotl_at S.a 2 (-2) (by decide) (by decide) rfl _).mono ?_
            rintro e w1 ⟨rfl, rfl⟩
            go_wp2_with fail
            refine (rotl_at S.a 13 (-13) (by decide) (by decide) rfl _).mono ?_
            rintro e w1 ⟨rfl, rfl⟩
            go_wp2_with fail
            refine (rotl_at S.a 22 (-22) (by decide) (by decide) rfl _).mono ?_
            rintro e w1 ⟨rfl, rfl⟩
            go_wp2
            go_roundw
            case rel =>
              refine ⟨t + 1, by omega, by go_num, ?_⟩
              rw [HS.out, sumE_val, ch_val, sumA_val, maj_val]
              clear HIX HBK HRS HLS HB HR HL HG HX HBL HS hix hk'
              refine ⟨?_, rfl, rfl, rfl, ?_, rfl, rfl, rfl, ?_⟩
              · refine congrArg (Value.int .u32) ?_
                simp only [shaStep, BitVec.toNat_add]
                omega
              · refine congrArg (Value.int .u32) ?_
                simp only [shaStep, BitVec.toNat_add]
                omega
              · obtain ⟨d, hd⟩ := HM.out
                exact ⟨_, by rw [hd, World.drewN_drewN]⟩
            case measure => simp [intOf]; omega
          · obtain rfl : t = 64 := by omega
            generalize shaRounds ws s 64 = r at *
            have HRM := hid (show RowV (wr.drewN m) g 70 (stV true (shaMixed s r 0) blk n) from HRS.out)
            have HBM := hid (show Below wa.heap.size wa (wr.drewN m) from below_drewN' HB.out m)
            have HIR := hid (fun (t : Nat) (ht : t < 8) => run_index_row (P := Tryd.prog) 68 23 8 Tryd.underlying68 .u32 Tryd.underlying23 (by kernel_rfl) (wordsV r.list) t (.int .u32 ((r.list.getD t 0#32).toNat : Int)) ht (wordsV_get r.list t ht))
            have HARR := hid (show wordsV r.list = [.int .u32 (r.a.toNat : Int), .int .u32 (r.b.toNat : Int), .int .u32 (r.c.toNat : Int), .int .u32 (r.d.toNat : Int), .int .u32 (r.e.toNat : Int), .int .u32 (r.f.toNat : Int), .int .u32 (r.g.toNat : Int), .int .u32 (r.h.toNat : Int)] from rfl)
            have HARR2 := hid (congrArg List.toArray HARR.out)
            clear HIX HRS HLS HB
            generalize wr.drewN m = wz at *
            go_wp2_with fail
            rw [← HARR2.out]
            go_loopw [215] (fun y wx => ∃ i : Nat, i ≤ 8 ∧ y = .int .i64 (i : Int) ∧ Hid (RowV wx g 70 (stV true (shaMixed s r i) blk n)) ∧ Hid (wz.grownBy wx (some g))) (fun y _ => 8 - (intOf y).toNat)
            case atStart => exact ⟨0, Nat.zero_le _, rfl, HRM.out, gb_refl _ _⟩
            case round =>
              clear HRM
              obtain ⟨i, hi, rfl, hr, hb⟩ := hrel
              by_cases hlt : i < 8
              · have hix := HIR.out i hlt
                have hml := shaMixed_length s r i hi
                have hc : wr.cell? ⟨g, 1 + i, none⟩ = some (.int .u32 ((s.list.getD i 0#32).toNat : Int)) := by rw [hr.out.cell, stV_wordD true _ blk n i _ (shaMixed_get s r i hlt)]
                have hf := hr.out.frozen (1 + i)
                have hst := hr.out.store (1 + i) (u32v (s.list.getD i 0#32 + r.list.getD i 0#32))
                rw [stV_setWord true _ blk n i (by omega), shaMixed_set s r i hlt] at hst
                have HST := hid hst
                have HB := hid hb.out
                have it : (0 : Int) ≤ (i : Int) := by omega
                have jt : (i : Int) < 8 := by omega
                generalize s.list.getD i 0#32 = x at *
                generalize r.list.getD i 0#32 = y at *
                clear hst hr hb hml
                go_wp2_with fail
                go_region
                go_wp2
                go_roundw
                case rel => exact ⟨i + 1, by omega, by go_num, by rw [add32]; exact HST.out, gb_set (gb_drewN HB.out _) _ _⟩
                case measure => simp [intOf]; omega
              · obtain rfl : i = 8 := by omega
                have HEND := hid (show RowV wr g 70 (stV true (shaBlock s blk).list blk n) from by rw [HBK.out, ← shaMixed_all]; exact hr.out)
                have HGE := hid (gb_trans HG.out (gb_trans (gb_of_gr HBM.out (some g)) hb.out))
                clear hr hb
                go_wp2
                go_end0
                exact ⟨rfl, HEND.out, HGE.out⟩
end Go.Proofs.YtjpemfciiakphaaDoor

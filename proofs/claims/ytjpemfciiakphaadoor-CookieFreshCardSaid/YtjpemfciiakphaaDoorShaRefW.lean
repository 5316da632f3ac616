/- The document's SHA-256: a block's words. Conditions: none. -/
import Derived.Test.YtjpemfciiakphaaDoorShaRef
namespace Go.FL
open Go.RowKit
theorem info_parts4 {P : Program} {e : TypeId} {z : Value} {b : Nat} (h : (P.info? e).map (fun i => (i.zero, i.size, i.bytes)) = some (some z, 1, b)) : ∃ i, P.info? e = some i ∧ i.zero = some z ∧ i.size = 1 ∧ i.bytes = b := by
  cases hq : P.info? e with
  | none => simp [hq] at h
  | some i => simp [hq] at h; exact ⟨i, rfl, h.1, h.2.1, h.2.2⟩
theorem opOk_skip {P : Program} {o : Oper} {ρ : Operand → Value} {w w' : World} {post : Value → World → Prop} (h : (execOp ρ o).run P w = .ok .skip w') (hp : post undef w') : opOk P o ρ w post := by
  unfold opOk
  rw [h]
  exact hp
/-- A row that is one or the other; once the other, it stays so. -/
def RowR (B G e : Nat) (rA rB : List Value) (a b : World) : Prop := Below B a b ∧ (RowV a G e rB → RowV b G e rB) ∧ (RowV a G e rA → RowV b G e rA ∨ RowV b G e rB)
theorem RowR.refl {B G e : Nat} {rA rB : List Value} (a : World) : RowR B G e rA rB a a := ⟨Below.refl _ _, id, .inl⟩
theorem RowR.trans {B G e : Nat} {rA rB : List Value} {a b c : World} (h : RowR B G e rA rB a b) (k : RowR B G e rA rB b c) : RowR B G e rA rB a c :=
  ⟨h.1.trans k.1, fun x => k.2.1 (h.2.1 x), fun x => (h.2.2 x).elim k.2.2 (fun y => .inr (k.2.1 y))⟩
theorem RowR.drew {B G e : Nat} {rA rB : List Value} (a : World) : RowR B G e rA rB a a.drew := ⟨(Below.refl _ _).drew, id, .inl⟩
/-- A word out of four bytes, as sums. -/
theorem word_sum (l : List UInt8) (t : Nat) (h : 4 * t + 4 ≤ l.length) :
    (l[4 * t].toNat : Int) * 16777216 + (l[4 * t + 1].toNat : Int) * 65536 + (l[4 * t + 2].toNat : Int) * 256 + (l[4 * t + 3].toNat : Int) = (((shaWord l t).toNat : Nat) : Int) := by
  have h0 := l[4 * t].toNat_lt
  have h1 := l[4 * t + 1].toNat_lt
  have h2 := l[4 * t + 2].toNat_lt
  have h3 := l[4 * t + 3].toNat_lt
  have e : (l.drop (4 * t)).take 4 = [l[4 * t], l[4 * t + 1], l[4 * t + 2], l[4 * t + 3]] := by
    rw [List.drop_eq_getElem_cons (by omega), List.take_succ_cons, List.drop_eq_getElem_cons (by omega), List.take_succ_cons, List.drop_eq_getElem_cons (by omega), List.take_succ_cons, List.drop_eq_getElem_cons (by omega), List.take_succ_cons, List.take_zero]
  rw [shaWord, e, BitVec.toNat_ofNat]
  simp only [beVal, List.foldl]
  omega
theorem run_make_u32 {P : Program} (t e : TypeId) (ht : P.underlying t = some (.slice e)) (hi : (P.info? e).map (fun i => (i.zero, i.size, i.bytes)) = some (some (.int .u32 0), 1, 4)) (kl kc : IntKind) (n : Nat) (hn : n ≤ 72) (N : Int) (hN : N = (n : Int)) (w : World) :
    (Instr.makeSlice t (.int kl N) (.int kc N)).run P w = .ok (.slice (some ⟨w.heap.size, 0, none⟩) n n) (w.alloc (.cells (List.replicate n (u32v 0#32)).toArray e (0, 0))) := by
  subst hN
  obtain ⟨i, h1, h2, h3, h4⟩ := info_parts4 hi
  have := run_make (P := P) w t e i _ ht h1 h2 kl kc (n : Int) (n : Int) (by omega) (Int.le_refl _) (by rw [h4]; omega) (by omega)
  rw [this, h3]
  simp only [Int.toNat_natCast]
  have hz : madeCells (Value.int .u32 0).cells (n * 1) = (List.replicate n (u32v 0#32)).toArray := by
    refine Array.ext_getElem? ?_
    intro i
    simp [madeCells, Value.cells, u32v, List.getElem?_replicate]
    by_cases h : i < n <;> simp [h, Nat.mod_one]
  rw [hz]
theorem cell_blk {w : World} {g b i j : Nat} (u : Value) (h : g ≠ b) : (w.setCell ⟨g, i, none⟩ u).cell? ⟨b, j, none⟩ = w.cell? ⟨b, j, none⟩ :=
  World.cell?_setCell_other _ _ _ _ (by simp [h])
end Go.FL
namespace Go.Proofs.YtjpemfciiakphaaDoor
open Go.RowKit Go.FL

def wordFacts (G t : Nat) (e : Nat) (rB : List Value) (x16 x15 x7 x2 xm y0 p7 p18 px ps sa y1 q17 q19 qx qs sb : BitVec 32) : List (Value → World → Prop) :=
  let S := Is (.slice (some ⟨G, 0, none⟩) 64 64)
  let T := Is (.int .i64 (t : Int))
  let U : BitVec 32 → Value → World → Prop := fun x => Is (.int .u32 (x.toNat : Int))
  [S, T, S, T, Is (.int .i64 ((t : Int) - 16)), Is (.pointer (some ⟨G, t - 16, none⟩)), U x16, S, T, Is (.int .i64 ((t : Int) - 7)), Is (.pointer (some ⟨G, t - 7, none⟩)), U x7, U y0,
   U x15, U p7, U x15, U p18, U px, U x15, U ps, U sa, U y1,
   U x2, U q17, U x2, U q19, U qx, U x2, U qs, U sb, U xm, Is (.pointer (some ⟨G, t, none⟩)), fun _ w => RowV w G e rB]

set_option maxRecDepth 20000 in
set_option maxHeartbeats 4000000 in
theorem words_any (p : Option Addr) (c : Nat) (l : List UInt8) (w : World) (hv : Rd w (.slice p 64 c) l) (hl : l.length = 64) :
    Calls Tryd.prog 48 #[.slice p 64 c] w fun e w' => e = .returned (.slice (some ⟨w.heap.size, 0, none⟩) 64 64) ∧ RowV w' w.heap.size 23 (wordsV (shaSched l 64)) ∧ Below w.heap.size w w' := by
  have HV := hid hv
  have HL := hid hl
  obtain ⟨b, off, c', hpc, _, _, hcell⟩ := hv.at (by omega)
  rw [hl] at hpc
  simp only [Value.slice.injEq] at hpc
  obtain ⟨rfl, _, rfl⟩ := hpc
  rename_i k1 k2 k3
  clear k1 k2 k3 hv
  have HC := hid hcell
  have hbw : w.heap.size ≠ b := by
    have := World.block_lt_of_cell? _ _ (hcell 0 (by omega))
    simp at this
    omega
  clear hcell hl
  have hmk := fun wx => run_make_u32 (P := Tryd.prog) 57 23 Tryd.underlying57 (by kernel_rfl) .i64 .i64 64 (by decide) 64 rfl wx
  go_enter Tryd.func48, Tryd.ntmps48
  go_wp2_with fail
  clear hmk
  go_loopw [4] (fun y wr => ∃ t : Nat, t ≤ 64 ∧ y = .int .i64 (t : Int) ∧ Hid (RowV wr w.heap.size 23 (wordsV (shaSched l t) ++ List.replicate (64 - t) (u32v 0#32))) ∧ Hid (Below w.heap.size w wr)) (fun y _ => 64 - (intOf y).toNat)
  case atStart => exact ⟨0, Nat.zero_le _, rfl, RowV.new w 23 (List.replicate 64 (u32v 0#32)), (Below.refl _ _).alloc (Nat.le_refl _) _⟩
  case round =>
    obtain ⟨t, ht, rfl, hr, hb⟩ := hrel
    by_cases hlt : t < 64
    · have hrt := hr.out
      rw [rest_next t hlt] at hrt
      have hlen := shaSched_length l t
      have hfw := hr.out.frozen t
      have phere := rowT_here hrt hlen
      by_cases h16 : t < 16
      · have HS := hid (shaSched_low l t h16)
        have hlL := HL.out
        have hws := word_sum l t (by omega)
        have c0 := cell?_of_below hb.out (HC.out (4 * t) (by omega))
        have c1 := cell?_of_below hb.out (HC.out (4 * t + 1) (by omega))
        have c2 := cell?_of_below hb.out (HC.out (4 * t + 2) (by omega))
        have c3 := cell?_of_below hb.out (HC.out (4 * t + 3) (by omega))
        have hst := rowT_store hrt hlen (u32v (shaWord l t))
        rw [rowT_next _ _ _ _ rfl, ← HS.out] at hst
        have HST := hid hst
        have HB := hid hb.out
        have b0 := byte_lt l[4 * t]
        have b1 := byte_lt l[4 * t + 1]
        have b2 := byte_lt l[4 * t + 2]
        have b3 := byte_lt l[4 * t + 3]
        generalize l[4 * t] = x0 at *
        generalize l[4 * t + 1] = x1 at *
        generalize l[4 * t + 2] = x2 at *
        generalize l[4 * t + 3] = x3 at *
        generalize shaWord l t = xm at *
        have HW := hid hws
        clear hr hb hrt hlen hst hws hlL HS HV
        have hw0 : IntKind.i64.wrap (4 * (t : Int)) = 4 * (t : Int) := by rw [IntKind.wrap_i64]; omega
        have hw1 : IntKind.i64.wrap (4 * (t : Int) + 1) = 4 * (t : Int) + 1 := by rw [IntKind.wrap_i64]; omega
        have hw2 : IntKind.i64.wrap (4 * (t : Int) + 2) = 4 * (t : Int) + 2 := by rw [IntKind.wrap_i64]; omega
        have hw3 : IntKind.i64.wrap (4 * (t : Int) + 3) = 4 * (t : Int) + 3 := by rw [IntKind.wrap_i64]; omega
        have j0 : (0 : Int) ≤ 4 * (t : Int) := by omega
        have j1 : (0 : Int) ≤ 4 * (t : Int) + 1 := by omega
        have j2 : (0 : Int) ≤ 4 * (t : Int) + 2 := by omega
        have j3 : (0 : Int) ≤ 4 * (t : Int) + 3 := by omega
        have l0 : 4 * (t : Int) < 64 := by omega
        have l1 : 4 * (t : Int) + 1 < 64 := by omega
        have l2 : 4 * (t : Int) + 2 < 64 := by omega
        have l3 : 4 * (t : Int) + 3 < 64 := by omega
        have n0 : (4 * (t : Int)).toNat = 4 * t := by omega
        have n1 : (4 * (t : Int) + 1).toNat = 4 * t + 1 := by omega
        have n2 : (4 * (t : Int) + 2).toNat = 4 * t + 2 := by omega
        have n3 : (4 * (t : Int) + 3).toNat = 4 * t + 3 := by omega
        have it : (0 : Int) ≤ (t : Int) := by omega
        have lt : (t : Int) < 64 := by omega
        go_wp2_with fail
        go_region_held3 (fun w' => w'.cell? ⟨b, off + 4 * t, none⟩ = some (.int .u8 (x0.toNat : Int)) ∧ w'.cell? ⟨b, off + (4 * t + 1), none⟩ = some (.int .u8 (x1.toNat : Int)) ∧ w'.cell? ⟨b, off + (4 * t + 2), none⟩ = some (.int .u8 (x2.toNat : Int)) ∧ w'.cell? ⟨b, off + (4 * t + 3), none⟩ = some (.int .u8 (x3.toNat : Int))) (first | go_keep | exact ⟨(cell_blk _ hbw).trans c0, (cell_blk _ hbw).trans c1, (cell_blk _ hbw).trans c2, (cell_blk _ hbw).trans c3⟩) (fail)
        go_wp2
        go_roundw
        case rel => exact ⟨t + 1, by omega, by go_num, by rw [HW.out]; exact HST.out, (below_drewN' HB.out _).setCell (p := ⟨w.heap.size, t, none⟩) (Nat.le_refl _) _⟩
        case measure => simp [intOf]; omega
      · have HS := hid (shaSched_high l t (by omega))
        have p16 := rowT_low hrt (t - 16) (by omega)
        have p15 := rowT_low hrt (t - 15) (by omega)
        have p7 := rowT_low hrt (t - 7) (by omega)
        have p2 := rowT_low hrt (t - 2) (by omega)
        have hmix : shaMix (shaSched l t) = (shaSched l t).getD (t - 16) 0#32 + sigA ((shaSched l t).getD (t - 15) 0#32) + (shaSched l t).getD (t - 7) 0#32 + sigB ((shaSched l t).getD (t - 2) 0#32) := by rw [shaMix, hlen]
        obtain ⟨rA, hrA⟩ : ∃ rA, rA = wordsV (shaSched l t) ++ u32v 0#32 :: List.replicate (64 - (t + 1)) (u32v 0#32) := ⟨_, rfl⟩
        obtain ⟨rB, hrB⟩ : ∃ rB, rB = wordsV (shaSched l t) ++ u32v (shaMix (shaSched l t)) :: List.replicate (64 - (t + 1)) (u32v 0#32) := ⟨_, rfl⟩
        have hset : ∀ wx, (RowV wx w.heap.size 23 rA ∨ RowV wx w.heap.size 23 rB) → RowV (wx.setCell ⟨w.heap.size, t, none⟩ (u32v (shaMix (shaSched l t)))) w.heap.size 23 rB := fun wx h => by
          rcases h with h | h
          · rw [hrA] at h; rw [hrB]; exact rowT_store h hlen _
          · rw [hrB] at h ⊢; exact rowT_store h hlen _
        have hcel : ∀ wx, (RowV wx w.heap.size 23 rA ∨ RowV wx w.heap.size 23 rB) → ∀ i, i < t → wx.cell? ⟨w.heap.size, i, none⟩ = some (.int .u32 (((shaSched l t).getD i 0#32).toNat : Int)) := fun wx h i hi => by
          rcases h with h | h
          · rw [hrA] at h; exact rowT_low h i (by omega)
          · rw [hrB] at h; exact rowT_low h i (by omega)
        have hher : ∀ wx, (RowV wx w.heap.size 23 rA ∨ RowV wx w.heap.size 23 rB) → ∃ u, wx.cell? ⟨w.heap.size, t, none⟩ = some (u32v u) := fun wx h => by
          rcases h with h | h
          · rw [hrA] at h; exact ⟨_, rowT_here h hlen⟩
          · rw [hrB] at h; exact ⟨_, rowT_here h hlen⟩
        have hfro : ∀ wx, (RowV wx w.heap.size 23 rA ∨ RowV wx w.heap.size 23 rB) → wx.frozen? ⟨w.heap.size, t, none⟩ = false := fun wx h => by
          rcases h with h | h <;> exact h.frozen t
        have hnx : rB = wordsV (shaSched l (t + 1)) ++ List.replicate (64 - (t + 1)) (u32v 0#32) := by rw [hrB, rowT_next _ _ _ _ rfl, ← HS.out]
        rw [← hrA] at hrt
        have c16 := fun wx h => hcel wx h (t - 16) (by omega)
        have c7 := fun wx h => hcel wx h (t - 7) (by omega)
        have HRT := hid hrt
        have HB := hid hb.out
        have HNX := hid hnx
        have HSET := hid hset
        have HHER := hid hher
        have HFRO := hid hfro
        have HC16 := hid c16
        have HC7 := hid c7
        clear hset hher hfro c16 c7 hcel hnx hr hb hrt hrA hrB HS HV hlen phere hfw
        generalize (shaSched l t).getD (t - 16) 0#32 = x16 at *
        generalize (shaSched l t).getD (t - 15) 0#32 = x15 at *
        generalize (shaSched l t).getD (t - 7) 0#32 = x7 at *
        generalize (shaSched l t).getD (t - 2) 0#32 = x2 at *
        generalize shaMix (shaSched l t) = xm at *
        have HMX := hid hmix
        clear hmix p16 p7
        have e15 : ((t : Int) - 15).toNat = t - 15 := by omega
        have e2 : ((t : Int) - 2).toNat = t - 2 := by omega
        have i15 : (0 : Int) ≤ (t : Int) - 15 := by omega
        have i2 : (0 : Int) ≤ (t : Int) - 2 := by omega
        have j15 : (t : Int) - 15 < 64 := by omega
        have j2 : (t : Int) - 2 < 64 := by omega
        go_wp2_with fail
        have w16 : IntKind.i64.wrap ((t : Int) - 16) = (t : Int) - 16 := by rw [IntKind.wrap_i64]; omega
        have w7 : IntKind.i64.wrap ((t : Int) - 7) = (t : Int) - 7 := by rw [IntKind.wrap_i64]; omega
        have e16 : ((t : Int) - 16).toNat = t - 16 := by omega
        have e7 : ((t : Int) - 7).toNat = t - 7 := by omega
        have i16 : (0 : Int) ≤ (t : Int) - 16 := by omega
        have i7 : (0 : Int) ≤ (t : Int) - 7 := by omega
        have j16 : (t : Int) - 16 < 64 := by omega
        have j7 : (t : Int) - 7 < 64 := by omega
        have it : (0 : Int) ≤ (t : Int) := by omega
        have lt : (t : Int) < 64 := by omega
        have wu : ∀ x y : BitVec 32, IntKind.u32.wrap ((x.toNat : Int) + (y.toNat : Int)) = ((x + y).toNat : Int) := fun x y => by rw [IntKind.wrap_u32, add32]
        have wx : ∀ x y : BitVec 32, bits .xor .u32 (x.toNat : Int) (y.toNat : Int) = ((x ^^^ y).toNat : Int) := fun x y => bits_xor32 x y
        have HMX2 := hid (show x16 + x7 + sigA x15 + sigB x2 = xm by rw [HMX.out, BitVec.add_assoc x16 x7, BitVec.add_comm x7, ← BitVec.add_assoc])
        obtain ⟨p7, hp7⟩ : ∃ z, z = rr x15 7 := ⟨_, rfl⟩
        obtain ⟨p18, hp18⟩ : ∃ z, z = rr x15 18 := ⟨_, rfl⟩
        obtain ⟨q17, hq17⟩ : ∃ z, z = rr x2 17 := ⟨_, rfl⟩
        obtain ⟨q19, hq19⟩ : ∃ z, z = rr x2 19 := ⟨_, rfl⟩
        obtain ⟨ps, hps⟩ : ∃ z, z = x15 >>> 3 := ⟨_, rfl⟩
        obtain ⟨qs, hqs⟩ : ∃ z, z = x2 >>> 10 := ⟨_, rfl⟩
        obtain ⟨px, hpx⟩ : ∃ z, z = p7 ^^^ p18 := ⟨_, rfl⟩
        obtain ⟨qx, hqx⟩ : ∃ z, z = q17 ^^^ q19 := ⟨_, rfl⟩
        obtain ⟨sa, hsa⟩ : ∃ z, z = px ^^^ ps := ⟨_, rfl⟩
        obtain ⟨sb, hsb⟩ : ∃ z, z = qx ^^^ qs := ⟨_, rfl⟩
        obtain ⟨y0, hy0⟩ : ∃ z, z = x16 + x7 := ⟨_, rfl⟩
        obtain ⟨y1, hy1⟩ : ∃ z, z = y0 + sa := ⟨_, rfl⟩
        have f1 := hid (hpx ▸ wx p7 p18)
        have f2 := hid (hqx ▸ wx q17 q19)
        have f3 := hid (hsa ▸ wx px ps)
        have f4 := hid (hsb ▸ wx qx qs)
        have f5 := hid (hy0 ▸ wu x16 x7)
        have f6 := hid (hy1 ▸ wu y0 sa)
        have f7 := hid (show IntKind.u32.wrap ((y1.toNat : Int) + (sb.toNat : Int)) = (xm.toNat : Int) by
          rw [wu, ← HMX2.out, hy1, hy0, hsa, hsb, hpx, hqx, hps, hqs, hp7, hp18, hq17, hq19, sigA, sigB])
        have f8 := hid (show (x15.toNat : Int) / 8 = (ps.toNat : Int) by rw [hps]; exact shr32 x15 3)
        have f9 := hid (show (x2.toNat : Int) / 1024 = (qs.toNat : Int) by rw [hqs]; exact shr32 x2 10)
        have HP7 := hid hp7
        have HP18 := hid hp18
        have HQ17 := hid hq17
        have HQ19 := hid hq19
        clear hp7 hp18 hq17 hq19 hps hqs hpx hqx hsa hsb hy0 hy1 wu wx
        have q16 : ¬ (t : Int) < 16 := by omega
        have q7 : ¬ (t : Int) < 7 := by omega
        refine wp_region_grow (S := factAt (wordFacts w.heap.size t 23 rB x16 x15 x7 x2 xm y0 p7 p18 px ps sa y1 q17 q19 qx qs sb)) (R := RowR w.heap.size w.heap.size 23 rA rB) (by kernel_rfl) (by kernel_rfl) (by kernel_rfl) RowR.refl (fun _ _ _ => RowR.trans) RowR.drew ?_ ?_ ?_
        · refine factAt_stab ?_
          simp only [wordFacts, StabAll, Is.stab, true_and, and_true]
          exact fun _ _ _ h k => k.2.1 h
        · rename_i Kk hKk; clear hKk Kk
          simp only [AllOps, List.map_cons, List.map_nil, depsOf, List.filterMap_cons, List.filterMap_nil, Region.binds, depFacts, guardF, reduceIte, List.getD_eq_getElem?_getD, List.getElem?_cons_succ, List.getElem?_cons_zero, Option.getD_some, factAt, wordFacts, Is, and_true]
          refine ⟨?_, ?_, ?_, ?_, ?_, ?_, ?_, ?_, ?_, ?_, ?_, ?_, ?_, ?_, ?_, ?_, ?_, ?_, ?_, ?_, ?_, ?_, ?_, ?_, ?_, ?_, ?_, ?_, ?_, ?_, ?_, ?_, ?_⟩
          all_goals intro ρ wv hρ hR hd
          all_goals first
            | exact opOk_move (.inl rfl) ⟨hρ.2 3 rfl, RowR.refl _⟩
            | exact opOk_move (.inl rfl) ⟨hρ.2 4 rfl, RowR.refl _⟩
            | exact opOk_move (.inl rfl) ⟨hρ.2 5 rfl, RowR.refl _⟩
            | exact opOk_move (.inl rfl) ⟨hρ.2 6 rfl, RowR.refl _⟩
            | skip
          · exact opOk_val (v := (.int .i64 ((t : Int) - 16))) (w' := wv) (by simp [execOp, go_sem, hρ.1.const, hd, w16]) ⟨rfl, RowR.refl _⟩
          · exact opOk_val (v := (.pointer (some ⟨w.heap.size, t - 16, none⟩))) (w' := wv) (by simp [execOp, go_sem, hρ.1.const, hd, e16, i16, j16, q16, Tryd.underlying57]) ⟨rfl, RowR.refl _⟩
          · have hc := HC16.out wv (hR.2.2 HRT.out)
            exact opOk_val (v := (.int .u32 ((x16 : BitVec 32).toNat : Int))) (w' := wv) (by simp [execOp, go_sem, hd, hc]) ⟨rfl, RowR.refl _⟩
          · exact opOk_val (v := (.int .i64 ((t : Int) - 7))) (w' := wv) (by simp [execOp, go_sem, hρ.1.const, hd, w7]) ⟨rfl, RowR.refl _⟩
          · exact opOk_val (v := (.pointer (some ⟨w.heap.size, t - 7, none⟩))) (w' := wv) (by simp [execOp, go_sem, hρ.1.const, hd, e7, i7, j7, q7, Tryd.underlying57]) ⟨rfl, RowR.refl _⟩
          · have hc := HC7.out wv (hR.2.2 HRT.out)
            exact opOk_val (v := (.int .u32 ((x7 : BitVec 32).toNat : Int))) (w' := wv) (by simp [execOp, go_sem, hd, hc]) ⟨rfl, RowR.refl _⟩
          · exact opOk_val (v := (.int .u32 ((y0 : BitVec 32).toNat : Int))) (w' := wv) (by simp [execOp, go_sem, hρ.1.const, hd, f5.out]) ⟨rfl, RowR.refl _⟩
          · exact opOk_call hρ.1 rfl rfl Tryd.func49 (by kernel_rfl) rfl (by simp [hd, hρ.1.const]) ((right_k x15 7 (by decide) _).mono fun e w' ⟨h1, h2⟩ => ⟨_, h1, by rw [HP7.out]; rfl, by rw [h2]; exact RowR.refl _⟩)
          · exact opOk_call hρ.1 rfl rfl Tryd.func49 (by kernel_rfl) rfl (by simp [hd, hρ.1.const]) ((right_k x15 18 (by decide) _).mono fun e w' ⟨h1, h2⟩ => ⟨_, h1, by rw [HP18.out]; rfl, by rw [h2]; exact RowR.refl _⟩)
          · exact opOk_val (v := (.int .u32 ((px : BitVec 32).toNat : Int))) (w' := wv) (by simp [execOp, go_sem, hρ.1.const, hd, f1.out]) ⟨rfl, RowR.refl _⟩
          · exact opOk_val (v := (.int .u32 ((ps : BitVec 32).toNat : Int))) (w' := wv) (by simp [execOp, go_sem, hρ.1.const, hd, f8.out]) ⟨rfl, RowR.refl _⟩
          · exact opOk_val (v := (.int .u32 ((sa : BitVec 32).toNat : Int))) (w' := wv) (by simp [execOp, go_sem, hρ.1.const, hd, f3.out]) ⟨rfl, RowR.refl _⟩
          · exact opOk_val (v := (.int .u32 ((y1 : BitVec 32).toNat : Int))) (w' := wv) (by simp [execOp, go_sem, hρ.1.const, hd, f6.out]) ⟨rfl, RowR.refl _⟩
          · exact opOk_call hρ.1 rfl rfl Tryd.func49 (by kernel_rfl) rfl (by simp [hd, hρ.1.const]) ((right_k x2 17 (by decide) _).mono fun e w' ⟨h1, h2⟩ => ⟨_, h1, by rw [HQ17.out]; rfl, by rw [h2]; exact RowR.refl _⟩)
          · exact opOk_call hρ.1 rfl rfl Tryd.func49 (by kernel_rfl) rfl (by simp [hd, hρ.1.const]) ((right_k x2 19 (by decide) _).mono fun e w' ⟨h1, h2⟩ => ⟨_, h1, by rw [HQ19.out]; rfl, by rw [h2]; exact RowR.refl _⟩)
          · exact opOk_val (v := (.int .u32 ((qx : BitVec 32).toNat : Int))) (w' := wv) (by simp [execOp, go_sem, hρ.1.const, hd, f2.out]) ⟨rfl, RowR.refl _⟩
          · exact opOk_val (v := (.int .u32 ((qs : BitVec 32).toNat : Int))) (w' := wv) (by simp [execOp, go_sem, hρ.1.const, hd, f9.out]) ⟨rfl, RowR.refl _⟩
          · exact opOk_val (v := (.int .u32 ((sb : BitVec 32).toNat : Int))) (w' := wv) (by simp [execOp, go_sem, hρ.1.const, hd, f4.out]) ⟨rfl, RowR.refl _⟩
          · exact opOk_val (v := (.int .u32 ((xm : BitVec 32).toNat : Int))) (w' := wv) (by simp [execOp, go_sem, hρ.1.const, hd, f7.out]) ⟨rfl, RowR.refl _⟩
          · exact opOk_val (v := (.pointer (some ⟨w.heap.size, t, none⟩))) (w' := wv) (by simp [execOp, go_sem, hρ.1.const, hd, it, lt, Tryd.underlying57]) ⟨rfl, RowR.refl _⟩
          · have hor := hR.2.2 HRT.out
            obtain ⟨u0, hu0⟩ := HHER.out wv hor
            have hfr := HFRO.out wv hor
            have hnew := HSET.out wv hor
            refine opOk_skip (w' := wv.setCell ⟨w.heap.size, t, none⟩ (u32v xm)) (by simp [execOp, go_sem, hd, hu0, hfr, u32v]) ⟨hnew, ⟨(Below.refl _ _).setCell (p := ⟨w.heap.size, t, none⟩) (Nat.le_refl _) _, fun _ => hnew, fun _ => .inr hnew⟩⟩
        · intro vals wv hR hall
          have h32 := hall 32 (by simp)
          simp only [factAt, wordFacts, List.getD_eq_getElem?_getD, List.getElem?_cons_succ, List.getElem?_cons_zero, Option.getD_some] at h32
          clear hall
          simp only [fillFrom, Act.put, List.setIfInBounds_toArray, List.set_cons_zero, List.set_cons_succ]
          have HR2 := hid h32
          have HB2 := hid (HB.out.trans hR.1)
          clear hR h32
          go_wp2
          go_roundw
          case rel => exact ⟨t + 1, by omega, by go_num, by rw [← HNX.out]; exact HR2.out, HB2.out⟩
          case measure => simp [intOf]; omega
    · obtain rfl : t = 64 := by omega
      have hrow := hr.out
      rw [show List.replicate (64 - 64) (u32v 0#32) = [] from rfl, List.append_nil] at hrow
      have HR := hid hrow
      have HB := hid hb.out
      clear hr hb hrow
      go_wp2
      go_ret
      exact ⟨rfl, HR.out, HB.out⟩
end Go.Proofs.YtjpemfciiakphaaDoor

/- ShaPieces: the walk of the law. Conditions: the package's tables hold what its text says. -/
import Derived.Test.YtjihcjfenpemfaaDoorShaEq
import Derived.Test.YtjihcjfenpemfaaDoorMem2
import Derived.Test.YtjihcjfenpemfaaDoorCopy
namespace Go.FL
open Go.RowKit
theorem Own.put {w : World} {base e : Nat} {v : Value} {m : List UInt8} (h : Own w base e v m) (k : Nat) (hk : k < m.length) :
    ∃ gc cap, v = .slice (some ⟨gc, 0, none⟩) m.length cap ∧ base ≤ gc ∧ w.cell? ⟨gc, k, none⟩ = some (.int .u8 (m[k].toNat : Int)) ∧ w.frozen? ⟨gc, k, none⟩ = false ∧
      ∀ b : UInt8, Own (w.setCell ⟨gc, k, none⟩ (.int .u8 (b.toNat : Int))) base e v (m.set k b) ∧ w.grownBy (w.setCell ⟨gc, k, none⟩ (.int .u8 (b.toNat : Int))) v.ownBlock := by
  rcases h with ⟨rfl, rfl⟩ | ⟨g, sp, h1, rfl, h2, h3⟩
  · simp at hk
  · refine ⟨g, _, rfl, h1, ?_, h2.frozen k, fun b => ⟨.inr ⟨g, sp, h1, by simp, ?_, by simpa using h3⟩, gb_set (gb_refl _ _) _ _⟩⟩
    · rw [h2.cell k (by simp; omega), List.getElem_append_left hk]
    · have := h2.store k b
      rwa [List.set_append, if_pos hk] at this
theorem gb_below' {a b : World} {r : Option Nat} {B : Nat} (h : a.grownBy b r) (hg : ∀ g, r = some g → B ≤ g) (hB : B ≤ a.heap.size) : Below B a b := by
  cases r with
  | some g => exact gb_below h (hg g rfl) hB
  | none => exact (gr_of_grown h rfl).mono hB
end Go.FL
namespace Go.Proofs.YtjihcjfenpemfaaDoor
open Go.RowKit Go.FL

theorem run_slice_mid {P : Program} (t e : TypeId) (ht : P.underlying t = some (.slice e)) (hz : (P.info? e).map (·.size) = some 1) (p : Option Addr) (n c i j : Nat) (hij : i ≤ j) (hj : j ≤ c) (k k' : IntKind) (I J : Int) (hI : I = (i : Int)) (hJ : J = (j : Int)) (w : World) :
    (Instr.slice t (.slice p n c) (some (.int k I)) (some (.int k' J)) none).run P w = .ok (sliced p i j c 1) w := by
  subst hI hJ
  cases hq : P.info? e with
  | none => simp [hq] at hz
  | some inf =>
    have hs : inf.size = 1 := by simpa [hq] using hz
    simp [Instr.slice, run_underlying ht, Instr.sliceBounds, run_sliceBound, sizeOf, typeInfo, hq, hs, hij, hj, sliced]

set_option maxRecDepth 20000 in
set_option maxHeartbeats 2000000 in
theorem shaPieces_walk {w : World} (hlaid : ShaLaid w) {v : Value} (l : List UInt8) (hv : Rd w v l) {u : Value} (sz : List UInt8) (hu : Rd w u sz) :
    Calls Tryd.prog 5 #[v, u] w fun e w' => e = .returned (.bool true) ∧ Below w.heap.size w w' := by
  have HL := hid hlaid
  have HV := hid hv
  have HU := hid hu
  obtain ⟨p, c, rfl, hlc, hcm, hpn, hcell⟩ := hv
  obtain ⟨pz, cz, rfl, hlcz, hcmz, hpnz, hcellz⟩ := hu
  unfold maxLen at hcm hcmz
  have HZ := hid hcellz
  clear hcell hcellz hlaid
  by_cases hbig : 4096 < l.length ∨ 200 < sz.length
  · have hcase : 4096 < l.length ∨ (l.length ≤ 4096 ∧ 200 < sz.length) := by omega
    clear hbig
    rcases hcase with h1 | ⟨h1, h2⟩
    all_goals
      go_enter Tryd.func5, Tryd.ntmps5
      go_wp2_with fail
      refine (works_any _ HL.out).mono ?_
      rintro e w' ⟨rfl, hb⟩
      go_wp2_with fail
      go_ret
      exact ⟨rfl, hb⟩
  · have hl4 : l.length ≤ 4096 := by omega
    have hz2 : sz.length ≤ 200 := by omega
    clear hbig
    go_enter Tryd.func5, Tryd.ntmps5
    go_wp2_with fail
    refine (new_any _).mono ?_
    rintro e w1 ⟨rfl, hs1, hb1⟩
    have HS1 := hid hs1
    have G1 := hid hb1
    clear hs1 hb1
    go_wp2_with fail
    go_loopw [6, 7] (fun a y wr => ∃ i j : Nat, i ≤ sz.length ∧ y = .int .i64 (i : Int) ∧ j ≤ l.length ∧ a = .int .i64 (j : Int) ∧ Hid (ShaSt wr w.heap.size 42 (l.take j)) ∧ Hid (Below w.heap.size w wr)) (fun _ y _ => sz.length - (intOf y).toNat)
    case atStart => exact ⟨0, 0, Nat.zero_le _, rfl, Nat.zero_le _, rfl, HS1.out, G1.out⟩
    case round =>
      clear HS1 G1
      obtain ⟨i, j, hi, rfl, hj, rfl, hs, hb⟩ := hrel
      by_cases hlt : i < sz.length
      · obtain ⟨bz, offz, rfl, hcz⟩ := HZ.out i hlt
        have hczw := cell?_of_below hb.out hcz
        have hzb := byte_lt sz[i]
        obtain ⟨s, hs'⟩ : ∃ s : Nat, (sz[i].toNat : Int) = (s : Int) := ⟨_, rfl⟩
        rw [hs'] at hczw hzb
        obtain ⟨e, he⟩ : ∃ e : Nat, e = min (j + s) l.length := ⟨_, rfl⟩
        have hje : j ≤ e := by omega
        have hel : e ≤ l.length := by omega
        have hcut := (HV.out.mono hb.out).cut j e hje hel
        have hform : ∃ p2 c2, sliced p j e c 1 = .slice p2 (e - j) c2 := ⟨_, _, rfl⟩
        have hcase : ((j : Int) + (s : Int) ≤ (l.length : Int) ∧ (e : Int) = (j : Int) + (s : Int)) ∨ ((l.length : Int) < (j : Int) + (s : Int) ∧ (e : Int) = (l.length : Int)) := by omega
        have hsl : ∀ E : Int, E = (e : Int) → ∀ wx, (Instr.slice 22 (.slice p l.length c) (some (.int .i64 (j : Int))) (some (.int .i64 E)) none).run Tryd.prog wx = .ok (sliced p j e c 1) wx := fun E hE wx => run_slice_mid 22 5 Tryd.underlying22 (by kernel_rfl) p l.length c j e hje (by omega) .i64 .i64 (j : Int) E rfl hE wx
        have hj64 : (j : Int) + (s : Int) ≤ 9223372036854775807 := by omega
        have HFORM := hid hform
        obtain ⟨v3, hv3⟩ : ∃ v3, v3 = sliced p j e c 1 := ⟨_, rfl⟩
        rw [← hv3] at hcut hsl hform
        obtain ⟨p3, c3, rfl⟩ := hform
        have hpl : ((l.drop j).take (e - j)).length = e - j := by simp; omega
        have hnx : l.take j ++ (l.drop j).take (e - j) = l.take e := by rw [← List.take_add, Nat.add_sub_cancel' hje]
        have HC := hid hcut
        have HS := hid hs.out
        have HB := hid hb.out
        have HNX := hid hnx
        obtain ⟨pc, hpc⟩ : ∃ pc, pc = (l.drop j).take (e - j) := ⟨_, rfl⟩
        rw [← hpc] at HC HNX hpl
        have HPL := hid hpl
        have HTJ := hid (show (l.take j).length = j by simp; omega)
        clear hs hb hnx hcut hpc hpl hs' hcz he hv3 HFORM
        rcases hcase with ⟨hc1, hc2⟩ | ⟨hc1, hc2⟩
        case' inl => have hsl := hsl _ hc2.symm
        case' inr => have hsl := hsl _ hc2.symm
        all_goals
          go_wp2_with fail
          rw [← HPL.out] at HC ⊢
          refine (copyBytes_any _ pc _ HC.out (by have := HPL.out; omega)).mono ?_
          rintro ex w3 ⟨v8, rfl, ho3, hb3⟩
          have hrd8 := ho3.rd
          obtain ⟨p8, c8, rfl, _, _, _, _⟩ := hrd8
          rename_i k1 k2 k3 k4
          clear k1 k2 k3 k4
          have hgg : w.heap.size < w3.heap.size := Nat.lt_of_lt_of_le HS.out.lt hb3.size
          have hne8 : ∀ k, (Value.slice p8 pc.length c8).ownBlock = some k → k ≠ w.heap.size := fun k hk => by
            have := ho3.ge k hk
            have := HS.out.lt
            omega
          have HO3 := hid ho3
          have HB3 := hid hb3
          have HNE8 := hid hne8
          have hjp : (j : Int) + (pc.length : Int) = (e : Int) := by have := HPL.out; omega
          have hw1 : IntKind.i64.wrap ((j : Int) + (pc.length : Int)) = (e : Int) := by rw [hjp, IntKind.wrap_i64]; omega
          have hw2 : IntKind.i64.wrap ((i : Int) + 1) = ((i + 1 : Nat) : Int) := by rw [IntKind.wrap_i64]; omega
          have HJP := hid hjp
          have hpm : pc.length ≤ 4096 := by have := HPL.out; omega
          clear ho3 hb3 hne8 hgg hjp
          go_wp2_with fail
          refine (write_all w.heap.size (l.take j) pc _ _ (HS.out.mono HB3.out) HO3.out.rd (.inr HNE8.out) (HL.out.mono (gr_trans HB.out HB3.out)) (by have := HTJ.out; have := HPL.out; omega)).mono ?_
          rintro ex w4 ⟨rfl, hs4, hg4⟩
          rw [HNX.out] at hs4
          have HS4 := hid hs4
          have HO4 := hid (HO3.out.keep hg4 (fun k hk h => HNE8.out k hk (by simpa using h.symm)))
          have HB4 := hid ((gr_trans HB.out HB3.out).trans (gb_below hg4 (Nat.le_refl _) (gr_trans HB.out HB3.out).size))
          clear hs4 hg4 HC HO3 HB3 HS HNX
          go_wp2_with fail
          go_loopw [9] (fun y wx => ∃ k : Nat, k ≤ pc.length ∧ y = .int .i64 (k : Int) ∧ ∃ m : List UInt8, m.length = pc.length ∧ Hid (Own wx wr.heap.size 5 (.slice p8 pc.length c8) m) ∧ Hid (w4.grownBy wx (Value.slice p8 pc.length c8).ownBlock)) (fun y _ => pc.length - (intOf y).toNat)
          case atStart => exact ⟨0, Nat.zero_le _, rfl, pc, rfl, HO4.out, gb_refl _ _⟩
          case round =>
            obtain ⟨k, hk, rfl, m, hm, hom, hgm⟩ := hrel
            have HGM := hid hgm.out
            by_cases hkn : k < pc.length
            · obtain ⟨gc, cp, hv8, hgc, hcc, hcf, hput⟩ := hom.out.put k (by omega)
              have HPUT := hid hput
              have HGC := hid hgc
              simp only [Value.slice.injEq] at hv8
              obtain ⟨rfl, hv9, rfl⟩ := hv8
              clear hom hgm hput hgc hv9
              generalize m[k] = x at *
              have hx1 : (((x + 1 : UInt8).toNat : Nat) : Int) = ((x.toNat : Int) + 1) % 256 := by rw [UInt8.toNat_add]; simp
              have hput := HPUT.out (x + 1)
              rw [hx1] at hput
              have HP1 := hid hput.1
              have HP2 := hid (gb_trans HGM.out hput.2)
              clear hput HPUT HGM hx1
              go_wp2
              go_roundw
              case rel => exact ⟨k + 1, by omega, by go_num, m.set k (x + 1), by simp [hm], HP1.out, HP2.out⟩
              case measure => simp [intOf]; omega
            · have HB5 := hid (HB4.out.trans (gb_below' HGM.out (fun g hg => by
                have := HO4.out.ge g hg
                have := HB.out.size
                omega) HB4.out.size))
              have HS5 := hid (HS4.out.grown HGM.out (fun h => HNE8.out _ h rfl))
              clear hom hgm HB4 HS4 HO4 HGM HNE8 HPL hsl
              go_wp2
              go_roundw
              case rel => exact ⟨i + 1, e, by omega, by go_num, hel, by first | rfl | rw [hc2], HS5.out, HB5.out⟩
              case measure => simp [intOf]; omega
      · obtain rfl : i = sz.length := by omega
        have HS := hid hs.out
        have HB := hid hb.out
        have hcut := (HV.out.mono HB.out).cut j l.length hj (Nat.le_refl _)
        have hcutO := HV.out.cut j l.length hj (Nat.le_refl _)
        have hdr : (l.drop j).take (l.length - j) = l.drop j := List.take_of_length_le (by simp)
        rw [hdr] at hcut hcutO
        have hown := rd_old hcutO w.heap.size (Nat.le_refl _)
        have hnx : l.take j ++ l.drop j = l := List.take_append_drop j l
        have hsl : ∀ wx, (Instr.slice 22 (.slice p l.length c) (some (.int .i64 (j : Int))) none none).run Tryd.prog wx = .ok (sliced p j l.length c 1) wx := fun wx => run_slice_from 22 5 Tryd.underlying22 (by kernel_rfl) p l.length c j hj .i64 wx
        obtain ⟨v3, hv3⟩ : ∃ v3, v3 = sliced p j l.length c 1 := ⟨_, rfl⟩
        have hform : ∃ p2 c2, sliced p j l.length c 1 = .slice p2 (l.length - j) c2 := ⟨_, _, rfl⟩
        rw [← hv3] at hcut hsl hform hown
        obtain ⟨p3, c3, rfl⟩ := hform
        have HC := hid hcut
        have HO := hid hown
        have HNX := hid hnx
        have hlen : l.length < 576460752303423488 := by omega
        have HLN := hid (show (l.take j).length + (l.drop j).length < 1152921504606846976 by simp; omega)
        have heq := eqSame l
        obtain ⟨d, hd⟩ : ∃ d, d = shaSum l := ⟨_, rfl⟩
        rw [← hd] at heq
        have HD := hid hd
        clear hs hb hcut hcutO hdr hown hnx hv3 hd
        go_wp2_with fail
        refine (write_all w.heap.size (l.take j) (l.drop j) _ _ HS.out HC.out HO.out (HL.out.mono HB.out) HLN.out).mono ?_
        rintro ex w2 ⟨rfl, hs2, hg2⟩
        rw [HNX.out] at hs2
        have HS2 := hid hs2
        have HB2 := hid (HB.out.trans (gb_below hg2 (Nat.le_refl _) HB.out.size))
        clear hs2 hg2 HC HO HS HB HNX HLN hsl
        go_wp2_with fail
        refine (shaSum_any w.heap.size l _ HS2.out (HL.out.mono HB2.out) hlen).mono ?_
        rw [← HD.out]
        rintro ex w3 ⟨rfl, hb3⟩
        have HS3 := hid (HS2.out.mono hb3)
        have HB3 := hid (gr_trans HB2.out hb3)
        clear hb3 HS2
        go_wp2_with fail
        refine (shaOf_any _ l _ (HV.out.mono HB3.out) (HL.out.mono HB3.out) hlen).mono ?_
        rw [← HD.out]
        rintro ex w4 ⟨rfl, hb4⟩
        have HS4 := hid (HS3.out.mono hb4)
        have HB4 := hid (gr_trans HB3.out hb4)
        clear hb4 HS3
        go_wp2_with fail
        refine (shaSum_any w.heap.size l _ HS4.out (HL.out.mono HB4.out) hlen).mono ?_
        rw [← HD.out]
        rintro ex w5 ⟨rfl, hb5⟩
        have HB5 := hid (gr_trans HB4.out hb5)
        clear hb5 HS4
        go_wp2_with fail
        refine (shaOf_any _ l _ (HV.out.mono HB5.out) (HL.out.mono HB5.out) hlen).mono ?_
        rw [← HD.out]
        rintro ex w6 ⟨rfl, hb6⟩
        have HB6 := hid (gr_trans HB5.out hb6)
        clear hb6
        go_wp2_with fail
        refine (works_any _ (HL.out.mono HB6.out)).mono ?_
        rintro ex w7 ⟨rfl, hb7⟩
        go_wp2_with fail
        go_ret
        exact ⟨rfl, gr_trans HB6.out hb7⟩
end Go.Proofs.YtjihcjfenpemfaaDoor

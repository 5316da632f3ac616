/- MacAlike: the walk of the law. Conditions: the tables of sha hold what its text says. -/
import Derived.Test.YtcjkhhhinjknhaaDoorMacWorks
import Derived.Test.YtcjkhhhinjknhaaDoorMacRef
import Derived.Test.YtcjkhhhinjknhaaDoorThree
import Derived.Test.YtcjkhhhinjknhaaDoorExt
import Derived.RegionTactic
import Derived.StillTailTactics
import Derived.ChangeAlike
import Derived.Deep.RegionHeld3
namespace Go.FL
open Go.RowKit
theorem RowV.four {w : World} {g e : Nat} {a b c d : Value} (h : RowV w g e [a, b, c, d]) : w.cell? ⟨g, 0, none⟩ = some a ∧ w.cell? ⟨g, 1, none⟩ = some b ∧ w.cell? ⟨g, 2, none⟩ = some c ∧ w.cell? ⟨g, 3, none⟩ = some d :=
  ⟨h.at 0 (by simp), h.at 1 (by simp), h.at 2 (by simp), h.at 3 (by simp)⟩
theorem run_slice_to {P : Program} (t e : TypeId) (ht : P.underlying t = some (.slice e)) (p : Option Addr) (n c i : Nat) (hi : i ≤ c) (hc : 0 < c) (k : IntKind) (hz : (P.info? e).map (·.size) = some 1) (w : World) :
    (Instr.slice t (.slice p n c) none (some (.int k (i : Int))) none).run P w = .ok (.slice p i c) w := by
  cases hq : P.info? e with
  | none => simp [hq] at hz
  | some inf =>
    have hs : inf.size = 1 := by simpa [hq] using hz
    have hc0 : ¬ c = 0 := by omega
    simp [Instr.slice, run_underlying ht, Instr.sliceBounds, run_sliceBound, sizeOf, typeInfo, hq, hs, hi, hc0]
    cases p <;> simp [Addr.add]
theorem Own.lt {w : World} {base e : Nat} {v : Value} {l : List UInt8} (h : Own w base e v l) : ∀ k, v.ownBlock = some k → k < w.heap.size := by
  intro k hk
  rcases h with ⟨rfl, rfl⟩ | ⟨g, sp, _, rfl, hr, _⟩
  · simp [Value.ownBlock] at hk
  · simp [Value.ownBlock] at hk
    subst hk
    exact hr.lt
theorem two_pow8 (r : Nat) (h : r < 8) : ∃ y : UInt8, IntKind.u8.wrap ((2 : Int) ^ r) = (y.toNat : Int) ∧ y ≠ 0 := by
  rcases r with _ | _ | _ | _ | _ | _ | _ | _ | r
  · exact ⟨1, by decide, by decide⟩
  · exact ⟨2, by decide, by decide⟩
  · exact ⟨4, by decide, by decide⟩
  · exact ⟨8, by decide, by decide⟩
  · exact ⟨16, by decide, by decide⟩
  · exact ⟨32, by decide, by decide⟩
  · exact ⟨64, by decide, by decide⟩
  · exact ⟨128, by decide, by decide⟩
  · omega
theorem xor_back (x y : UInt8) : x ^^^ y ^^^ y = x := by rw [UInt8.xor_assoc, UInt8.xor_self, UInt8.xor_zero]
theorem set_other (a : List UInt8) (k : Nat) (h : k < a.length) (y : UInt8) (hy : y ≠ 0) : a ≠ a.set k (a[k] ^^^ y) := by
  intro e
  have h1 := congrArg (fun l => l[k]?) e
  simp [h] at h1
  have h2 : a[k] ^^^ (a[k] ^^^ y) = a[k] ^^^ a[k] := by rw [← h1]
  rw [← UInt8.xor_assoc, UInt8.xor_self, UInt8.zero_xor] at h2
  exact hy h2
end Go.FL
namespace Go.Proofs.YtcjkhhhinjknhaaDoor
open Go.RowKit Go.FL Go.ChangeShapes

set_option maxRecDepth 100000 in
set_option maxHeartbeats 4000000 in
theorem macAlike_walk {w : World} (hlaid : ShaLaid w) {v : Value} (x : ThreeV) (hx : ThreeAt w v x) :
    Calls Tryd.prog 6 #[v] w fun e w' => e = .returned (.bool true) ∧ Below w.heap.size w w' := by
  obtain ⟨a, b, c, at_⟩ := x
  obtain ⟨s, t, u, rfl, ha, hb, hc, hw⟩ := hx
  simp only at ha hb hc hw ⊢
  have bat := bounds_i64 hw
  have HL0 := hid hlaid
  have HA0 := hid ha
  have HB0 := hid hb
  have HC0 := hid hc
  obtain ⟨p, cp, rfl, hlp, hcp, _, hcell⟩ := ha
  obtain ⟨q, cq, rfl, hlq, hcq, _, hcelq⟩ := hb
  obtain ⟨r, cr, rfl, hlr, hcr, _, hcelr⟩ := hc
  unfold maxLen at hcp hcq hcr
  clear hcell hcelq hcelr hlaid hw
  obtain ⟨W, hW⟩ : ∃ W, W = w.alloc (.cells #[.slice p a.length cp, .slice q b.length cq, .slice r c.length cr, .int .i64 at_] 31 (0, 0)) := ⟨_, rfl⟩
  have HR0 := hid (show RowV W w.heap.size 31 [.slice p a.length cp, .slice q b.length cq, .slice r c.length cr, .int .i64 at_] by rw [hW]; exact RowV.new w 31 _)
  have G0 := hid (show Below w.heap.size w W by rw [hW]; exact (Below.refl _ _).alloc (Nat.le_refl _) _)
  have HE := hid hW
  clear hW
  by_cases hbig : 4096 < a.length ∨ 4096 < b.length ∨ 4096 < c.length
  · have hcase : 4096 < a.length ∨ (a.length ≤ 4096 ∧ 4096 < b.length) ∨ (a.length ≤ 4096 ∧ b.length ≤ 4096 ∧ 4096 < c.length) := by omega
    clear hbig
    rcases hcase with h1 | ⟨h1, h2⟩ | ⟨h1, h2, h3⟩
    all_goals
      go_enter Tryd.func6, Tryd.ntmps6
      go_wp2_with fail
      rw [← HE.out]
      refine (works_any _ (HL0.out.mono G0.out)).mono ?_
      rintro e w' ⟨rfl, hb⟩
      go_wp2_with fail
      go_ret
      exact ⟨rfl, gr_trans G0.out hb⟩
  have hal : a.length ≤ 4096 := by omega
  have hbl : b.length ≤ 4096 := by omega
  have hcl : c.length ≤ 4096 := by omega
  clear hbig
  have hcases : (a = b ∧ a = c) ∨ (a = b ∧ a ≠ c) ∨ a ≠ b := by
    by_cases h1 : a = b
    · by_cases h2 : a = c
      · exact .inl ⟨h1, h2⟩
      · exact .inr (.inl ⟨h1, h2⟩)
    · exact .inr (.inr h1)
  rcases hcases with ⟨rfl, rfl⟩ | ⟨rfl, hne⟩ | hne
  case' inl =>
    go_enter Tryd.func6, Tryd.ntmps6
    obtain ⟨a0, a1, a2, a3⟩ := HR0.out.four
    go_wp2_with fail
    rw [← HE.out]
    refine (same_yes _ _ _ _ _ (HA0.out.mono G0.out) (HB0.out.mono G0.out) rfl).mono ?_
    rintro e w1 ⟨rfl, hb⟩
    have G1 := hid (gr_trans G0.out hb)
    have HR1 := hid (HR0.out.mono hb)
    clear hb a0 a1 a2 a3
    obtain ⟨a0, a1, a2, a3⟩ := HR1.out.four
    go_wp2_with fail
    refine (same_yes _ _ _ _ _ (HB0.out.mono G1.out) (HA0.out.mono G1.out) rfl).mono ?_
    rintro e w2 ⟨rfl, hb⟩
    have G2 := hid (gr_trans G1.out hb)
    have HR2 := hid (HR1.out.mono hb)
    clear hb a0 a1 a2 a3
    obtain ⟨a0, a1, a2, a3⟩ := HR2.out.four
    go_wp2_with fail
    refine (same_yes _ _ _ _ _ (HA0.out.mono G2.out) (HA0.out.mono G2.out) rfl).mono ?_
    rintro e w3 ⟨rfl, hb⟩
    have G3 := hid (gr_trans G2.out hb)
    have HR3 := hid (HR2.out.mono hb)
    clear hb a0 a1 a2 a3
    obtain ⟨a0, a1, a2, a3⟩ := HR3.out.four
    go_wp2_with fail
    refine (same_yes _ _ _ _ _ (HB0.out.mono G3.out) (HC0.out.mono G3.out) rfl).mono ?_
    rintro e w4 ⟨rfl, hb⟩
    have G4 := hid (gr_trans G3.out hb)
    have HR4 := hid (HR3.out.mono hb)
    clear hb a0 a1 a2 a3
    obtain ⟨a0, a1, a2, a3⟩ := HR4.out.four
    go_wp2_with fail
    refine (same_yes _ _ _ _ _ (HA0.out.mono G4.out) (HC0.out.mono G4.out) rfl).mono ?_
    rintro e w5 ⟨rfl, hb⟩
    have G5 := hid (gr_trans G4.out hb)
    have HR5 := hid (HR4.out.mono hb)
    clear hb a0 a1 a2 a3
    obtain ⟨a0, a1, a2, a3⟩ := HR5.out.four
    have GZ := hid G5.out
    have HRZ := hid HR5.out
    clear G1 G2 G3 G4 G5 HR0 HR1 HR2 HR3 HR4 HR5 w1 w2 w3 w4
  case' inr.inl =>
    go_enter Tryd.func6, Tryd.ntmps6
    obtain ⟨a0, a1, a2, a3⟩ := HR0.out.four
    go_wp2_with fail
    rw [← HE.out]
    refine (same_yes _ _ _ _ _ (HA0.out.mono G0.out) (HB0.out.mono G0.out) rfl).mono ?_
    rintro e w1 ⟨rfl, hb⟩
    have G1 := hid (gr_trans G0.out hb)
    have HR1 := hid (HR0.out.mono hb)
    clear hb a0 a1 a2 a3
    obtain ⟨a0, a1, a2, a3⟩ := HR1.out.four
    go_wp2_with fail
    refine (same_yes _ _ _ _ _ (HB0.out.mono G1.out) (HA0.out.mono G1.out) rfl).mono ?_
    rintro e w2 ⟨rfl, hb⟩
    have G2 := hid (gr_trans G1.out hb)
    have HR2 := hid (HR1.out.mono hb)
    clear hb a0 a1 a2 a3
    obtain ⟨a0, a1, a2, a3⟩ := HR2.out.four
    go_wp2_with fail
    refine (same_yes _ _ _ _ _ (HA0.out.mono G2.out) (HA0.out.mono G2.out) rfl).mono ?_
    rintro e w3 ⟨rfl, hb⟩
    have G3 := hid (gr_trans G2.out hb)
    have HR3 := hid (HR2.out.mono hb)
    clear hb a0 a1 a2 a3
    obtain ⟨a0, a1, a2, a3⟩ := HR3.out.four
    go_wp2_with fail
    refine (same_no _ _ _ _ _ (HB0.out.mono G3.out) (HC0.out.mono G3.out) hne).mono ?_
    rintro e w4 ⟨rfl, hb⟩
    have G4 := hid (gr_trans G3.out hb)
    have HR4 := hid (HR3.out.mono hb)
    clear hb a0 a1 a2 a3
    obtain ⟨a0, a1, a2, a3⟩ := HR4.out.four
    have GZ := hid G4.out
    have HRZ := hid HR4.out
    clear G1 G2 G3 G4 HR0 HR1 HR2 HR3 HR4 w1 w2 w3
  case' inr.inr =>
    go_enter Tryd.func6, Tryd.ntmps6
    obtain ⟨a0, a1, a2, a3⟩ := HR0.out.four
    go_wp2_with fail
    rw [← HE.out]
    refine (same_no _ _ _ _ _ (HA0.out.mono G0.out) (HB0.out.mono G0.out) hne).mono ?_
    rintro e w1 ⟨rfl, hb⟩
    have G1 := hid (gr_trans G0.out hb)
    have HR1 := hid (HR0.out.mono hb)
    clear hb a0 a1 a2 a3
    obtain ⟨a0, a1, a2, a3⟩ := HR1.out.four
    go_wp2_with fail
    refine (same_no _ _ _ _ _ (HB0.out.mono G1.out) (HA0.out.mono G1.out) (Ne.symm hne)).mono ?_
    rintro e w2 ⟨rfl, hb⟩
    have G2 := hid (gr_trans G1.out hb)
    have HR2 := hid (HR1.out.mono hb)
    clear hb a0 a1 a2 a3
    obtain ⟨a0, a1, a2, a3⟩ := HR2.out.four
    go_wp2_with fail
    refine (same_yes _ _ _ _ _ (HA0.out.mono G2.out) (HA0.out.mono G2.out) rfl).mono ?_
    rintro e w3 ⟨rfl, hb⟩
    have G3 := hid (gr_trans G2.out hb)
    have HR3 := hid (HR2.out.mono hb)
    clear hb a0 a1 a2 a3
    obtain ⟨a0, a1, a2, a3⟩ := HR3.out.four
    have GZ := hid G3.out
    have HRZ := hid HR3.out
    clear G1 G2 G3 HR0 HR1 HR2 HR3 w1 w2
  all_goals
    go_wp2_with fail
    refine (copyBytes_any _ a _ (HA0.out.mono GZ.out) (by omega)).mono ?_
    rintro e wd ⟨v5, rfl, ho5', hb5⟩
    obtain ⟨BZ, hB1, hB2, ho5⟩ : ∃ BZ, w.heap.size < BZ ∧ BZ ≤ wd.heap.size ∧ Own wd BZ 5 v5 a := ⟨_, HRZ.out.lt, hb5.size, ho5'⟩
    obtain ⟨z, cc, rfl⟩ := ho5.form
    clear ho5'
    have GD := hid (gr_trans GZ.out hb5)
    have HRD := hid (HRZ.out.mono hb5)
    have HO5 := hid ho5
    have hszz := HRZ.out.lt
    have hszr : w.heap.size < wd.heap.size := (HRZ.out.mono hb5).lt
    have hbase : w.heap.size < wd.heap.size := hszr
    clear ho5 hb5 a0 a1 a2 a3
    obtain ⟨a0, a1, a2, a3⟩ := HRD.out.four
    by_cases hin : 0 ≤ at_ ∧ at_ < 8 * (a.length : Int)
    · obtain ⟨n, rfl⟩ : ∃ n : Nat, at_ = (n : Int) := ⟨at_.toNat, by omega⟩
      obtain ⟨k, hk⟩ : ∃ k : Nat, k = n / 8 := ⟨_, rfl⟩
      obtain ⟨r, hr⟩ : ∃ r : Nat, r = n % 8 := ⟨_, rfl⟩
      have hka : k < a.length := by omega
      have hr8 : r < 8 := by omega
      have hq : (n : Int) / 8 = (k : Int) := by omega
      have hm : (n : Int) % 8 = (r : Int) := by omega
      have h0n : 0 ≤ (n : Int) := by omega
      have htd : (n : Int).tdiv 8 = (k : Int) := by rw [Int.tdiv_eq_ediv_of_nonneg h0n]; exact hq
      have htm : (n : Int).tmod 8 = (r : Int) := by rw [Int.tmod_eq_emod_of_nonneg h0n]; exact hm
      have hwk : IntKind.i64.wrap (k : Int) = (k : Int) := by rw [IntKind.wrap_i64]; omega
      have hwr : IntKind.i64.wrap (r : Int) = (r : Int) := by rw [IntKind.wrap_i64]; omega
      have hwu : IntKind.u64.wrap (r : Int) = (r : Int) := by rw [IntKind.wrap_u64]; omega
      have h0k : (0 : Int) ≤ (k : Int) := by omega
      have hn8 : (n : Int) < 8 * (a.length : Int) := hin.2
      clear hk hr hin
      obtain ⟨y, hy1, hy2⟩ := two_pow8 r hr8
      have HNE := hid (set_other a k hka y hy2)
      have HBK := hid (show (a.set k (a[k] ^^^ y)).set k a[k] = a by simp)
      have HTK := hid (show a ≠ a.take k from fun e => by have := congrArg List.length e; simp at this; omega)
      have hx1 := bits_xor8 a[k] y
      have hx2 := bits_xor8 (a[k] ^^^ y) y
      rw [xor_back] at hx2
      obtain ⟨wq, hwq⟩ : ∃ wq, wq = wd.drew := ⟨_, rfl⟩
      have hgq : Below wd.heap.size wd wq := by rw [hwq]; exact (Below.refl _ _).drew
      have HOQ := hid (HO5.out.mono hgq)
      have GQ := hid (gr_trans GD.out hgq)
      have HRQ := hid (HRD.out.mono hgq)
      have HWQ := hid hwq
      clear hgq hwq
      obtain ⟨gc, cp5, hv5, hgc, hcell, hfr, _⟩ := HO5.out.put k hka
      obtain ⟨gq, cpq, hvq, _, hcelq, hfrq, hput⟩ := HOQ.out.put k hka
      simp only [Value.slice.injEq, true_and] at hv5
      obtain ⟨rfl, rfl⟩ := hv5
      simp only [Value.slice.injEq, Option.some.injEq, Addr.mk.injEq, true_and, and_true] at hvq
      obtain ⟨rfl, rfl⟩ := hvq
      have hp1 := hput (a[k] ^^^ y)
      have hxb := byte_lt a[k]
      have hyb := byte_lt y
      generalize a[k] = xa at *
      generalize hxy : xa ^^^ y = xb at *
      have hxbb := byte_lt xb
      clear hxy hput
      have i1 : (k : Int) < (a.length : Int) := by omega
      have HO1 := hid hp1.1
      have G1 := hid (GQ.out.setCell (p := ⟨gc, k, none⟩) (by show w.heap.size ≤ gc; omega) (.int .u8 (xb.toNat : Int)))
      have HR1 := hid (HRQ.out.other ⟨gc, k, none⟩ (.int .u8 (xb.toNat : Int)) (by show gc ≠ w.heap.size; omega))
      obtain ⟨w1, hw1⟩ : ∃ w1, w1 = wq.setCell ⟨gc, k, none⟩ (.int .u8 (xb.toNat : Int)) := ⟨_, rfl⟩
      rw [← hw1] at HO1 G1 HR1
      have HW1 := hid hw1
      clear hp1 hw1
      go_wp2_with fail
      go_still_tail 17, (by kernel_rfl)
      change wpList _ _ _ _ _ wd.drew
      rw [← HWQ.out]
      clear a0 a1 a2 a3 hcell hfr
      obtain ⟨a0, a1, a2, a3⟩ := HR1.out.four
      go_wp2_with fail
      rw [← HW1.out]
      refine (same_no _ _ _ _ _ (HA0.out.mono G1.out) HO1.out.rd HNE.out).mono ?_
      rintro e w2 ⟨rfl, hb⟩
      have G2 := hid (gr_trans G1.out hb)
      have HR2 := hid (HR1.out.mono hb)
      have HO2 := hid (HO1.out.mono hb)
      clear hb a0 a1 a2 a3
      obtain ⟨a0, a1, a2, a3⟩ := HR2.out.four
      have hsl : ∀ wx, (Instr.slice 22 (.slice p a.length cp) none (some (.int .i64 (k : Int))) none).run Tryd.prog wx = .ok (.slice p k cp) wx := fun wx => run_slice_to (P := Tryd.prog) 22 5 Tryd.underlying22 p a.length cp k (by omega) (by omega) .i64 (by kernel_rfl) wx
      go_wp2_with fail
      refine (same_no _ _ a (a.take k) _ (HA0.out.mono G2.out) ((HA0.out.mono G2.out).take k (by omega)) HTK.out).mono ?_
      rintro e w3 ⟨rfl, hb⟩
      have G3 := hid (gr_trans G2.out hb)
      have HR3 := hid (HR2.out.mono hb)
      have HO3 := hid (HO2.out.mono hb)
      clear hb a0 a1 a2 a3 hsl
      obtain ⟨a0, a1, a2, a3⟩ := HR3.out.four
      obtain ⟨wp, hwp⟩ : ∃ wp, wp = w3.drew := ⟨_, rfl⟩
      have hgp : Below w3.heap.size w3 wp := by rw [hwp]; exact (Below.refl _ _).drew
      have HOP := hid (HO3.out.mono hgp)
      have GP := hid (gr_trans G3.out hgp)
      have HRP := hid (HR3.out.mono hgp)
      have HWP := hid hwp
      have hkl2 : k < (a.set k xb).length := by simp; omega
      clear hgp hwp
      obtain ⟨g5, cp6, hv6, _, hcell, hfr, _⟩ := HO3.out.put k hkl2
      obtain ⟨g7, cp7, hv7, _, hcelq2, hfrq2, hput⟩ := HOP.out.put k hkl2
      have hp2 := hput xa
      rw [HBK.out] at hp2
      simp only [List.length_set, Value.slice.injEq, Option.some.injEq, Addr.mk.injEq, true_and, and_true, List.getElem_set_self] at hv6 hv7 hcell hcelq2
      obtain ⟨rfl, rfl⟩ := hv6
      obtain ⟨rfl, rfl⟩ := hv7
      have HOE := hid hp2.1
      have GE := hid (GP.out.setCell (p := ⟨gc, k, none⟩) (by show w.heap.size ≤ gc; omega) (.int .u8 (xa.toNat : Int)))
      have hszp : BZ ≤ wp.heap.size := by have := HOP.out.ge gc (by simp [Value.ownBlock]); have := HOP.out.lt gc (by simp [Value.ownBlock]); omega
      clear hp2 hput
      go_wp2_with fail
      go_still_tail 17, (by kernel_rfl)
      change wpList _ _ _ _ _ w3.drew
      rw [← HWP.out]
      go_wp2_with (at_builtin; refine wpList_append_Own rfl (.tmp 127) (.tmp 128) 22 rfl BZ 5 Tryd.underlying22 infoU8 _ _ a [0] rfl (HOE.out.alloc _) rfl ?hrdN ?hlenN ?hbaseN ?_)
      case hrdN => exact (by have h0 := rd_new (wp.setCell ⟨gc, k, none⟩ (.int .u8 (xa.toNat : Int))) 5 [0] 1 #[.int .u8 0] rfl rfl (by unfold maxLen; omega); first | exact h0 | (simp at h0; exact h0))
      case hlenN => first | omega | (simp; omega)
      case hbaseN => first | omega | (simp; omega)
      intro vf wf hof hgf
      have GF := hid ((GE.out.alloc GE.out.size (.cells #[.int .u8 0] 5 (0, 0))).grown hgf (by have := GE.out.size; simp; omega) (fun k hk => by have := HOE.out.ge k hk; omega))
      have HOF := hid hof
      have HNF := hid (show a ≠ a ++ [0] from fun e => by have := congrArg List.length e; simp at this)
      clear hof hgf
      go_wp2_with fail
      refine (same_no _ _ a (a ++ [0]) _ (HA0.out.mono GF.out) HOF.out.rd HNF.out).mono ?_
      rintro e wg ⟨rfl, hbg⟩
      have GG := hid (gr_trans GF.out hbg)
      clear hbg
      go_wp2_with fail
      refine (works_any _ (HL0.out.mono GG.out)).mono ?_
      rintro e wh ⟨rfl, hbh⟩
      go_wp2_with fail
      go_ret
      exact ⟨rfl, gr_trans GG.out hbh⟩
    · have hcase : at_ < 0 ∨ (0 ≤ at_ ∧ 8 * (a.length : Int) ≤ at_) := by omega
      clear hin
      rcases hcase with h1 | ⟨h1, h2⟩
      all_goals
        go_wp2_with (at_builtin; refine wpList_append_Own rfl (.tmp 127) (.tmp 128) 22 rfl BZ 5 Tryd.underlying22 infoU8 _ _ a [0] rfl (HO5.out.alloc _) rfl ?hrdN ?hlenN ?hbaseN ?_)
        case hrdN => exact (by have h0 := rd_new wd 5 [0] 1 #[.int .u8 0] rfl rfl (by unfold maxLen; omega); first | exact h0 | (simp at h0; exact h0))
        case hlenN => first | omega | (simp; omega)
        case hbaseN => first | omega | (simp; omega)
        intro vf wf hof hgf
        have GF := hid ((GD.out.alloc GD.out.size (.cells #[.int .u8 0] 5 (0, 0))).grown hgf (by have := GD.out.size; simp; omega) (fun k hk => by have := HO5.out.ge k hk; omega))
        have HOF := hid hof
        have HNF := hid (show a ≠ a ++ [0] from fun e => by have := congrArg List.length e; simp at this)
        clear hof hgf
        go_wp2_with fail
        refine (same_no _ _ a (a ++ [0]) _ (HA0.out.mono GF.out) HOF.out.rd HNF.out).mono ?_
        rintro e wg ⟨rfl, hbg⟩
        have GG := hid (gr_trans GF.out hbg)
        clear hbg
        go_wp2_with fail
        refine (works_any _ (HL0.out.mono GG.out)).mono ?_
        rintro e wh ⟨rfl, hbh⟩
        go_wp2_with fail
        go_ret
        exact ⟨rfl, gr_trans GG.out hbh⟩
end Go.Proofs.YtcjkhhhinjknhaaDoor

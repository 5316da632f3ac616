/- What sha's Write does to a state. Conditions: the state lies in a block of its own, the bytes in another one; the package's tables hold what its text says. -/
import Derived.Test.YtjpemfciiakphaaDoorShaProg
import Derived.Test.YtjpemfciiakphaaDoorShaState
namespace Go.Proofs.YtjpemfciiakphaaDoor
open Go.RowKit Go.FL

set_option maxRecDepth 100000 in
set_option maxHeartbeats 4000000 in
theorem write_any (g : Nat) (m l : List UInt8) (v : Value) (w : World) (hst : ShaSt w g 70 m) (hv : Rd w v l) (hown : ∀ k, v.ownBlock = some k → k ≠ g) (hlaid : ShaLaid w) (hlen : m.length + l.length < 1152921504606846976) :
    Calls Tryd.prog 36 #[.pointer (some ⟨g, 0, none⟩), v] w fun e w' => e = .returned (.tuple #[]) ∧ ShaSt w' g 70 (m ++ l) ∧ w.grownBy w' (some g) := by
  have HS := hid hst
  have HV := hid hv
  have HO := hid hown
  have HL := hid hlaid
  clear hst hv hown hlaid
  go_enter Tryd.func36, Tryd.ntmps36
  go_wp2
  go_loopw [1] (fun u wr => ∃ j : Nat, j ≤ l.length ∧ (∃ p c, u = .slice p (l.length - j) c) ∧ Hid (Rd wr u (l.drop j)) ∧ Hid (∀ k, u.ownBlock = some k → k ≠ g) ∧ Hid (ShaSt wr g 70 (m ++ l.take j)) ∧ Hid (w.grownBy wr (some g)) ∧ Hid (ShaLaid wr)) (fun u _ => match u with | .slice _ n _ => n | _ => 0)
  case atStart =>
    refine ⟨0, Nat.zero_le _, ?_, HV.out, HO.out, ?_, gb_refl _ _, HL.out⟩
    · obtain ⟨p, c, e, _⟩ := HV.out
      exact ⟨p, c, e⟩
    · simpa [Hid] using HS.out
  case round =>
    clear HS HV HO HL
    obtain ⟨j, hj, ⟨p, c, rfl⟩, hv, ho, hs, hg, hl⟩ := hrel
    by_cases hlt : j < l.length
    · obtain ⟨b, hb⟩ : ∃ b, b = l.drop j := ⟨_, rfl⟩
      obtain ⟨q, hq⟩ : ∃ q, q = m ++ l.take j := ⟨_, rfl⟩
      have hbl : b.length = l.length - j := by rw [hb]; simp
      have hql : q.length = m.length + j := by rw [hq]; simp; omega
      have hqb : q ++ b = m ++ l := by rw [hq, hb, List.append_assoc, List.take_append_drop]
      rw [← hb, ← hbl] at hv
      rw [← hbl] at ho ⊢
      rw [← hq] at hs
      obtain ⟨bg, s0, blk, hrow, hok⟩ := hs.out
      obtain ⟨k, hk⟩ : ∃ k, k = Nat.min b.length (64 - q.length % 64) := ⟨_, rfl⟩
      have hk1 : k ≤ b.length := by rw [hk]; exact Nat.min_le_left _ _
      have hk2 : k ≤ 64 - q.length % 64 := by rw [hk]; exact Nat.min_le_right _ _
      have hr : q.length % 64 < 64 := Nat.mod_lt _ (by decide)
      have hk0 : 0 < k := by rw [hk]; exact Nat.lt_min.2 ⟨by omega, by omega⟩
      have htk : (b.take k).length = k := by simp; omega
      have hsl := fun wx => run_sliceAt_from (P := Tryd.prog) 58 5 64 Tryd.underlying58 (by kernel_rfl) g 9 (q.length % 64) hr .u64 ((q.length : Int) % 64) (by omega) wx
      have hslT := fun wx => run_sliceAt_from (P := Tryd.prog) 58 5 64 Tryd.underlying58 (by kernel_rfl) g 9 (q.length % 64) hr .u64 ((q.length : Int).tmod 64) (by rw [Int.tmod_eq_emod_of_nonneg (by omega)]; omega) wx
      have hs2 := fun wx => run_slice_from (P := Tryd.prog) 22 5 Tryd.underlying22 (by kernel_rfl) p b.length c k hk1 .i64 wx
      have hcut := hv.out.cut k b.length hk1 (Nat.le_refl _)
      have hown2 : ∀ i, (sliced p k b.length c 1).ownBlock = some i → i ≠ g := by
        intro i hi
        obtain ⟨a, ha, hab⟩ := sliced_own hi
        exact ho.out i (by rw [ha]; simp [Value.ownBlock, hab])
      have hform : ∃ p2 c2, sliced p k b.length c 1 = .slice p2 (b.length - k) c2 := ⟨_, _, rfl⟩
      have hdrop : (b.drop k).take (b.length - k) = l.drop (j + k) := by
        rw [List.take_of_length_le (by simp), hb, List.drop_drop]
      have htake : q ++ b.take k = m ++ l.take (j + k) := by
        rw [hq, hb, List.append_assoc, List.take_add]
      rw [hdrop] at hcut
      generalize sliced p k b.length c 1 = v3 at *
      obtain ⟨p3, c3, rfl⟩ := hform
      have c73 : wr.cell? ⟨g, 73, none⟩ = some (.int .u64 (q.length : Int)) := by rw [hrow.cell, stV_n bg s0 blk _ hok.2.1 hok.1]
      have HRO := hid hrow
      have HOK := hid hok
      have HV := hid hv.out
      have HO := hid ho.out
      have HL := hid hl.out
      have HG := hid hg.out
      have HC := hid hcut
      have HO2 := hid hown2
      have HTK := hid htake
      have HKL := hid htk
      have HK := hid hk
      have hbp : 0 < b.length := by omega
      have hq60 : q.length + k < 1152921504606846976 := by omega
      have hjk : l.length - (j + k) = b.length - k := by omega
      have HJK := hid hjk
      have hjl : j + k ≤ l.length := by omega
      have hcur : 9 + q.length % 64 + k ≤ (stV bg s0 blk q.length).length := by rw [stV_length, hok.1, hok.2.1]; omega
      clear hrow hok hv ho hl hg hs hcut hown2 hdrop htake hk htk hjk hq hb hbl hql hqb
      go_wp2_with fail
      go_region_law ((refine step_copy_row rfl (.tmp 18) (.tmp 19) 22 22 rfl 5 Tryd.underlying22 (by kernel_rfl) g (9 + q.length % 64) (64 - q.length % 64) (64 - q.length % 64) (by rfl) _ b (by rfl) HV.out hbp k HK.out (stV bg s0 blk q.length) 70 HRO.out hcur ?_; intro w2 hr2 hg2))
      have hok := HOK.out
      have hspl : q.length % 64 + (b.take k).length ≤ blk.length := by rw [HKL.out, hok.1]; omega
      have hr2' := hr2.out
      rw [stV_splice bg s0 blk (b.take k) q.length (q.length % 64) hok.2.1 hspl] at hr2'
      have hbl2 : (splice blk (q.length % 64) (b.take k)).length = 64 := by rw [length_splice _ _ _ hspl, hok.1]
      have c73 : w2.cell? ⟨g, 73, none⟩ = some (.int .u64 (q.length : Int)) := by rw [hr2'.cell, stV_n bg s0 _ _ hok.2.1 hbl2]
      have f73 := hr2'.frozen 73
      have hst3 := hr2'.store 73 (.int .u64 ((q.length + k : Nat) : Int))
      rw [stV_setN bg s0 _ q.length (q.length + k) hok.2.1 hbl2] at hst3
      have hg3 := gb_set hg2.out 73 (.int .u64 ((q.length + k : Nat) : Int))
      have hg4 : wr.grownBy (w2.setCell ⟨g, 73, none⟩ (.int .u64 ((q.length + k : Nat) : Int))) (some g) := ⟨hg3.os, hg3.tape, hg3.output, hg3.size, hg3.block⟩
      have hec : ((q.length + k : Nat) : Int) = (q.length : Int) + (k : Int) := by omega
      have HL3 := hid (HL.out.grown HRO.out hg4)
      have HG3 := hid (gb_trans HG.out hg4)
      have HC3 := hid (HC.out.grown hg4 (fun i hi e => HO2.out i hi (by simpa using e.symm)))
      have hqk : (q ++ b.take k).length = q.length + k := by rw [List.length_append, HKL.out]
      by_cases hfull : q.length % 64 + k = 64
      · obtain ⟨s, hcase, hb64, hok2⟩ := stOk_full hok (b := b.take k) (by rw [HKL.out]; exact hfull)
        have HCA := hid hcase
        have HB64 := hid hb64
        have HOK2 := hid hok2
        have HS3 := hid hst3
        rw [hec] at HS3 HL3 HG3 HC3
        have HQK := hid hqk
        have HEC := hid hec
        have hz : (((q.length : Int) + (k : Int)) % 64 == 0) = true := by simp; omega
        have HS0 := hid hok.2.1
        clear hr2 hr2' hg2 hst3 hg3 hg4 hec hcase hb64 hok2 hok hspl hqk hbl2 hsl hslT hcur
        generalize splice blk (q.length % 64) (b.take k) = blk2 at *
        go_wp2_with fail
        refine (take_any g bg s0 s blk2 (q.length + k) _ HS3.out HB64.out HS0.out HCA.out HL3.out).mono ?_
        rintro e w4 ⟨rfl, hr4, hg4⟩
        have HR4 := hid hr4
        have HG4 := hid hg4
        clear hr4 hg4 hs2
        go_wp2
        go_roundw
        case rel =>
          refine ⟨j + k, hjl, ⟨p3, c3, by rw [HJK.out]⟩, HC3.out.grown HG4.out (fun i hi e => HO2.out i hi (by simpa using e.symm)), HO2.out, ?_, gb_trans HG3.out HG4.out, HL3.out.grown HS3.out HG4.out⟩
          rw [← HTK.out]
          exact ⟨true, _, _, by rw [HQK.out]; exact HR4.out, HOK2.out⟩
        case measure => show b.length - k < b.length; omega
      · have hlt64 : q.length % 64 + k < 64 := by omega
        have hok2 := stOk_put hok (b := b.take k) (by rw [HKL.out]; exact hlt64)
        have HOK2 := hid hok2
        have HS3 := hid hst3
        rw [hec] at HS3 HL3 HG3 HC3
        have HQK := hid hqk
        have HEC := hid hec
        have hz : (((q.length : Int) + (k : Int)) % 64 == 0) = false := by simp; omega
        clear hr2 hr2' hg2 hst3 hg3 hg4 hec hok2 hok hspl hqk hbl2 hsl hslT hcur
        generalize splice blk (q.length % 64) (b.take k) = blk2 at *
        go_wp2
        go_roundw
        case rel =>
          refine ⟨j + k, hjl, ⟨p3, c3, by rw [HJK.out]⟩, HC3.out, HO2.out, ?_, HG3.out, HL3.out⟩
          rw [← HTK.out]
          exact ⟨bg, _, _, by rw [HQK.out]; exact HS3.out, HOK2.out⟩
        case measure => show b.length - k < b.length; omega
    · obtain rfl : j = l.length := by omega
      have HS := hid hs.out
      have HG := hid hg.out
      clear hv ho hs hg hl
      rw [Nat.sub_self]
      go_wp2
      go_end0
      exact ⟨rfl, by simpa using HS.out, HG.out⟩

theorem write_empty (g : Nat) (p : Option Addr) (c : Nat) (w : World) :
    Calls Tryd.prog 36 #[.pointer (some ⟨g, 0, none⟩), .slice p 0 c] w fun e w' => e = .returned (.tuple #[]) ∧ w = w' := by
  go_enter Tryd.func36, Tryd.ntmps36
  go_wp2
  go_loop [1] (fun u => u = .slice p 0 c) (fun _ => 0)
  case atStart => exact rfl
  case round =>
    subst hrel
    go_wp2
    go_end0
    exact ⟨rfl, rfl⟩
theorem write_all (g : Nat) (m l : List UInt8) (v : Value) (w : World) (hst : ShaSt w g 70 m) (hv : Rd w v l) (hown : l = [] ∨ ∀ k, v.ownBlock = some k → k ≠ g) (hlaid : ShaLaid w) (hlen : m.length + l.length < 1152921504606846976) :
    Calls Tryd.prog 36 #[.pointer (some ⟨g, 0, none⟩), v] w fun e w' => e = .returned (.tuple #[]) ∧ ShaSt w' g 70 (m ++ l) ∧ w.grownBy w' (some g) := by
  rcases hown with rfl | hown
  · obtain ⟨p, c, rfl, _⟩ := hv.empty rfl
    exact (write_empty g p c w).mono fun e w' ⟨h1, h2⟩ => ⟨h1, by subst h2; simpa using hst, by subst h2; exact gb_refl _ _⟩
  · exact write_any g m l v w hst hv hown hlaid hlen
/-- Where the bytes lie: in a block that was there. -/
theorem rd_old {w : World} {v : Value} {l : List UInt8} (hv : Rd w v l) (B : Nat) (hB : w.heap.size ≤ B) : l = [] ∨ ∀ k, v.ownBlock = some k → k ≠ B := by
  by_cases h0 : l = []
  · exact .inl h0
  · refine .inr fun k hk => ?_
    obtain ⟨b, off, c, rfl, _, _, hc⟩ := hv.at (List.length_pos_iff.2 h0)
    simp [Value.ownBlock] at hk
    subst hk
    have := World.block_lt_of_cell? _ _ (hc 0 (List.length_pos_iff.2 h0))
    simp at this
    omega
end Go.Proofs.YtjpemfciiakphaaDoor

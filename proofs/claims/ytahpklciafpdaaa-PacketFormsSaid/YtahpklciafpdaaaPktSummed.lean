/- The law's summed: bytes with their right sum. Conditions: what comes in reads as it should, is no shorter than a head, and is not huge. -/
import Derived.Test.YtahpklciafpdaaaPktRefRead
set_option linter.unusedSimpArgs false
set_option linter.unusedVariables false
namespace Go.FL
open Go.RowKit
/-- Bytes with their right sum. -/
def setSum (b : List UInt8) : List UInt8 := b.take 8 ++ (beBytes 4 (sumB b) ++ b.drop 12)
/-- j bytes of a sum are laid. -/
def sumTo (b s : List UInt8) (j : Nat) : List UInt8 := b.take 8 ++ (s.take j ++ (List.replicate (4 - j) 0 ++ b.drop 12))
theorem sumTo_zero (b s : List UInt8) : sumTo b s 0 = bareB b := by simp [sumTo, bareB, List.replicate]
theorem sumTo_four (b s : List UInt8) (h : s.length = 4) : sumTo b s 4 = b.take 8 ++ (s ++ b.drop 12) := by
  have e : s.take 4 = s := List.take_of_length_le (by omega)
  unfold sumTo
  rw [e]
  simp
theorem sumTo_length (b s : List UInt8) (j : Nat) (hs : s.length = 4) (hj : j ≤ 4) (h : 12 ≤ b.length) : (sumTo b s j).length = b.length := by
  simp [sumTo]
  omega
theorem sumTo_set (b s : List UInt8) (j : Nat) (hs : s.length = 4) (hj : j < 4) (h : 12 ≤ b.length) : (sumTo b s j).set (8 + j) (s[j]'(by omega)) = sumTo b s (j + 1) := by
  have h8 : (b.take 8).length = 8 := by rw [List.length_take]; omega
  have hj2 : (s.take j).length = j := by rw [List.length_take]; omega
  unfold sumTo
  rw [List.set_append_right _ _ (by omega), h8, List.set_append_right _ _ (by rw [hj2]; omega), hj2, show 8 + j - 8 - j = 0 by omega, show 4 - j = (4 - (j + 1)) + 1 by omega, List.replicate_succ, List.cons_append, List.set_cons_zero, show s.take (j + 1) = s.take j ++ [s[j]] from List.take_succ_eq_append_getElem (by omega), List.append_assoc, List.singleton_append]
end Go.FL
namespace Go.Proofs.Ytahpklciafpdaaa
open Go.RowKit Go.FL Go.ChangeShapes

set_option maxRecDepth 100000 in
set_option maxHeartbeats 2000000 in
theorem summed_any (v : Value) (b : List UInt8) (w : World) (h : Rd w v b) (h12 : 12 ≤ b.length) (hl : b.length ≤ 1000000) :
    Calls Try.prog 25 #[v] w (RetOwn w 5 (setSum b)) := by
  have HV := hid h
  obtain ⟨p, c, rfl, hlc, hcm, -, -⟩ := h
  unfold maxLen at hcm
  obtain ⟨n, hn⟩ : ∃ n, n = b.length := ⟨_, rfl⟩
  have HN := hid hn
  rw [← hn] at HV hlc hl ⊢
  have hn12 : 12 ≤ n := by omega
  have HLE := hid h12
  clear hn h12
  obtain ⟨cs32, hcs32⟩ : ∃ x, x = sumB b := ⟨_, rfl⟩
  have HCS := hid hcs32
  have hc32 : cs32 < 4294967296 := by rw [hcs32]; exact sumB_lt b
  have hw3 : IntKind.u64.wrap (cs32 : Int) = (cs32 : Int) := by rw [IntKind.wrap_u64]; omega
  clear hcs32
  go_enter Try.func25, Try.ntmps25
  go_wp2_with fail
  refine (copyBytes_any _ b _ HV.out (by rw [← HN.out]; omega)).mono ?_
  rintro e w2 ⟨v2, rfl, ho2, hb2⟩
  rcases id ho2 with ⟨-, he⟩ | ⟨g, sp, hg, rfl, hrow, hmx⟩
  · exact absurd HLE.out (by rw [he]; simp)
  rw [← HN.out] at ho2 hmx ⊢
  have HROW := hid (RowV.of_row hrow)
  have B2 := hid hb2
  have HWG := hid (show w.heap.size ≤ g from hg)
  clear ho2 hrow hb2 hg
  unfold maxLen at hmx
  go_wp2_with fail
  go_loopw [4] (fun y wr => ∃ j : Nat, j ≤ 4 ∧ y = .int .i64 ((8 + j : Nat) : Int) ∧ Hid (RowV wr g 5 (bytesV (bareTo b j ++ sp))) ∧ Hid (Below w.heap.size w wr)) (fun y _ => 12 - (intOf y).toNat)
  case atStart => exact ⟨0, by omega, rfl, hid (by rw [bareTo_zero]; exact HROW.out), B2⟩
  case round =>
    obtain ⟨j, hj, rfl, HR, HB⟩ := hrel
    obtain ⟨k, hk⟩ : ∃ k, k = 8 + j := ⟨_, rfl⟩
    have HK := hid hk
    rw [← hk]
    by_cases hlt : j < 4
    · have i0 : (0 : Int) ≤ (k : Int) := by omega
      have i1 : (k : Int) < (n : Int) := by omega
      have i2 : ((k : Int)).toNat = k := by omega
      have i3 : (k : Int) < 12 := by omega
      have hkl : 8 + j < b.length := by rw [← HN.out]; omega
      have hlen : 8 + j < (bareTo b j).length := by rw [bareTo_length b j (by omega)]; exact hkl
      have ck := HR.out.cell k
      obtain ⟨x, hx⟩ : ∃ x : UInt8, (bytesV (bareTo b j ++ sp))[k]? = some (.int .u8 (x.toNat : Int)) := ⟨_, by rw [hk]; exact bytesV_at _ _ _ hlen⟩
      rw [hx] at ck
      have fk := HR.out.frozen k
      have HR2 := hid (HR.out.store k (.int .u8 ((0 : UInt8).toNat : Int)))
      rw [hk, bytesV_set _ _ _ _ hlen, bareTo_set b j hkl, ← hk] at HR2
      have HB2 := hid (HB.out.setCell (p := ⟨g, k, none⟩) HWG.out (.int .u8 ((0 : UInt8).toNat : Int)))
      clear hlen hkl hk hx
      go_wp2_with fail
      go_roundw
      case rel => exact ⟨j + 1, by omega, by rw [HK.out]; go_num, HR2, HB2⟩
      case measure => have := HK.out; simp [intOf]; omega
    · obtain rfl : j = 4 := by omega
      obtain rfl : k = 12 := hk
      have HR2 := hid (show RowV _ g 5 (bytesV (bareB b ++ sp)) from HR.out)
      have hbl : (bareB b).length = n := by
        rw [← bareTo_four, bareTo_length b 4 (by have := HLE.out; omega), HN.out]
      have HRDB := hid (show Rd _ (.slice (some ⟨g, 0, none⟩) n (n + sp.length)) (bareB b) by
        have := HR2.out.to_row.rd n (n + sp.length) (by rw [List.length_append, hbl]; omega) (by omega) (by unfold maxLen; omega)
        rwa [List.take_left' hbl] at this)
      clear hbl
      go_wp2_with fail
      refine (refSum_any _ (bareB b) _ HRDB.out).mono ?_
      rw [show (crcExt 0#32 (bareB b)).toNat = cs32 from HCS.out.symm]
      rintro e w3 ⟨rfl, rfl⟩
      go_wp2_with fail
      refine (refPut_at _ [] cs32 4 _ _ rfl rfl (by omega) _ (Rd.nil _) (by simp) (by omega)).mono ?_
      rintro e w4 ⟨v4, rfl, ho4, hb4⟩
      rw [List.nil_append] at ho4
      have hs4 : (beBytes 4 cs32).length = 4 := beBytes_length _ _
      obtain ⟨sb, hsb⟩ : ∃ s, s = beBytes 4 cs32 := ⟨_, rfl⟩
      rw [← hsb] at ho4 hs4
      have HSB := hid hsb
      rcases ho4 with ⟨-, he⟩ | ⟨g4, sp4, hg4, rfl, hrow4, hmx4⟩
      · rw [he] at hs4
        simp at hs4
      rw [hs4] at hmx4 ⊢
      unfold maxLen at hmx4
      have HROW4 := hid (RowV.of_row hrow4)
      have HRS := hid (HR2.out.mono hb4)
      have HB4 := hid (gr_trans HB.out hb4)
      have hgl := HR2.out.lt
      have HNE := hid (show g ≠ g4 by omega)
      have HS4 := hid hs4
      clear hsb hrow4 hb4 hgl hg4 hs4
      go_wp2_with fail
      go_loopw [6] (fun y wq => ∃ j : Nat, j ≤ 4 ∧ y = .int .i64 (j : Int) ∧ Hid (RowV wq g 5 (bytesV (sumTo b sb j ++ sp))) ∧ Hid (RowV wq g4 5 (bytesV (sb ++ sp4))) ∧ Hid (Below w.heap.size w wq)) (fun y _ => 4 - (intOf y).toNat)
      case atStart => exact ⟨0, by omega, rfl, hid (by rw [sumTo_zero]; exact HRS.out), HROW4, HB4⟩
      case round =>
        obtain ⟨j, hj, rfl, HR, HR4, HB⟩ := hrel
        by_cases hlt : j < 4
        · have j0 : (0 : Int) ≤ (j : Int) := by omega
          have j1 : (j : Int) < 4 := by omega
          have j2 : ((j : Int)).toNat = j := by omega
          have hjs : j < sb.length := by rw [HS4.out]; exact hlt
          have hw8 : IntKind.i64.wrap ((8 : Int) + (j : Int)) = ((8 + j : Nat) : Int) := by rw [IntKind.wrap_i64]; omega
          obtain ⟨k, hk⟩ : ∃ k, k = 8 + j := ⟨_, rfl⟩
          have HK := hid hk
          rw [← hk] at hw8
          have i0 : (0 : Int) ≤ (k : Int) := by omega
          have i1 : (k : Int) < (n : Int) := by omega
          have i2 : ((k : Int)).toNat = k := by omega
          have hlen : 8 + j < (sumTo b sb j).length := by rw [sumTo_length b sb j HS4.out (by omega) HLE.out, ← HN.out]; omega
          have ck := HR.out.cell k
          obtain ⟨x, hx⟩ : ∃ x : UInt8, (bytesV (sumTo b sb j ++ sp))[k]? = some (.int .u8 (x.toNat : Int)) := ⟨_, by rw [hk]; exact bytesV_at _ _ _ hlen⟩
          rw [hx] at ck
          have fk := HR.out.frozen k
          have cj := HR4.out.cell j
          rw [bytesV_at _ _ _ hjs] at cj
          have hst := sumTo_set b sb j HS4.out hlt HLE.out
          generalize sb[j] = y4 at *
          have HR2 := hid (HR.out.store k (.int .u8 (y4.toNat : Int)))
          rw [hk, bytesV_set _ _ _ _ hlen, hst, ← hk] at HR2
          have HR42 := hid (HR4.out.other ⟨g, k, none⟩ (.int .u8 (y4.toNat : Int)) HNE.out)
          have HB2 := hid (HB.out.setCell (p := ⟨g, k, none⟩) HWG.out (.int .u8 (y4.toNat : Int)))
          clear hlen hk hx hjs hst
          go_wp2_with fail
          go_roundw
          case rel => exact ⟨j + 1, by omega, by go_num, HR2, HR42, HB2⟩
          case measure => simp [intOf]; omega
        · obtain rfl : j = 4 := by omega
          have HFIN := hid (show setSum b = sumTo b sb 4 by rw [sumTo_four b sb HS4.out, setSum, HSB.out, HCS.out])
          have HLN := hid (show (setSum b).length = n by rw [HFIN.out, sumTo_length b sb 4 HS4.out (Nat.le_refl _) HLE.out, HN.out])
          go_wp2_with fail
          go_ret
          exact ⟨.slice (some ⟨g, 0, none⟩) n (n + sp.length), rfl, .inr ⟨g, sp, HWG.out, by rw [HLN.out], by rw [HFIN.out]; exact HR.out.to_row, by rw [HLN.out]; unfold maxLen; omega⟩, HB.out⟩
end Go.Proofs.Ytahpklciafpdaaa

/- The document's SHA-256: its helpers. Conditions: none. -/
import Derived.Test.YtjpemfciiakphaaDoorShaSum
import Derived.Test.YtjpemfciiakphaaDoorCopy
import Derived.Test.YtjpemfciiakphaaDoorMem2
import Derived.Test.YtjpemfciiakphaaDoorRegOut
namespace Go.Proofs.YtjpemfciiakphaaDoor
open Go.RowKit Go.FL

theorem right_any (x : BitVec 32) (n : Nat) (h0 : 0 < n) (h : n < 32) (w : World) :
    Calls Tryd.prog 49 #[.int .u32 (x.toNat : Int), .int .i64 (n : Int)] w fun e w' => e = .returned (.int .u32 ((rr x n).toNat : Int)) ∧ w' = w := by
  have hd : (32 : Int) - (n : Int) = ((32 - n : Nat) : Int) := by omega
  have hb : ((32 - n : Nat) : Int) ≤ 31 := by omega
  go_enter Tryd.func49, Tryd.ntmps49
  go_wp2
  go_ret
  refine ⟨?_, rfl⟩
  rw [shl32, shr32, bits_or32]
  rfl
theorem right_k (x : BitVec 32) (k : Int) (h : 0 < k ∧ k < 32) (w : World) :
    Calls Tryd.prog 49 #[.int .u32 (x.toNat : Int), .int .i64 k] w fun e w' => e = .returned (.int .u32 ((rr x k.toNat).toNat : Int)) ∧ w' = w := by
  obtain ⟨n, rfl⟩ : ∃ n : Nat, k = (n : Int) := ⟨k.toNat, by omega⟩
  exact right_any x n (by omega) (by omega) w
theorem constants_any (w : World) :
    Calls Tryd.prog 46 #[] w fun e w' => e = .returned (.slice (some ⟨w.heap.size, 0, none⟩) 64 64) ∧ RowV w' w.heap.size 23 (wordsV shaK) ∧ Below w.heap.size w w' := by
  go_enter Tryd.func46, Tryd.ntmps46
  go_wp2
  go_ret
  exact ⟨rfl, RowV.new w 23 (wordsV shaK), (Below.refl _ _).alloc (Nat.le_refl _) _⟩

set_option maxRecDepth 20000 in
set_option maxHeartbeats 2000000 in
theorem whole_any (v : Value) (l : List UInt8) (w : World) (hv : Rd w v l) (hs : l.length ≤ 1048576) :
    Calls Tryd.prog 47 #[v] w (RetOwn w 5 (shaPad l)) := by
  have HV := hid hv
  obtain ⟨p, c, rfl, hlc, hcm, hpn, hcell⟩ := hv
  clear hcell
  go_enter Tryd.func47, Tryd.ntmps47
  go_wp2_with fail
  refine (copyBytes_any _ l _ HV.out (by omega)).mono ?_
  rintro e w1 ⟨v1, rfl, ho1, hb1⟩
  have HO1 := hid ho1
  have HB1 := hid hb1
  clear ho1 hb1
  go_wp2_with (at_builtin; refine wpList_append_Own rfl (.tmp 7) (.tmp 8) 22 rfl w.heap.size 5 Tryd.underlying22 infoU8s _ _ l [128] rfl (HO1.out.alloc _) rfl ?hrd ?hlen ?hbase ?_)
  case hrd => exact rd_new w1 5 _ 1 _ rfl (by simp [bytesV]) (by unfold maxLen; omega)
  case hlen => simp; omega
  case hbase => have := HB1.out.size; simp; omega
  intro v3 w3 ho3 hg3
  have HO3 := hid ho3
  have HB3 := hid ((HB1.out.alloc HB1.out.size _).grown hg3 (by have := HB1.out.size; simp; omega) HO1.out.ge)
  clear ho3 hg3 HO1 HB1
  obtain ⟨z, hz⟩ : ∃ z, z = (119 - l.length % 64) % 64 := ⟨_, rfl⟩
  have HZ := hid hz
  have hz64 : z < 64 := by omega
  clear hz
  obtain ⟨pw, cw, hv3, _, _, _, _⟩ := HO3.out.rd
  rename_i k1 k2 k3 k4
  clear k1 k2 k3 k4
  rw [List.length_append, List.length_singleton] at hv3
  go_wp2_with fail
  go_loopw [3] (fun o wr => ∃ (k : Nat) (pk : Option Addr) (ck : Nat), k ≤ z ∧ o = .slice pk (l.length + 1 + k) ck ∧ Hid (Own wr w.heap.size 5 o (l ++ 128 :: List.replicate k 0)) ∧ Hid (Below w.heap.size w wr)) (fun o _ => match o with | .slice _ n _ => z + l.length + 1 - n | _ => 0)
  case atStart => exact ⟨0, pw, cw, Nat.zero_le _, hv3, HO3.out, HB3.out⟩
  case round =>
    clear HO3 HB3 hv3
    obtain ⟨k, pk, ck, hk, rfl, ho, hb⟩ := hrel
    by_cases hlt : k < z
    · have HO := hid ho.out
      have HB := hid hb.out
      have hm1 : ¬ (((l.length + 1 + k : Nat) : Int) % 64 = 56) := by have := HZ.out; omega
      have hm2 : ¬ ((((l.length + 1 + k : Nat) : Int)).tmod 64 = 56) := by rw [Int.tmod_eq_emod_of_nonneg (by omega)]; have := HZ.out; omega
      clear ho hb
      go_wp2_with (at_builtin; refine wpList_append_Own rfl (.tmp 14) (.tmp 15) 22 rfl w.heap.size 5 Tryd.underlying22 infoU8s _ _ (l ++ 128 :: List.replicate k 0) [0] rfl (HO.out.alloc _) rfl ?hrd ?hlen ?hbase ?_)
      case hrd => exact rd_new _ 5 _ 1 _ rfl (by simp [bytesV]) (by unfold maxLen; omega)
      case hlen => simp; omega
      case hbase => have := HB.out.size; simp; omega
      intro v4 w4 ho4 hg4
      have hnx : l ++ 128 :: (List.replicate k 0 ++ [0]) = l ++ 128 :: List.replicate (k + 1) (0 : UInt8) := by rw [← List.replicate_succ']
      rw [hnx] at ho4
      have HO4 := hid ho4
      have HB4 := hid ((HB.out.alloc HB.out.size _).grown hg4 (by have := HB.out.size; simp; omega) HO.out.ge)
      obtain ⟨p4, c4, hv4, _, _, _, _⟩ := ho4.rd
      rename_i k1 k2 k3 k4
      clear k1 k2 k3 k4 ho4 hg4 HO HB hnx
      rw [show (l ++ 128 :: List.replicate (k + 1) (0 : UInt8)).length = l.length + 1 + (k + 1) by simp; omega] at hv4
      go_wp2
      go_roundw
      case rel => exact ⟨k + 1, p4, c4, by omega, hv4, HO4.out, HB4.out⟩
      case measure => subst hv4; simp; omega
    · obtain rfl : k = z := by omega
      have hm1 : (((l.length + 1 + k : Nat) : Int) % 64 = 56) := by have := HZ.out; omega
      have hm2 : ((((l.length + 1 + k : Nat) : Int)).tmod 64 = 56) := by rw [Int.tmod_eq_emod_of_nonneg (by omega)]; have := HZ.out; omega
      have ht0 : l ++ 128 :: List.replicate k 0 = l ++ shaTail l 0 := by have := HZ.out; simp [shaTail, bePart, ← this]
      rw [ht0] at ho
      have HO := hid ho.out
      have HB := hid hb.out
      clear ho hb ht0
      go_wp2_with fail
      clear hm1 hm2
      have hbne : (((l.length : Int) + 1 + (k : Int)) % 64 != 56) = false := by assumption
      rw [hbne]
      clear hbne
      go_loopw [3, 4] (fun o y wx => ∃ j : Nat, j ≤ 8 ∧ y = .int .i64 (7 - (j : Int)) ∧ Hid (Own wx w.heap.size 5 o (l ++ shaTail l j)) ∧ Hid (Below w.heap.size w wx)) (fun _ y _ => (intOf y + 1).toNat)
      case atStart => exact ⟨0, Nat.zero_le _, by go_num, HO.out, HB.out⟩
      case round =>
        clear HO HB
        obtain ⟨j, hj, rfl, ho, hb⟩ := hrel
        by_cases hlt : j < 8
        · obtain ⟨q, hq⟩ : ∃ q : Nat, q = 8 - 1 - j := ⟨_, rfl⟩
          have eq : (7 : Int) - (j : Int) = (q : Int) := by omega
          have HS := hid (shaTail_succ l j)
          rw [← hq] at HS
          have hsb := hid (shr_byte (8 * l.length) (8 * q))
          have HQ := hid eq
          have HQJ := hid hq
          rw [eq]
          have hq7 : q ≤ 7 := by omega
          have hlen2 := shaTail_length l j
          have hlen3 : (l ++ shaTail l j).length ≤ 1048576 + 80 := by rw [List.length_append]; omega
          have HB := hid hb.out
          have HO := hid ho.out
          have e8 : ((8 * l.length : Nat) : Int) = 8 * (l.length : Int) := by omega
          have e8q : (8 : Int) * (q : Int) = ((8 * q : Nat) : Int) := by omega
          have hs56 : 8 * q ≤ 56 := by omega
          rw [e8] at hsb
          clear ho hb eq hq hlen2 e8
          generalize 8 * q = sh at *
          go_wp2_with (at_builtin; refine wpList_append_Own rfl (.tmp 21) (.tmp 31) 22 rfl w.heap.size 5 Tryd.underlying22 infoU8s _ _ (l ++ shaTail l j) [UInt8.ofNat (8 * l.length / 2 ^ sh)] rfl (HO.out.alloc _) rfl ?hrd ?hlen ?hbase ?_)
          case hrd => exact rd_new _ 5 _ 1 _ rfl (by simp [bytesV]) (by unfold maxLen; omega)
          case hlen => simp at *; omega
          case hbase => have := HB.out.size; simp; omega
          intro v5 w5 ho5 hg5
          rw [← HS.out] at ho5
          have HO5 := hid ho5
          have HB5 := hid ((HB.out.alloc HB.out.size _).grown hg5 (by have := HB.out.size; simp; omega) HO.out.ge)
          clear ho5 hg5 HO HB
          go_wp2
          go_roundw
          case rel => exact ⟨j + 1, by omega, by have := HQ.out; go_num, HO5.out, HB5.out⟩
          case measure => simp [intOf] <;> omega
        · obtain rfl : j = 8 := by omega
          rw [shaTail_pad] at ho
          have HB := hid hb.out
          have HO := hid ho.out
          clear ho hb
          go_wp2
          go_ret
          exact ⟨_, rfl, HO.out, HB.out⟩
end Go.Proofs.YtjpemfciiakphaaDoor

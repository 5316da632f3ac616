/- cookie.words: numbers of 4 bytes, one behind the other. Conditions: what comes in reads as it should. -/
import Derived.Test.YtjpemfciiakphaaDoorCookSmall
import Derived.Test.YtjpemfciiakphaaDoorValRow
namespace Go.Proofs.YtjpemfciiakphaaDoor
open Go.RowKit Go.FL

set_option maxRecDepth 20000 in
set_option maxHeartbeats 1000000 in
theorem cookWords_any (v u : Value) (l : List UInt8) (xs : List Nat) (w : World) (h : Rd w v l) (k : RdV w u (xs.map fun x : Nat => Value.int .u32 (x : Int))) (hx : ∀ x ∈ xs, x < 4294967296) (h0 : 0 < xs.length) (hn : xs.length ≤ 100) (hs : l.length ≤ 1000000) :
    Calls Tryd.prog 21 #[v, u] w (RetOwn w 5 (l ++ catBE 4 xs)) := by
  have HV := hid h
  obtain ⟨p, c, rfl, hlc, hcm, hpn, hcell⟩ := h
  obtain ⟨q, cq, rfl, hlq, hcq, hqn, hcelq⟩ := k
  unfold maxLen at hcm hcq
  clear hcell
  have hml : (xs.map fun x : Nat => Value.int .u32 (x : Int)).length = xs.length := by simp
  rw [hml] at hlq ⊢
  have HC := hid (show ∀ i (hi : i < xs.length), ∃ b off, q = some ⟨b, off, none⟩ ∧ w.cell? ⟨b, off + i, none⟩ = some (.int .u32 (xs[i] : Int)) from fun i hi => by
    obtain ⟨b, off, e, h⟩ := hcelq i (by omega)
    exact ⟨b, off, e, by simpa using h⟩)
  have HX := hid hx
  clear hcelq hx hml
  go_enter Tryd.func21, Tryd.ntmps21
  go_wp2_with fail
  go_loopw [0, 6, 9] (fun o _ y wr => ∃ (j : Nat) (z : Option Addr) (cc : Nat), j ≤ xs.length ∧ y = .int .i64 (j : Int) ∧ o = .slice z (l.length + 4 * j) cc ∧ Hid (Rd wr o (l ++ catBE 4 (xs.take j))) ∧ Hid (0 < j → Own wr w.heap.size 5 o (l ++ catBE 4 (xs.take j))) ∧ Hid (Below w.heap.size w wr)) (fun _ _ y _ => xs.length - (intOf y).toNat)
  case atStart => exact ⟨0, p, c, Nat.zero_le _, rfl, rfl, hid (by simpa [catBE] using HV.out), hid (fun h => by omega), hid (Below.refl _ _)⟩
  case round =>
    obtain ⟨j, z, cc, hj, rfl, rfl, HR, HO, HB⟩ := hrel
    by_cases hlt : j < xs.length
    · obtain ⟨b, off, rfl, hc⟩ := HC.out j hlt
      have hcw := cell?_of_below HB.out hc
      have hxb := HX.out _ (List.getElem_mem hlt)
      have HT := hid (show xs.take (j + 1) = xs.take j ++ [xs[j]] from List.take_succ_eq_append_getElem hlt)
      have HS := hid hs
      have HN := hid hn
      have HL2 := hid (show (l ++ catBE 4 (xs.take j)).length = l.length + 4 * j by rw [List.length_append, catBE_length, List.length_take, Nat.min_eq_left hj])
      generalize xs[j] = x at *
      clear hc
      go_wp2_with fail
      refine (put_at _ (l ++ catBE 4 (xs.take j)) x 4 _ _ rfl rfl (by omega) _ HR.out (by have := HL2.out; have := HS.out; have := HN.out; omega) (by omega)).mono ?_
      rintro e w1 ⟨v1, rfl, ho1, hb1⟩
      rw [List.append_assoc, show catBE 4 (xs.take j) ++ beBytes 4 x = catBE 4 (xs.take (j + 1)) by rw [HT.out, catBE_append]; simp [catBE]] at ho1
      have hle := HB.out.size
      have HO1 := hid (ho1.base hle)
      have HB1 := hid (gr_trans HB.out hb1)
      obtain ⟨z1, c1, rfl, _⟩ := ho1.rd
      rw [show (l ++ catBE 4 (xs.take (j + 1))).length = l.length + 4 * (j + 1) by rw [List.length_append, catBE_length, List.length_take, Nat.min_eq_left (by omega)]] at *
      clear ho1 hb1 hle hcw
      go_wp2_with fail
      go_roundw
      case rel => exact ⟨j + 1, z1, c1, by omega, by go_num, rfl, hid HO1.out.rd, hid (fun _ => HO1.out), HB1⟩
      case measure => simp [intOf]; omega
    · obtain rfl : j = xs.length := by omega
      go_wp2_with fail
      go_ret
      have := HO.out h0
      rw [List.take_length] at this
      exact ⟨_, rfl, this, HB.out⟩
end Go.Proofs.YtjpemfciiakphaaDoor

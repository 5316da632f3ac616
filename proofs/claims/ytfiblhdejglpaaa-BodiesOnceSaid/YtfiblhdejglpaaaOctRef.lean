/- What the reference's functions of octet answer. Conditions: what comes in reads as bytes, of a length that memory bears. -/
import Derived.Test.YtfiblhdejglpaaaOctProg
import Derived.Test.YtfiblhdejglpaaaCopy
namespace Go.Proofs.Ytfiblhdejglpaaa
open Go.RowKit Go.FL

theorem refSize_any (n : Int) (w : World) : Calls Try.prog 75 #[.int .i64 n] w fun e w' => e = .returned (.bool (sizedB n)) ∧ w = w' := by
  by_cases h : n = 1 ∨ n = 2 ∨ n = 4 ∨ n = 8
  · rcases h with rfl | rfl | rfl | rfl
    all_goals
      go_enter Try.func75, Try.ntmps75
      go_wp2
      go_ret
      exact ⟨rfl, rfl⟩
  · have hb : sizedB n = false := by simpa [sizedB] using h
    have b1 : (n == 1) = false := by simp; omega
    have b2 : (n == 2) = false := by simp; omega
    have b4 : (n == 4) = false := by simp; omega
    have b8 : (n == 8) = false := by simp; omega
    have HB := hid hb
    clear hb h
    go_enter Try.func75, Try.ntmps75
    go_wp2
    go_ret
    exact ⟨by rw [HB.out]; rfl, rfl⟩

set_option maxRecDepth 20000 in
set_option maxHeartbeats 400000 in
theorem refCut_ok (v : Value) (l : List UInt8) (i k : Nat) (w : World) (h : Rd w v l) (hik : i + k ≤ l.length) (hs : l.length ≤ 140737488355320) :
    Calls Try.prog 68 #[v, .int .i64 (i : Int), .int .i64 (k : Int)] w fun e w' => ∃ v', e = .returned (.tuple #[v', .bool true]) ∧ Own w' w.heap.size 5 v' ((l.drop i).take k) ∧ Below w.heap.size w w' := by
  have H := hid h
  obtain ⟨p, c, rfl, hlc, hcm, hpn, hcell⟩ := h
  unfold maxLen at hcm
  clear hcell
  go_enter Try.func68, Try.ntmps68
  go_wp2_with fail
  all_goals
    refine (copyBytes_any _ ((l.drop i).take k) _ (by first | exact H.out.cutL i k hik (by assumption) | exact H.out.cutR i k hik (by assumption)) (by simp; omega)).mono ?_
    rintro e w1 ⟨v1, rfl, ho1, hb1⟩
    have HO1 := hid ho1
    have HB1 := hid hb1
    clear ho1 hb1
    go_wp2_with fail
    go_ret2
    exact ⟨_, rfl, HO1.out, HB1.out⟩

theorem refCut_no (v : Value) (l : List UInt8) (a n : Int) (w : World) (h : Rd w v l) (hw : withinB l.length a n = false) :
    Calls Try.prog 68 #[v, .int .i64 a, .int .i64 n] w fun e w' => e = .returned (.tuple #[.slice none 0 0, .bool false]) ∧ w = w' := by
  obtain ⟨p, c, rfl, hlc, hcm, hpn, hcell⟩ := h
  unfold maxLen at hcm
  clear hcell
  simp only [withinB, decide_eq_false_iff_not] at hw
  by_cases h1 : a < 0
  · clear hw
    go_enter Try.func68, Try.ntmps68
    go_wp2
    go_ret2
    exact ⟨rfl, rfl⟩
  · by_cases h2 : n < 0
    · clear hw
      go_enter Try.func68, Try.ntmps68
      go_wp2
      go_ret2
      exact ⟨rfl, rfl⟩
    · by_cases h3 : (l.length : Int) < a
      · clear hw
        go_enter Try.func68, Try.ntmps68
        go_wp2
        go_ret2
        exact ⟨rfl, rfl⟩
      · have h4 : (l.length : Int) - a < n := by omega
        clear hw
        go_enter Try.func68, Try.ntmps68
        go_wp2
        go_ret2
        exact ⟨rfl, rfl⟩

set_option maxRecDepth 20000 in
set_option maxHeartbeats 400000 in
theorem refGet_ok (v : Value) (l : List UInt8) (a n : Int) (w : World) (h : Rd w v l) (hok : getOk l a n = true) (hs : l.length ≤ 140737488355320) :
    Calls Try.prog 74 #[v, .int .i64 a, .int .i64 n] w fun e w' => e = .returned (.tuple #[.int .u64 (beVal (pieceOf l a n) : Int), .int .i64 0]) ∧ Below w.heap.size w w' := by
  simp only [getOk, Bool.and_eq_true] at hok
  obtain ⟨hs', hw⟩ := hok
  obtain ⟨i, k, rfl, rfl, hik⟩ := withinB_nat hw
  clear hw
  have H := hid h
  obtain ⟨p, c, rfl, hlc, hcm, hpn, hcell⟩ := h
  unfold maxLen at hcm
  clear hcell
  have hk8 : k ≤ 8 := by obtain ⟨m, e, _, h8⟩ := sizedB_nat hs'; omega
  have HP := hid (show pieceOf l (i : Int) (k : Int) = (l.drop i).take k by simp [pieceOf])
  have hpl : ((l.drop i).take k).length = k := by simp; omega
  go_enter Try.func74, Try.ntmps74
  go_wp2_with fail
  refine (refCut_ok _ l i k _ H.out hik hs).mono ?_
  rintro e w1 ⟨v1, rfl, ho1, hb1⟩
  have HB1 := hid hb1
  have hr1 := ho1.rd
  clear ho1 hb1
  generalize (l.drop i).take k = m at *
  obtain ⟨p1, c1, rfl, hlc1, hcm1, hpn1, hcell1⟩ := hr1
  unfold maxLen at hcm1
  subst hpl
  go_wp2_with fail
  refine (refSize_any _ _).mono ?_
  rintro e w2 ⟨rfl, rfl⟩
  rw [hs']
  clear hs'
  go_wp2_with fail
  go_loop [10, 11] (fun x y => ∃ j : Nat, j ≤ m.length ∧ y = .int .i64 j ∧ x = .int .u64 ((beVal (m.take j) : Nat) : Int)) (fun _ y => m.length - (intOf y).toNat)
  case atStart => exact ⟨0, Nat.zero_le _, rfl, rfl⟩
  case round =>
    obtain ⟨j, hj, rfl, rfl⟩ := hrel
    by_cases hlt : j < m.length
    · obtain ⟨b, off, rfl, hc⟩ := hcell1 j hlt
      have HS := hid (show beVal (m.take (j + 1)) = beVal (m.take j) * 256 + m[j].toNat by rw [List.take_succ_eq_append_getElem hlt, beVal_snoc])
      have hx : beVal (m.take j) < 72057594037927936 := Nat.lt_of_lt_of_le (beVal_lt _) (pow256_lt (by simp; omega))
      generalize beVal (m.take j) = x at *
      have hb := byte_lt m[j]
      clear hcell1
      go_wp2
      go_round
      case rel => exact ⟨j + 1, by omega, by go_num, by rw [HS.out]; go_num⟩
      case measure => simp [intOf]; omega
    · obtain rfl : j = m.length := by omega
      clear hcell1
      go_wp2
      go_ret2
      exact ⟨by rw [HP.out]; simp, HB1.out⟩

set_option maxRecDepth 20000 in
set_option maxHeartbeats 400000 in
theorem refGet_no (v : Value) (l : List UInt8) (a n : Int) (w : World) (h : Rd w v l) (hno : getOk l a n = false) (hs : l.length ≤ 140737488355320) :
    Calls Try.prog 74 #[v, .int .i64 a, .int .i64 n] w fun e w' => e = .returned (.tuple #[.int .u64 0, .int .i64 1]) ∧ Below w.heap.size w w' := by
  simp only [getOk] at hno
  have H := hid h
  obtain ⟨p, c, rfl, hlc, hcm, hpn, hcell⟩ := h
  unfold maxLen at hcm
  clear hcell
  cases hw : withinB l.length a n
  · clear hno
    go_enter Try.func74, Try.ntmps74
    go_wp2_with fail
    refine (refCut_no _ l _ _ _ H.out hw).mono ?_
    rintro e w1 ⟨rfl, rfl⟩
    clear hw
    go_wp2_with fail
    refine (refSize_any _ _).mono ?_
    rintro e w2 ⟨rfl, rfl⟩
    cases hsz : sizedB n
    all_goals
      go_wp2_with fail
      go_ret2
      exact ⟨rfl, Below.refl _ _⟩
  · rw [hw, Bool.and_true] at hno
    obtain ⟨i, k, rfl, rfl, hik⟩ := withinB_nat hw
    clear hw
    go_enter Try.func74, Try.ntmps74
    go_wp2_with fail
    refine (refCut_ok _ l i k _ H.out hik hs).mono ?_
    rintro e w1 ⟨v1, rfl, ho1, hb1⟩
    have HB1 := hid hb1
    clear ho1 hb1
    go_wp2_with fail
    refine (refSize_any _ _).mono ?_
    rintro e w2 ⟨rfl, rfl⟩
    rw [hno]
    clear hno
    go_wp2_with fail
    go_ret2
    exact ⟨rfl, HB1.out⟩

set_option maxRecDepth 20000 in
set_option maxHeartbeats 400000 in
theorem refPut_any (v : Value) (l : List UInt8) (x : Nat) (n : Int) (w : World) (h : Rd w v l) (hs : l.length ≤ 140737488355320) (hx : x < 18446744073709551616) :
    Calls Try.prog 57 #[v, .int .u64 (x : Int), .int .i64 n] w (RetOwn w 5 (putL l x n)) := by
  have H := hid h
  obtain ⟨p, c, rfl, hlc, hcm, hpn, hcell⟩ := h
  unfold maxLen at hcm
  clear hcell
  cases hsz : sizedB n
  · have HP := hid (show putL l x n = l by simp [putL, hsz])
    go_enter Try.func57, Try.ntmps57
    go_wp2_with fail
    refine (copyBytes_any _ l _ H.out (by omega)).mono ?_
    rintro e w1 ⟨v1, rfl, ho1, hb1⟩
    have HO1 := hid ho1
    have HB1 := hid hb1
    clear ho1 hb1
    go_wp2_with fail
    refine (refSize_any _ _).mono ?_
    rintro e w2 ⟨rfl, rfl⟩
    rw [hsz]
    go_wp2_with fail
    go_ret
    exact ⟨_, rfl, by rw [HP.out]; exact HO1.out, HB1.out⟩
  · have HP := hid (show putL l x n = l ++ beBytes n.toNat x by simp [putL, hsz])
    obtain ⟨k, rfl, hk0, hk8⟩ := sizedB_nat hsz
    go_enter Try.func57, Try.ntmps57
    go_wp2_with fail
    refine (copyBytes_any _ l _ H.out (by omega)).mono ?_
    rintro e w1 ⟨v1, rfl, ho1, hb1⟩
    have HO1 := hid ho1
    have HB1 := hid hb1
    clear ho1 hb1
    go_wp2_with fail
    refine (refSize_any _ _).mono ?_
    rintro e w2 ⟨rfl, rfl⟩
    rw [hsz]
    clear hsz
    go_wp2_with fail
    go_loopw [7, 8] (fun o y wr => ∃ j : Nat, j ≤ k ∧ y = .int .i64 ((k : Int) - 1 - (j : Int)) ∧ Own wr w.heap.size 5 o (l ++ bePart k x j) ∧ Below w.heap.size w wr) (fun _ y _ => (intOf y + 1).toNat)
    case atStart => exact ⟨0, Nat.zero_le _, by go_num, by simpa [bePart] using HO1.out, HB1.out⟩
    case round =>
      clear HO1 HB1
      obtain ⟨j, hj, rfl, ho, hb⟩ := hrel
      by_cases hlt : j < k
      · obtain ⟨q, hq⟩ : ∃ q : Nat, q = k - 1 - j := ⟨_, rfl⟩
        have eq : (k : Int) - 1 - (j : Int) = (q : Int) := by omega
        rw [eq]
        have HO := hid ho
        have HB := hid hb
        have HS := hid (bePart_succ k x j)
        have hsb := hid (shr_byte x (8 * q))
        rw [← hq] at HS
        have HQ := hid eq
        clear ho hb eq hq
        have hq8 : q < 8 := by have := HQ.out; omega
        go_wp2_with (at_builtin; refine wpList_append_Own rfl (.tmp 21) (.tmp 28) 24 rfl w.heap.size 5 Try.underlying24 infoU8o _ _ (l ++ bePart k x j) [UInt8.ofNat (x / 2 ^ (8 * q))] rfl (HO.out.alloc _) rfl ?hrd ?hlen ?hbase ?_)
        case hrd => exact rd_new wr 5 _ 1 _ rfl (by simp [bytesV, ← hsb.out]) (by unfold maxLen; omega)
        case hlen => simp [bePart_length]; omega
        case hbase => have := HB.out.size; simp; omega
        intro v3 w3 ho3 hg3
        have HO3 := hid ho3
        have HB3 := hid ((HB.out.alloc HB.out.size (.cells #[.int .u8 ((x : Int) / 2 ^ (8 * q) % 256)] 5 (0, 0))).grown hg3 (by have := HB.out.size; simp; omega) HO.out.ge)
        clear ho3 hg3 HO HB
        go_wp2
        go_roundw
        case rel => exact ⟨j + 1, by omega, by have := HQ.out; go_num, by rw [HS.out]; exact HO3.out, HB3.out⟩
        case measure => simp [intOf]
      · obtain rfl : j = k := by omega
        rw [show (j : Int) - 1 - (j : Int) = -1 by omega]
        go_wp2
        go_ret
        exact ⟨_, rfl, by rw [HP.out]; simpa [beBytes] using ho, hb⟩
end Go.Proofs.Ytfiblhdejglpaaa

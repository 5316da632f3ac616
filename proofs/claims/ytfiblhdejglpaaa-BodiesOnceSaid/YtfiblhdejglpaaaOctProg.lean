/- What the functions of octet answer. Conditions: what comes in reads as bytes, of a length that memory bears. -/
import Derived.Test.YtfiblhdejglpaaaRows
import Derived.Test.YtfiblhdejglpaaaMem
import Derived.Test.YtfiblhdejglpaaaExt
import Derived.Test.YtfiblhdejglpaaaOctMath
import Derived.OpenShut
namespace Go.Proofs.Ytfiblhdejglpaaa
open Go.RowKit Go.FL

theorem infoU8o : (Try.prog.info? 5).map (fun i => (i.zero, i.size, i.bytes)) = some (some (.int .u8 0), 1, 1) := by kernel_rfl

theorem sized_any (n : Int) (w : World) : Calls Try.prog 79 #[.int .i64 n] w fun e w' => e = .returned (.bool (sizedB n)) ∧ w = w' := by
  by_cases h1 : n = 1
  · subst h1
    go_enter Try.func79, Try.ntmps79
    go_wp2
    go_ret
    exact ⟨rfl, rfl⟩
  · by_cases h2 : n = 2
    · subst h2
      go_enter Try.func79, Try.ntmps79
      go_wp2
      go_ret
      exact ⟨rfl, rfl⟩
    · by_cases h4 : n = 4
      · subst h4
        go_enter Try.func79, Try.ntmps79
        go_wp2
        go_ret
        exact ⟨rfl, rfl⟩
      · by_cases h8 : n = 8
        · subst h8
          go_enter Try.func79, Try.ntmps79
          go_wp2
          go_ret
          exact ⟨rfl, rfl⟩
        · have hb : sizedB n = false := by simp [sizedB, h1, h2, h4, h8]
          have b1 : (n == 1) = false := by simp [h1]
          have b2 : (n == 2) = false := by simp [h2]
          have b4 : (n == 4) = false := by simp [h4]
          have b8 : (n == 8) = false := by simp [h8]
          have HB := hid hb
          clear hb h1 h2 h4 h8
          go_enter Try.func79, Try.ntmps79
          go_wp2
          go_ret
          exact ⟨by rw [HB.out]; rfl, rfl⟩

theorem within_any (v : Value) (l : List UInt8) (a n : Int) (w : World) (h : Rd w v l) : Calls Try.prog 80 #[v, .int .i64 a, .int .i64 n] w fun e w' => e = .returned (.bool (withinB l.length a n)) ∧ w = w' := by
  obtain ⟨p, c, rfl, hlc, hcm, hpn, hcell⟩ := h
  unfold maxLen at hcm
  clear hcell
  by_cases h1 : 0 ≤ a
  · by_cases h2 : 0 ≤ n
    · by_cases h3 : a ≤ (l.length : Int)
      · have h5 : (l.length : Int) - a ≤ 9223372036854775807 := by omega
        by_cases h4 : n ≤ (l.length : Int) - a
        · have HB := hid (show withinB l.length a n = true by simp [withinB, h1, h2, h3, h4])
          go_enter Try.func80, Try.ntmps80
          go_wp2
          go_ret
          exact ⟨by rw [HB.out]; simp [h1, h2, h3, h4], rfl⟩
        · have HB := hid (show withinB l.length a n = false by simp [withinB, h4])
          go_enter Try.func80, Try.ntmps80
          go_wp2
          go_ret
          exact ⟨by rw [HB.out]; simp [h4], rfl⟩
      · have HB := hid (show withinB l.length a n = false by simp [withinB, h3])
        go_enter Try.func80, Try.ntmps80
        go_wp2
        go_ret
        exact ⟨by rw [HB.out]; simp [h3], rfl⟩
    · have HB := hid (show withinB l.length a n = false by simp [withinB, h2])
      go_enter Try.func80, Try.ntmps80
      go_wp2
      go_ret
      exact ⟨by rw [HB.out]; simp [h2], rfl⟩
  · have HB := hid (show withinB l.length a n = false by simp [withinB, h1])
    go_enter Try.func80, Try.ntmps80
    go_wp2
    go_ret
    exact ⟨by rw [HB.out]; simp [h1], rfl⟩

set_option maxHeartbeats 400000 in
theorem clone_any (v : Value) (l : List UInt8) (w : World) (h : Rd w v l) (hs : l.length ≤ 140737488355328) :
    Calls Try.prog 76 #[v] w (RetOwn w 5 l) := by
  have H := hid h
  obtain ⟨p, c, rfl, hlc, hcm, hpn, hcell⟩ := h
  unfold maxLen at hcm
  cases p with
  | none =>
    have hc0 := hpn rfl
    have hl0 : l = [] := by
      cases l with
      | nil => rfl
      | cons x r => obtain ⟨_, _, e, _⟩ := hcell 0 (by simp); cases e
    subst hl0
    subst hc0
    clear hcell
    have hnil := fun wx => Lib.run_eql_slice_nil (P := Try.prog) wx 24 5 none 0 0 0 0 Try.underlying24
    go_enter Try.func76, Try.ntmps76
    go_wp2
    go_ret
    exact ⟨_, rfl, Own.nil _ _ _, Below.refl _ _⟩
  | some q =>
    clear hcell
    have hnil := fun wx => Lib.run_eql_slice_nil (P := Try.prog) wx 24 5 (some q) l.length c 0 0 Try.underlying24
    have HB := hid ((Below.refl w.heap.size w).alloc (Nat.le_refl _) (.cells #[] 5 (0, 0)))
    have HO := hid (show Own (w.alloc (.cells #[] 5 (0, 0))) w.heap.size 5 (.slice (some ⟨w.heap.size, 0, none⟩) 0 0) [] from .inr ⟨w.heap.size, [], Nat.le_refl _, rfl, Row.new w 5 [], by simp⟩)
    go_enter Try.func76, Try.ntmps76
    go_wp2_with (at_builtin; refine wpList_append_Own rfl (.tmp 5) (.tmp 6) 24 rfl w.heap.size 5 Try.underlying24 infoU8o _ _ _ _ rfl HO.out rfl (H.out.mono HB.out) (by simpa using hs) HB.out.size ?_)
    intro v3 w3 ho3 hg3
    have HO3 := hid ho3
    have HB3 := hid (HB.out.grown hg3 HB.out.size HO.out.ge)
    clear ho3 hg3
    go_wp2
    go_ret
    exact ⟨_, rfl, by simpa using HO3.out, HB3.out⟩

/-- What Get answers. -/
def getOk (l : List UInt8) (a n : Int) : Bool := sizedB n && withinB l.length a n
def pieceOf (l : List UInt8) (a n : Int) : List UInt8 := (l.drop a.toNat).take n.toNat

theorem piece_take (l : List UInt8) (i k : Nat) (h : i + k < l.length) : (l.drop i).take (k + 1) = (l.drop i).take k ++ [l[i + k]] := by
  rw [List.take_succ_eq_append_getElem (by simp; omega)]
  simp

set_option maxRecDepth 20000 in
set_option maxHeartbeats 400000 in
theorem get_ok (v : Value) (l : List UInt8) (a n : Int) (w : World) (h : Rd w v l) (hok : getOk l a n = true) :
    Calls Try.prog 71 #[v, .int .i64 a, .int .i64 n] w fun e w' => e = .returned (.tuple #[.int .u64 (beVal (pieceOf l a n) : Int), .int .i64 0]) ∧ w = w' := by
  have HK := hid hok
  simp only [getOk, Bool.and_eq_true] at hok
  obtain ⟨hs, hw⟩ := hok
  obtain ⟨i, k, rfl, rfl, hik⟩ := withinB_nat hw
  have H := hid h
  obtain ⟨p, c, rfl, hlc, hcm, hpn, hcell⟩ := h
  unfold maxLen at hcm
  have hk8 : k ≤ 8 := by obtain ⟨m, e, _, h8⟩ := sizedB_nat hs; omega
  go_enter Try.func71, Try.ntmps71
  go_wp2_with fail
  refine (sized_any _ _).mono ?_
  rintro e w1 ⟨rfl, rfl⟩
  rw [hs]
  go_wp2_with fail
  refine (within_any _ l _ _ _ H.out).mono ?_
  rintro e w1 ⟨rfl, rfl⟩
  rw [hw]
  clear hs hw
  go_wp2_with fail
  go_loop [6, 8, 20] (fun x _ y => ∃ j : Nat, j ≤ k ∧ y = .int .i64 j ∧ x = .int .u64 ((beVal ((l.drop i).take j) : Nat) : Int)) (fun _ _ y => k - (intOf y).toNat)
  case atStart => exact ⟨0, Nat.zero_le _, rfl, rfl⟩
  case round =>
    obtain ⟨j, hj, rfl, rfl⟩ := hrel
    by_cases hlt : j < k
    · obtain ⟨b, off, rfl, hc⟩ := hcell (i + j) (by omega)
      have HP := hid (show beVal ((l.drop i).take (j + 1)) = beVal ((l.drop i).take j) * 256 + l[i + j].toNat by rw [piece_take l i j (by omega), beVal_snoc])
      have hx : beVal ((l.drop i).take j) < 72057594037927936 := Nat.lt_of_lt_of_le (beVal_lt _) (pow256_lt (by simp; omega))
      generalize beVal ((l.drop i).take j) = x at *
      have hob := or_byte x l[i + j] hx
      have hb := byte_lt l[i + j]
      clear hcell
      go_wp2
      go_round
      case rel => exact ⟨j + 1, by omega, by go_num, by rw [HP.out]; go_num⟩
      case measure => simp [intOf]; omega
    · obtain rfl : j = k := by omega
      clear hcell
      go_wp2
      go_ret2
      exact ⟨by simp [pieceOf], rfl⟩

set_option maxRecDepth 20000 in
set_option maxHeartbeats 400000 in
theorem get_no (v : Value) (l : List UInt8) (a n : Int) (w : World) (h : Rd w v l) (hno : getOk l a n = false) :
    Calls Try.prog 71 #[v, .int .i64 a, .int .i64 n] w fun e w' => e = .returned (.tuple #[.int .u64 0, .int .i64 1]) ∧ w = w' := by
  simp only [getOk] at hno
  have H := hid h
  obtain ⟨p, c, rfl, hlc, hcm, hpn, hcell⟩ := h
  unfold maxLen at hcm
  clear hcell
  cases hs : sizedB n
  · clear hno
    go_enter Try.func71, Try.ntmps71
    go_wp2_with fail
    refine (sized_any _ _).mono ?_
    rintro e w1 ⟨rfl, rfl⟩
    rw [hs]
    go_wp2_with fail
    go_ret2
    exact ⟨rfl, rfl⟩
  · rw [hs, Bool.true_and] at hno
    go_enter Try.func71, Try.ntmps71
    go_wp2_with fail
    refine (sized_any _ _).mono ?_
    rintro e w1 ⟨rfl, rfl⟩
    rw [hs]
    go_wp2_with fail
    refine (within_any _ l _ _ _ H.out).mono ?_
    rintro e w1 ⟨rfl, rfl⟩
    rw [hno]
    go_wp2_with fail
    go_ret2
    exact ⟨rfl, rfl⟩

/-- What Put answers. -/
def putL (l : List UInt8) (x : Nat) (n : Int) : List UInt8 := if sizedB n = true then l ++ beBytes n.toNat x else l

set_option maxRecDepth 20000 in
set_option maxHeartbeats 400000 in
theorem put_any (v : Value) (l : List UInt8) (x : Nat) (n : Int) (w : World) (h : Rd w v l) (hs : l.length ≤ 140737488355320) (hx : x < 18446744073709551616) :
    Calls Try.prog 70 #[v, .int .u64 (x : Int), .int .i64 n] w (RetOwn w 5 (putL l x n)) := by
  have H := hid h
  obtain ⟨p, c, rfl, hlc, hcm, hpn, hcell⟩ := h
  unfold maxLen at hcm
  clear hcell
  cases hsz : sizedB n
  · have HP := hid (show putL l x n = l by simp [putL, hsz])
    go_enter Try.func70, Try.ntmps70
    go_wp2_with fail
    refine (clone_any _ l _ H.out (by omega)).mono ?_
    rintro e w1 ⟨v1, rfl, ho1, hb1⟩
    have HO1 := hid ho1
    have HB1 := hid hb1
    clear ho1 hb1
    go_wp2_with fail
    refine (sized_any _ _).mono ?_
    rintro e w2 ⟨rfl, rfl⟩
    rw [hsz]
    go_wp2_with fail
    go_ret
    exact ⟨_, rfl, by rw [HP.out]; exact HO1.out, HB1.out⟩
  · have HP := hid (show putL l x n = l ++ beBytes n.toNat x by simp [putL, hsz])
    obtain ⟨k, rfl, hk0, hk8⟩ := sizedB_nat hsz
    go_enter Try.func70, Try.ntmps70
    go_wp2_with fail
    refine (clone_any _ l _ H.out (by omega)).mono ?_
    rintro e w1 ⟨v1, rfl, ho1, hb1⟩
    have HO1 := hid ho1
    have HB1 := hid hb1
    clear ho1 hb1
    go_wp2_with fail
    refine (sized_any _ _).mono ?_
    rintro e w2 ⟨rfl, rfl⟩
    rw [hsz]
    clear hsz
    go_wp2_with fail
    go_loopw [7, 8, 16] (fun o _ y wr => ∃ j : Nat, j ≤ k ∧ y = .int .i64 j ∧ Own wr w.heap.size 5 o (l ++ bePart k x j) ∧ Below w.heap.size w wr) (fun _ _ y _ => k - (intOf y).toNat)
    case atStart => exact ⟨0, Nat.zero_le _, rfl, by simpa [bePart] using HO1.out, HB1.out⟩
    case round =>
      clear HO1 HB1
      obtain ⟨j, hj, rfl, ho, hb⟩ := hrel
      by_cases hlt : j < k
      · have HO := hid ho
        have HB := hid hb
        have HS := hid (bePart_succ k x j)
        have hsb := hid (shr_byte x (8 * (k - 1 - j)))
        clear ho hb
        go_wp2_with (at_builtin; refine wpList_append_Own rfl (.tmp 19) (.tmp 28) 24 rfl w.heap.size 5 Try.underlying24 infoU8o _ _ (l ++ bePart k x j) [UInt8.ofNat (x / 2 ^ (8 * (k - 1 - j)))] rfl (HO.out.alloc _) rfl ?hrd ?hlen ?hbase ?_)
        case hrd => exact rd_new wr 5 _ 1 _ rfl (by simp [bytesV, ← hsb.out]) (by unfold maxLen; omega)
        case hlen => simp [bePart_length]; omega
        case hbase => have := HB.out.size; simp; omega
        intro v3 w3 ho3 hg3
        have HO3 := hid ho3
        have HB3 := hid ((HB.out.alloc HB.out.size (.cells #[.int .u8 ((x : Int) / 2 ^ (8 * (k - 1 - j)) % 256)] 5 (0, 0))).grown hg3 (by have := HB.out.size; simp; omega) HO.out.ge)
        clear ho3 hg3 HO HB
        go_wp2
        go_roundw
        case rel => exact ⟨j + 1, by omega, by go_num, by rw [HS.out]; exact HO3.out, HB3.out⟩
        case measure => simp [intOf]; omega
      · obtain rfl : j = k := by omega
        go_wp2
        go_ret
        exact ⟨_, rfl, by rw [HP.out]; simpa [beBytes] using ho, hb⟩

set_option maxRecDepth 20000 in
set_option maxHeartbeats 400000 in
theorem cut_ok (v : Value) (l : List UInt8) (i k : Nat) (w : World) (h : Rd w v l) (hik : i + k ≤ l.length) (hs : l.length ≤ 140737488355320) :
    Calls Try.prog 72 #[v, .int .i64 (i : Int), .int .i64 (k : Int)] w fun e w' => ∃ v', e = .returned (.tuple #[v', .bool true]) ∧ Own w' w.heap.size 5 v' ((l.drop i).take k) ∧ Below w.heap.size w w' := by
  have hw : withinB l.length (i : Int) (k : Int) = true := by simp [withinB]; omega
  have H := hid h
  obtain ⟨p, c, rfl, hlc, hcm, hpn, hcell⟩ := h
  unfold maxLen at hcm
  clear hcell
  go_enter Try.func72, Try.ntmps72
  go_wp2_with fail
  refine (within_any _ l _ _ _ H.out).mono ?_
  rintro e w1 ⟨rfl, rfl⟩
  rw [hw]
  clear hw
  go_wp2_with fail
  all_goals
    refine (clone_any _ ((l.drop i).take k) _ (by first | exact H.out.cutL i k hik (by assumption) | exact H.out.cutR i k hik (by assumption)) (by simp; omega)).mono ?_
    rintro e w1 ⟨v1, rfl, ho1, hb1⟩
    have HO1 := hid ho1
    have HB1 := hid hb1
    clear ho1 hb1
    go_wp2_with fail
    go_ret2
    exact ⟨_, rfl, HO1.out, HB1.out⟩

theorem cut_no (v : Value) (l : List UInt8) (a n : Int) (w : World) (h : Rd w v l) (hw : withinB l.length a n = false) :
    Calls Try.prog 72 #[v, .int .i64 a, .int .i64 n] w fun e w' => e = .returned (.tuple #[.slice none 0 0, .bool false]) ∧ w = w' := by
  have H := hid h
  obtain ⟨p, c, rfl, hlc, hcm, hpn, hcell⟩ := h
  clear hcell
  go_enter Try.func72, Try.ntmps72
  go_wp2_with fail
  refine (within_any _ l _ _ _ H.out).mono ?_
  rintro e w1 ⟨rfl, rfl⟩
  rw [hw]
  clear hw
  go_wp2_with fail
  go_ret2
  exact ⟨rfl, rfl⟩

theorem round_any (n : Int) (w : World) (h : (Lit.int .i64 n).wf = true) : Calls Try.prog 77 #[.int .i64 n] w fun e w' => e = .returned (.int .i64 (roundI n)) ∧ w = w' := by
  have hb := bounds_i64 h
  clear h
  by_cases h1 : n < 0
  · have HB := hid (show roundI n = 0 by simp [roundI, h1])
    go_enter Try.func77, Try.ntmps77
    go_wp2
    go_ret
    exact ⟨by rw [HB.out]; rfl, rfl⟩
  · by_cases h2 : 4611686018427387904 < n
    · have HB := hid (show roundI n = 0 by simp [roundI, h2])
      go_enter Try.func77, Try.ntmps77
      go_wp2
      go_ret
      exact ⟨by rw [HB.out]; rfl, rfl⟩
    · have HB := hid (show roundI n = (n + 3) / 4 * 4 by unfold roundI; rw [if_neg (by omega)])
      go_enter Try.func77, Try.ntmps77
      have hn : bits .andNot .i64 (n + 3) 3 = (n + 3) / 4 * 4 := by
        obtain ⟨m, rfl⟩ : ∃ m : Nat, n = (m : Int) := ⟨n.toNat, by omega⟩
        have := andNot3 (m + 3) (by omega)
        rw [show ((m + 3 : Nat) : Int) = (m : Int) + 3 by omega] at this
        rw [this]
        omega
      go_wp2
      go_ret
      exact ⟨by rw [HB.out]; rfl, rfl⟩
end Go.Proofs.Ytfiblhdejglpaaa

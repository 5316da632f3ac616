/- Joined: OctProg, NumProg, Copy, OctRef, NumRef, Zeros, OctPad. -/
import Derived.Test.YtiimlanbbfhkjaaDoorRows
import Derived.Test.YtiimlanbbfhkjaaDoorBaseA
import Derived.Test.YtiimlanbbfhkjaaDoorBaseB
import Derived.OpenShut
import Derived.BigQuiet
import Derived.Deep.QuietTactic
set_option linter.unusedSimpArgs false
set_option linter.unusedVariables false






namespace Go.Proofs.YtiimlanbbfhkjaaDoor

open Go.RowKit Go.FL

theorem infoU8o : (Tryd.prog.info? 5).map (fun i => (i.zero, i.size, i.bytes)) = some (some (.int .u8 0), 1, 1) := by kernel_rfl

theorem sized_any (n : Int) (w : World) : Calls Tryd.prog 72 #[.int .i64 n] w fun e w' => e = .returned (.bool (sizedB n)) ∧ w = w' := by
  by_cases h1 : n = 1
  · subst h1
    go_enter Tryd.func72, Tryd.ntmps72
    go_wp2
    go_ret
    exact ⟨rfl, rfl⟩
  · by_cases h2 : n = 2
    · subst h2
      go_enter Tryd.func72, Tryd.ntmps72
      go_wp2
      go_ret
      exact ⟨rfl, rfl⟩
    · by_cases h4 : n = 4
      · subst h4
        go_enter Tryd.func72, Tryd.ntmps72
        go_wp2
        go_ret
        exact ⟨rfl, rfl⟩
      · by_cases h8 : n = 8
        · subst h8
          go_enter Tryd.func72, Tryd.ntmps72
          go_wp2
          go_ret
          exact ⟨rfl, rfl⟩
        · have hb : sizedB n = false := by simp [sizedB, h1, h2, h4, h8]
          have b1 : (n == 1) = false := by simp [h1]
          have b2 : (n == 2) = false := by simp [h2]
          have b4 : (n == 4) = false := by simp [h4]
          have b8 : (n == 8) = false := by simp [h8]
          have HB := hid hb
          clear hb h1 h2 h4 h8
          go_enter Tryd.func72, Tryd.ntmps72
          go_wp2
          go_ret
          exact ⟨by rw [HB.out]; rfl, rfl⟩

theorem within_any (v : Value) (l : List UInt8) (a n : Int) (w : World) (h : Rd w v l) : Calls Tryd.prog 91 #[v, .int .i64 a, .int .i64 n] w fun e w' => e = .returned (.bool (withinB l.length a n)) ∧ w = w' := by
  obtain ⟨p, c, rfl, hlc, hcm, hpn, hcell⟩ := h
  unfold maxLen at hcm
  clear hcell
  by_cases h1 : 0 ≤ a
  · by_cases h2 : 0 ≤ n
    · by_cases h3 : a ≤ (l.length : Int)
      · have h5 : (l.length : Int) - a ≤ 9223372036854775807 := by omega
        by_cases h4 : n ≤ (l.length : Int) - a
        · have HB := hid (show withinB l.length a n = true by simp [withinB, h1, h2, h3, h4])
          go_enter Tryd.func91, Tryd.ntmps91
          go_wp2
          go_ret
          exact ⟨by rw [HB.out]; simp [h1, h2, h3, h4], rfl⟩
        · have HB := hid (show withinB l.length a n = false by simp [withinB, h4])
          go_enter Tryd.func91, Tryd.ntmps91
          go_wp2
          go_ret
          exact ⟨by rw [HB.out]; simp [h4], rfl⟩
      · have HB := hid (show withinB l.length a n = false by simp [withinB, h3])
        go_enter Tryd.func91, Tryd.ntmps91
        go_wp2
        go_ret
        exact ⟨by rw [HB.out]; simp [h3], rfl⟩
    · have HB := hid (show withinB l.length a n = false by simp [withinB, h2])
      go_enter Tryd.func91, Tryd.ntmps91
      go_wp2
      go_ret
      exact ⟨by rw [HB.out]; simp [h2], rfl⟩
  · have HB := hid (show withinB l.length a n = false by simp [withinB, h1])
    go_enter Tryd.func91, Tryd.ntmps91
    go_wp2
    go_ret
    exact ⟨by rw [HB.out]; simp [h1], rfl⟩

set_option maxHeartbeats 400000 in
theorem clone_any (v : Value) (l : List UInt8) (w : World) (h : Rd w v l) (hs : l.length ≤ 140737488355328) :
    Calls Tryd.prog 34 #[v] w (RetOwn w 5 l) := by
  have H := hid h
  obtain ⟨p, c, rfl, hlc, hcm, hpn, hcell⟩ := h
  unfold maxLen at hcm
  cases p with
  | none =>
    have hc0 := hpn rfl
    have hl0 : l = [] := by
      cases l with
      | nil => rfl
      | cons x r => obtain ⟨_, _, e, _⟩ := hcell 0 (by simp); cases e
    subst hl0
    subst hc0
    clear hcell
    have hnil := fun wx => Lib.run_eql_slice_nil (P := Tryd.prog) wx 25 5 none 0 0 0 0 Tryd.underlying25
    go_enter Tryd.func34, Tryd.ntmps34
    go_wp2
    go_ret
    exact ⟨_, rfl, Own.nil _ _ _, Below.refl _ _⟩
  | some q =>
    clear hcell
    have hnil := fun wx => Lib.run_eql_slice_nil (P := Tryd.prog) wx 25 5 (some q) l.length c 0 0 Tryd.underlying25
    have HB := hid ((Below.refl w.heap.size w).alloc (Nat.le_refl _) (.cells #[] 5 (0, 0)))
    have HO := hid (show Own (w.alloc (.cells #[] 5 (0, 0))) w.heap.size 5 (.slice (some ⟨w.heap.size, 0, none⟩) 0 0) [] from .inr ⟨w.heap.size, [], Nat.le_refl _, rfl, Row.new w 5 [], by simp⟩)
    go_enter Tryd.func34, Tryd.ntmps34
    go_wp2_with (at_builtin; refine wpList_append_Own rfl (.tmp 5) (.tmp 6) 25 rfl w.heap.size 5 Tryd.underlying25 infoU8o _ _ _ _ rfl HO.out rfl (H.out.mono HB.out) (by simpa using hs) HB.out.size ?_)
    intro v3 w3 ho3 hg3
    have HO3 := hid ho3
    have HB3 := hid (HB.out.grown hg3 HB.out.size HO.out.ge)
    clear ho3 hg3
    go_wp2
    go_ret
    exact ⟨_, rfl, by simpa using HO3.out, HB3.out⟩

/-- What Get answers. -/
def getOk (l : List UInt8) (a n : Int) : Bool := sizedB n && withinB l.length a n
def pieceOf (l : List UInt8) (a n : Int) : List UInt8 := (l.drop a.toNat).take n.toNat

theorem piece_take (l : List UInt8) (i k : Nat) (h : i + k < l.length) : (l.drop i).take (k + 1) = (l.drop i).take k ++ [l[i + k]] := by
  rw [List.take_succ_eq_append_getElem (by simp; omega)]
  simp

set_option maxRecDepth 20000 in
set_option maxHeartbeats 400000 in
theorem get_ok (v : Value) (l : List UInt8) (a n : Int) (w : World) (h : Rd w v l) (hok : getOk l a n = true) :
    Calls Tryd.prog 78 #[v, .int .i64 a, .int .i64 n] w fun e w' => e = .returned (.tuple #[.int .u64 (beVal (pieceOf l a n) : Int), .int .i64 0]) ∧ w = w' := by
  have HK := hid hok
  simp only [getOk, Bool.and_eq_true] at hok
  obtain ⟨hs, hw⟩ := hok
  obtain ⟨i, k, rfl, rfl, hik⟩ := withinB_nat hw
  have H := hid h
  obtain ⟨p, c, rfl, hlc, hcm, hpn, hcell⟩ := h
  unfold maxLen at hcm
  have hk8 : k ≤ 8 := by obtain ⟨m, e, _, h8⟩ := sizedB_nat hs; omega
  go_enter Tryd.func78, Tryd.ntmps78
  go_wp2_with fail
  refine (sized_any _ _).mono ?_
  rintro e w1 ⟨rfl, rfl⟩
  rw [hs]
  go_wp2_with fail
  refine (within_any _ l _ _ _ H.out).mono ?_
  rintro e w1 ⟨rfl, rfl⟩
  rw [hw]
  clear hs hw
  go_wp2_with fail
  go_loop [6, 8, 20] (fun x _ y => ∃ j : Nat, j ≤ k ∧ y = .int .i64 j ∧ x = .int .u64 ((beVal ((l.drop i).take j) : Nat) : Int)) (fun _ _ y => k - (intOf y).toNat)
  case atStart => exact ⟨0, Nat.zero_le _, rfl, rfl⟩
  case round =>
    obtain ⟨j, hj, rfl, rfl⟩ := hrel
    by_cases hlt : j < k
    · obtain ⟨b, off, rfl, hc⟩ := hcell (i + j) (by omega)
      have HP := hid (show beVal ((l.drop i).take (j + 1)) = beVal ((l.drop i).take j) * 256 + l[i + j].toNat by rw [piece_take l i j (by omega), beVal_snoc])
      have hx : beVal ((l.drop i).take j) < 72057594037927936 := Nat.lt_of_lt_of_le (beVal_lt _) (pow256_lt (by simp; omega))
      generalize beVal ((l.drop i).take j) = x at *
      have hob := or_byte x l[i + j] hx
      have hb := byte_lt l[i + j]
      clear hcell
      go_wp2
      go_round
      case rel => exact ⟨j + 1, by omega, by go_num, by rw [HP.out]; go_num⟩
      case measure => simp [intOf]; omega
    · obtain rfl : j = k := by omega
      clear hcell
      go_wp2
      go_ret2
      exact ⟨by simp [pieceOf], rfl⟩

set_option maxRecDepth 20000 in
set_option maxHeartbeats 400000 in
theorem get_no (v : Value) (l : List UInt8) (a n : Int) (w : World) (h : Rd w v l) (hno : getOk l a n = false) :
    Calls Tryd.prog 78 #[v, .int .i64 a, .int .i64 n] w fun e w' => e = .returned (.tuple #[.int .u64 0, .int .i64 1]) ∧ w = w' := by
  simp only [getOk] at hno
  have H := hid h
  obtain ⟨p, c, rfl, hlc, hcm, hpn, hcell⟩ := h
  unfold maxLen at hcm
  clear hcell
  cases hs : sizedB n
  · clear hno
    go_enter Tryd.func78, Tryd.ntmps78
    go_wp2_with fail
    refine (sized_any _ _).mono ?_
    rintro e w1 ⟨rfl, rfl⟩
    rw [hs]
    go_wp2_with fail
    go_ret2
    exact ⟨rfl, rfl⟩
  · rw [hs, Bool.true_and] at hno
    go_enter Tryd.func78, Tryd.ntmps78
    go_wp2_with fail
    refine (sized_any _ _).mono ?_
    rintro e w1 ⟨rfl, rfl⟩
    rw [hs]
    go_wp2_with fail
    refine (within_any _ l _ _ _ H.out).mono ?_
    rintro e w1 ⟨rfl, rfl⟩
    rw [hno]
    go_wp2_with fail
    go_ret2
    exact ⟨rfl, rfl⟩

/-- What Put answers. -/
def putL (l : List UInt8) (x : Nat) (n : Int) : List UInt8 := if sizedB n = true then l ++ beBytes n.toNat x else l

set_option maxRecDepth 20000 in
set_option maxHeartbeats 400000 in
theorem put_any (v : Value) (l : List UInt8) (x : Nat) (n : Int) (w : World) (h : Rd w v l) (hs : l.length ≤ 140737488355320) (hx : x < 18446744073709551616) :
    Calls Tryd.prog 63 #[v, .int .u64 (x : Int), .int .i64 n] w (RetOwn w 5 (putL l x n)) := by
  have H := hid h
  obtain ⟨p, c, rfl, hlc, hcm, hpn, hcell⟩ := h
  unfold maxLen at hcm
  clear hcell
  cases hsz : sizedB n
  · have HP := hid (show putL l x n = l by simp [putL, hsz])
    go_enter Tryd.func63, Tryd.ntmps63
    go_wp2_with fail
    refine (clone_any _ l _ H.out (by omega)).mono ?_
    rintro e w1 ⟨v1, rfl, ho1, hb1⟩
    have HO1 := hid ho1
    have HB1 := hid hb1
    clear ho1 hb1
    go_wp2_with fail
    refine (sized_any _ _).mono ?_
    rintro e w2 ⟨rfl, rfl⟩
    rw [hsz]
    go_wp2_with fail
    go_ret
    exact ⟨_, rfl, by rw [HP.out]; exact HO1.out, HB1.out⟩
  · have HP := hid (show putL l x n = l ++ beBytes n.toNat x by simp [putL, hsz])
    obtain ⟨k, rfl, hk0, hk8⟩ := sizedB_nat hsz
    go_enter Tryd.func63, Tryd.ntmps63
    go_wp2_with fail
    refine (clone_any _ l _ H.out (by omega)).mono ?_
    rintro e w1 ⟨v1, rfl, ho1, hb1⟩
    have HO1 := hid ho1
    have HB1 := hid hb1
    clear ho1 hb1
    go_wp2_with fail
    refine (sized_any _ _).mono ?_
    rintro e w2 ⟨rfl, rfl⟩
    rw [hsz]
    clear hsz
    go_wp2_with fail
    go_loopw [7, 8, 16] (fun o _ y wr => ∃ j : Nat, j ≤ k ∧ y = .int .i64 j ∧ Own wr w.heap.size 5 o (l ++ bePart k x j) ∧ Below w.heap.size w wr) (fun _ _ y _ => k - (intOf y).toNat)
    case atStart => exact ⟨0, Nat.zero_le _, rfl, by simpa [bePart] using HO1.out, HB1.out⟩
    case round =>
      clear HO1 HB1
      obtain ⟨j, hj, rfl, ho, hb⟩ := hrel
      by_cases hlt : j < k
      · have HO := hid ho
        have HB := hid hb
        have HS := hid (bePart_succ k x j)
        have hsb := hid (shr_byte x (8 * (k - 1 - j)))
        clear ho hb
        go_wp2_with (at_builtin; refine wpList_append_Own rfl (.tmp 19) (.tmp 28) 25 rfl w.heap.size 5 Tryd.underlying25 infoU8o _ _ (l ++ bePart k x j) [UInt8.ofNat (x / 2 ^ (8 * (k - 1 - j)))] rfl (HO.out.alloc _) rfl ?hrd ?hlen ?hbase ?_)
        case hrd => exact rd_new wr 5 _ 1 _ rfl (by simp [bytesV, ← hsb.out]) (by unfold maxLen; omega)
        case hlen => simp [bePart_length]; omega
        case hbase => have := HB.out.size; simp; omega
        intro v3 w3 ho3 hg3
        have HO3 := hid ho3
        have HB3 := hid ((HB.out.alloc HB.out.size (.cells #[.int .u8 ((x : Int) / 2 ^ (8 * (k - 1 - j)) % 256)] 5 (0, 0))).grown hg3 (by have := HB.out.size; simp; omega) HO.out.ge)
        clear ho3 hg3 HO HB
        go_wp2
        go_roundw
        case rel => exact ⟨j + 1, by omega, by go_num, by rw [HS.out]; exact HO3.out, HB3.out⟩
        case measure => simp [intOf]; omega
      · obtain rfl : j = k := by omega
        go_wp2
        go_ret
        exact ⟨_, rfl, by rw [HP.out]; simpa [beBytes] using ho, hb⟩

set_option maxRecDepth 20000 in
set_option maxHeartbeats 400000 in
theorem cut_ok (v : Value) (l : List UInt8) (i k : Nat) (w : World) (h : Rd w v l) (hik : i + k ≤ l.length) (hs : l.length ≤ 140737488355320) :
    Calls Tryd.prog 84 #[v, .int .i64 (i : Int), .int .i64 (k : Int)] w fun e w' => ∃ v', e = .returned (.tuple #[v', .bool true]) ∧ Own w' w.heap.size 5 v' ((l.drop i).take k) ∧ Below w.heap.size w w' := by
  have hw : withinB l.length (i : Int) (k : Int) = true := by simp [withinB]; omega
  have H := hid h
  obtain ⟨p, c, rfl, hlc, hcm, hpn, hcell⟩ := h
  unfold maxLen at hcm
  clear hcell
  go_enter Tryd.func84, Tryd.ntmps84
  go_wp2_with fail
  refine (within_any _ l _ _ _ H.out).mono ?_
  rintro e w1 ⟨rfl, rfl⟩
  rw [hw]
  clear hw
  go_wp2_with fail
  all_goals
    refine (clone_any _ ((l.drop i).take k) _ (by first | exact H.out.cutL i k hik (by assumption) | exact H.out.cutR i k hik (by assumption)) (by simp; omega)).mono ?_
    rintro e w1 ⟨v1, rfl, ho1, hb1⟩
    have HO1 := hid ho1
    have HB1 := hid hb1
    clear ho1 hb1
    go_wp2_with fail
    go_ret2
    exact ⟨_, rfl, HO1.out, HB1.out⟩

theorem cut_no (v : Value) (l : List UInt8) (a n : Int) (w : World) (h : Rd w v l) (hw : withinB l.length a n = false) :
    Calls Tryd.prog 84 #[v, .int .i64 a, .int .i64 n] w fun e w' => e = .returned (.tuple #[.slice none 0 0, .bool false]) ∧ w = w' := by
  have H := hid h
  obtain ⟨p, c, rfl, hlc, hcm, hpn, hcell⟩ := h
  clear hcell
  go_enter Tryd.func84, Tryd.ntmps84
  go_wp2_with fail
  refine (within_any _ l _ _ _ H.out).mono ?_
  rintro e w1 ⟨rfl, rfl⟩
  rw [hw]
  clear hw
  go_wp2_with fail
  go_ret2
  exact ⟨rfl, rfl⟩

theorem round_any (n : Int) (w : World) (h : (Lit.int .i64 n).wf = true) : Calls Tryd.prog 71 #[.int .i64 n] w fun e w' => e = .returned (.int .i64 (roundI n)) ∧ w = w' := by
  have hb := bounds_i64 h
  clear h
  by_cases h1 : n < 0
  · have HB := hid (show roundI n = 0 by simp [roundI, h1])
    go_enter Tryd.func71, Tryd.ntmps71
    go_wp2
    go_ret
    exact ⟨by rw [HB.out]; rfl, rfl⟩
  · by_cases h2 : 4611686018427387904 < n
    · have HB := hid (show roundI n = 0 by simp [roundI, h2])
      go_enter Tryd.func71, Tryd.ntmps71
      go_wp2
      go_ret
      exact ⟨by rw [HB.out]; rfl, rfl⟩
    · have HB := hid (show roundI n = (n + 3) / 4 * 4 by unfold roundI; rw [if_neg (by omega)])
      go_enter Tryd.func71, Tryd.ntmps71
      have hn : bits .andNot .i64 (n + 3) 3 = (n + 3) / 4 * 4 := by
        obtain ⟨m, rfl⟩ : ∃ m : Nat, n = (m : Int) := ⟨n.toNat, by omega⟩
        have := andNot3 (m + 3) (by omega)
        rw [show ((m + 3 : Nat) : Int) = (m : Int) + 3 by omega] at this
        rw [this]
        omega
      go_wp2
      go_ret
      exact ⟨by rw [HB.out]; rfl, rfl⟩
end Go.Proofs.YtiimlanbbfhkjaaDoor




namespace Go.FL

theorem num_size {n : Nat} (hn : n = 1 ∨ n = 2 ∨ n = 4 ∨ n = 8) : sizedB (n : Int) = true := by
  simp [sizedB]
  omega
end Go.FL

namespace Go.Proofs.YtiimlanbbfhkjaaDoor

open Go.RowKit Go.FL

theorem putL_of (l : List UInt8) (x n : Nat) (hn : n = 1 ∨ n = 2 ∨ n = 4 ∨ n = 8) : putL l x (n : Int) = l ++ beBytes n x := by
  rw [putL, if_pos (num_size hn), Int.toNat_natCast]

theorem put_at (v : Value) (l : List UInt8) (x n : Nat) (X N : Int) (hX : X = (x : Int)) (hN : N = (n : Int)) (hn : n = 1 ∨ n = 2 ∨ n = 4 ∨ n = 8) (w : World) (h : Rd w v l) (hs : l.length ≤ 140737488355320) (hx : x < 18446744073709551616) :
    Calls Tryd.prog 63 #[v, .int .u64 X, .int .i64 N] w (RetOwn w 5 (l ++ beBytes n x)) := by
  subst hX hN
  rw [← putL_of l x n hn]
  exact put_any v l x n w h hs hx
/-- What Get answers, whether it is within or not. -/
def GetsNum (l : List UInt8) (a n : Nat) (w : World) (e : Ending) (w' : World) : Prop :=
  ∃ er : Int, e = .returned (.tuple #[.int .u64 (numAt l a n : Int), .int .i64 er]) ∧ Below w.heap.size w w' ∧ er = if a + n ≤ l.length then 0 else 1
theorem get_at (v : Value) (l : List UInt8) (a n : Nat) (A' N : Int) (hA : A' = (a : Int)) (hN : N = (n : Int)) (hn : n = 1 ∨ n = 2 ∨ n = 4 ∨ n = 8) (w : World) (h : Rd w v l) :
    Calls Tryd.prog 78 #[v, .int .i64 A', .int .i64 N] w fun e w' => ∃ er : Int, e = .returned (.tuple #[.int .u64 (numAt l a n : Int), .int .i64 er]) ∧ w = w' ∧ er = if a + n ≤ l.length then 0 else 1 := by
  subst hA hN
  by_cases hw : a + n ≤ l.length
  · have hok : getOk l (a : Int) (n : Int) = true := by
      rw [getOk, num_size hn]
      simp [withinB]
      omega
    refine (get_ok v l a n w h hok).mono ?_
    rintro e w' ⟨rfl, rfl⟩
    refine ⟨0, ?_, rfl, by rw [if_pos hw]⟩
    rw [numAt, if_pos hw]
    simp [pieceOf]
  · have hno : getOk l (a : Int) (n : Int) = false := by
      rw [getOk, num_size hn]
      simp [withinB]
      omega
    refine (get_no v l a n w h hno).mono ?_
    rintro e w' ⟨rfl, rfl⟩
    refine ⟨1, ?_, rfl, by rw [if_neg hw]⟩
    rw [numAt, if_neg hw]
    rfl
theorem get_within (v : Value) (l : List UInt8) (a n : Nat) (A' N : Int) (hA : A' = (a : Int)) (hN : N = (n : Int)) (hn : n = 1 ∨ n = 2 ∨ n = 4 ∨ n = 8) (w : World) (h : Rd w v l) (hw : a + n ≤ l.length) :
    Calls Tryd.prog 78 #[v, .int .i64 A', .int .i64 N] w fun e w' => e = .returned (.tuple #[.int .u64 (numAt l a n : Int), .int .i64 0]) ∧ w = w' := by
  refine (get_at v l a n A' N hA hN hn w h).mono ?_
  rintro e w' ⟨er, h1, h2, h3⟩
  rw [if_pos hw] at h3
  subst h3
  exact ⟨h1, h2⟩
theorem cut_at (v : Value) (l : List UInt8) (i k : Nat) (a n : Int) (ha : a = (i : Int)) (hn : n = (k : Int)) (w : World) (h : Rd w v l) (hik : i + k ≤ l.length) (hs : l.length ≤ 140737488355320) :
    Calls Tryd.prog 84 #[v, .int .i64 a, .int .i64 n] w fun e w' => ∃ v', e = .returned (.tuple #[v', .bool true]) ∧ Own w' w.heap.size 5 v' ((l.drop i).take k) ∧ Below w.heap.size w w' := by
  subst ha hn
  exact cut_ok v l i k w h hik hs
end Go.Proofs.YtiimlanbbfhkjaaDoor






namespace Go.Proofs.YtiimlanbbfhkjaaDoor

open Go.RowKit Go.FL

theorem infoU8 : (Tryd.prog.info? 5).map (fun i => (i.zero, i.size, i.bytes)) = some (some (.int .u8 0), 1, 1) := by kernel_rfl

theorem set_step (l : List UInt8) (k : Nat) (h : k < l.length) : (l.take k ++ List.replicate (l.length - k) 0).set k l[k] = l.take (k + 1) ++ List.replicate (l.length - (k + 1)) 0 := by
  obtain ⟨m, h1, h2⟩ : ∃ m, l.length - k = m + 1 ∧ l.length - (k + 1) = m := ⟨_, by omega, rfl⟩
  have h3 : (l.take k).length = k := by simp; omega
  rw [h1, h2, List.replicate_succ, List.set_append, h3, if_neg (Nat.lt_irrefl k), Nat.sub_self, List.set_cons_zero, List.take_succ_eq_append_getElem h, List.append_assoc]
  rfl

end Go.Proofs.YtiimlanbbfhkjaaDoor




namespace Go.Proofs.YtiimlanbbfhkjaaDoor

open Go.RowKit Go.FL

end Go.Proofs.YtiimlanbbfhkjaaDoor




namespace Go.Proofs.YtiimlanbbfhkjaaDoor

open Go.RowKit Go.FL

end Go.Proofs.YtiimlanbbfhkjaaDoor



namespace Go.FL

open Go.RowKit

theorem setRow_of (w : World) (g e : Nat) (l m sp : List UInt8) (h : Row w g e (l ++ sp)) (hm : m.length ≤ sp.length) (P : Program) :
    (storeCells ((⟨g, 0, none⟩ : Addr).add (l.length * 1)) (bytesV m)).run P w = .ok () (w.setRow g ((bytesV (l ++ sp)).toArray.toList.take l.length ++ bytesV m ++ (bytesV (l ++ sp)).toArray.toList.drop (l.length + m.length)).toArray) := by
  have hst := run_storeCells_at P g (l.length * 1) e (bytesV m) 0 (bytesV (l ++ sp)).toArray w h (by simp [bytesV_length]; omega) (bytesV_oneCell m)
  simp only [Nat.add_zero, Nat.mul_one, bytesV_length] at hst
  simpa [Addr.add_lit] using hst

theorem run_append_zeros {P : Program} (w : World) (base : Nat) (t u ty e : TypeId) (k : IntKind) (ht : P.underlying t = some (.slice e)) (hu : P.underlying u = some (.int k)) (hi : (P.info? e).map (fun i => (i.zero, i.size, i.bytes)) = some (some (.int .u8 0), 1, 1))
    (v : Value) (l : List UInt8) (n : Nat) (hown : Own w base e v l) (hlen : l.length + n ≤ 140737488355328) (hbase : base ≤ w.heap.size) :
    ∃ v' w', (Builtin.append_ #[t, u] ty #[v, .int .i64 (n : Int)]).run P w = .ok v' w' ∧ Own w' base e v' (l ++ List.replicate n 0) ∧ w.grownBy w' v.ownBlock := by
  obtain ⟨i, h1, h2, h3, h4⟩ := info_parts hi
  have hwr : IntKind.i64.wrap (n : Int) = (n : Int) := by rw [IntKind.wrap_i64]; omega
  have hn0 : ¬ ((n : Int) < 0) := by omega
  have hb0 : ¬ ((n : Int) * (i.bytes : Int) > 281474976710656) := by rw [h4]; omega
  have hz : Builtin.zeroCells (Value.int .u8 0).cells n = (bytesV (List.replicate n 0)).toArray := by
    apply Array.ext'
    rw [zeroCells_u8]
  have grown : ∀ (old : Nat), old < l.length + n → ∀ (row : Option Nat),
      Own (w.drew.alloc (.cells ((bytesV l).toArray ++ (bytesV (List.replicate n 0)).toArray ++ Builtin.zeroCells (Value.int .u8 0).cells (grownCap w (l.length + n) old e - (l.length + n))) e)) base e
        (.slice (some ⟨w.heap.size, 0, none⟩) (l.length + n) (grownCap w (l.length + n) old e)) (l ++ List.replicate n 0) ∧
      w.grownBy (w.drew.alloc (.cells ((bytesV l).toArray ++ (bytesV (List.replicate n 0)).toArray ++ Builtin.zeroCells (Value.int .u8 0).cells (grownCap w (l.length + n) old e - (l.length + n))) e)) row := by
    intro old _ row
    have hge := grownCap_ge w (l.length + n) old e
    have hcm' : grownCap w (l.length + n) old e ≤ maxLen := grownCap_le_maxLen w (l.length + n) old e (by unfold maxLen; omega)
    refine ⟨.inr ⟨w.heap.size, List.replicate (grownCap w (l.length + n) old e - (l.length + n)) 0, hbase, ?_, ?_, ?_⟩, ⟨rfl, rfl, rfl, by simp, fun k hk _ => Below.heap_alloc w.drew _ k hk⟩⟩
    · simp
      omega
    · have hcs : (bytesV l).toArray ++ (bytesV (List.replicate n 0)).toArray ++ Builtin.zeroCells (Value.int .u8 0).cells (grownCap w (l.length + n) old e - (l.length + n)) = (bytesV (l ++ List.replicate n 0 ++ List.replicate (grownCap w (l.length + n) old e - (l.length + n)) 0)).toArray := by
        apply Array.ext'
        simp only [Array.toList_append, zeroCells_u8, bytesV_append]
      rw [hcs]
      exact heap_alloc_new w.drew _
    · simp
      omega
  clear hb0
  by_cases hn : n = 0
  · subst hn
    have hw0 : IntKind.i64.wrap 0 = 0 := by decide
    clear grown
    refine ⟨v, w, ?_, by simpa using hown, ⟨rfl, rfl, rfl, Nat.le_refl _, fun _ _ _ => rfl⟩⟩
    rcases hown with ⟨rfl, rfl⟩ | ⟨g, sp, _, rfl, _, _⟩
    · simp [Builtin.append_, run_underlying ht, run_underlying hu, sizeOf, typeInfo, h1, asInt, asIntOf, hw0]
    · simp [Builtin.append_, run_underlying ht, run_underlying hu, sizeOf, typeInfo, h1, asInt, asIntOf, hw0, storeCells]
  · rcases hown with ⟨rfl, rfl⟩ | ⟨g, sp, hbg, rfl, hrow, hcap⟩
    · have hgr := grown 0 (by simp; omega) (Value.ownBlock (.slice none 0 0))
      have h48 : ¬ (281474976710656 < Builtin.nextslicecap n 0 * i.bytes) := by rw [nextslicecap_zero (by omega)]; rw [h4]; simp at hlen; omega
      have h63 : ¬ ((n : Int) > 9223372036854775807) := by simp at hlen; omega
      clear grown
      simp only [List.length_nil, Nat.zero_add, List.nil_append, bytesV, List.map_nil, Array.empty_append] at hgr
      have hb1 : ¬ (281474976710656 < (n : Int) * (i.bytes : Int)) := by rw [h4]; simp at hlen; omega
      have h63' : ¬ (9223372036854775807 < (n : Int)) := h63
      have hrun : (Builtin.append_ #[t, u] ty #[.slice none 0 0, .int .i64 (n : Int)]).run P w = .ok (.slice (some ⟨w.heap.size, 0, none⟩) n (grownCap w n 0 e)) (w.drew.alloc (.cells ((bytesV (List.replicate n 0)).toArray ++ Builtin.zeroCells (Value.int .u8 0).cells (grownCap w n 0 e - n)) e)) := by
        simp [Builtin.append_, run_underlying ht, run_underlying hu, sizeOf, typeInfo, zeroValue, h1, h2, h3, asInt, asIntOf, hwr, hn, hn0, h48, hb1, h63', hz, run_firstCells_none, Question.forced, newRow, grownCap]
      refine ⟨_, _, hrun, hgr.1, hgr.2⟩
    · by_cases hroom : n ≤ sp.length
      · have hb1 : ¬ (281474976710656 < (n : Int) * (i.bytes : Int)) := by rw [h4]; omega
        have hst := setRow_of w g e l (List.replicate n 0) sp hrow (by simpa using hroom) P
        rw [List.length_replicate] at hst
        have hst' := hst
        simp at hst'
        have hrun : (Builtin.append_ #[t, u] ty #[.slice (some ⟨g, 0, none⟩) l.length (l.length + sp.length), .int .i64 (n : Int)]).run P w = .ok (.slice (some ⟨g, 0, none⟩) (l.length + n) (l.length + sp.length)) (w.setRow g ((bytesV (l ++ sp)).toArray.toList.take l.length ++ bytesV (List.replicate n 0) ++ (bytesV (l ++ sp)).toArray.toList.drop (l.length + n)).toArray) := by
          simp [Builtin.append_, run_underlying ht, run_underlying hu, sizeOf, typeInfo, zeroValue, h1, h2, h3, asInt, asIntOf, hwr, hn, hn0, hb1, hroom, hz, hst']
        refine ⟨_, _, hrun, .inr ⟨g, sp.drop n, hbg, ?_, ?_, ?_⟩, ⟨rfl, rfl, rfl, by simp, fun k _ hk => setRow_other w g k _ (fun e => hk (by simp [Value.ownBlock, e]))⟩⟩
        · simp
          omega
        · have hcs : (List.take l.length (bytesV (l ++ sp)).toArray.toList ++ bytesV (List.replicate n 0) ++ List.drop (l.length + n) (bytesV (l ++ sp)).toArray.toList) = bytesV (l ++ List.replicate n 0 ++ sp.drop n) := by
            simp only [bytesV_append, bytesV_drop]
            have e1 : (bytesV l).length = l.length := bytesV_length l
            rw [List.take_append_of_le_length (by omega), List.take_of_length_le (by omega), List.drop_append, e1]
            simp
            omega
          rw [hcs]
          exact setRow_heap w g _ _ e _ hrow
        · simp
          omega
      · have holds : ∀ j u, (bytesV l)[j]? = some u → w.drew.cell? ((⟨g, 0, none⟩ : Addr).add j) = some u := by
          intro j u hu
          obtain ⟨hj, rfl⟩ := bytesV_get l j u hu
          have := hrow.cell j (by simp; omega)
          rw [Addr.add_lit, Nat.zero_add]
          show w.cell? _ = _
          rw [this]
          simp [hj]
        have hfo := run_firstCells_some (P := P) w.drew i.size l.length ⟨g, 0, none⟩ l.length (l.length + sp.length) (bytesV l) (by rw [bytesV_length, h3]; omega) holds
        rw [h3] at hfo
        have hgr := grown (l.length + sp.length) (by omega) (Value.ownBlock (.slice (some ⟨g, 0, none⟩) l.length (l.length + sp.length)))
        have hb1 : ¬ (281474976710656 < (n : Int) * (i.bytes : Int)) := by rw [h4]; omega
        have h63' : ¬ (9223372036854775807 < (l.length : Int) + (n : Int)) := by omega
        have hne : ¬ (l.length + n ≤ l.length + sp.length) := by omega
        have h48 : ¬ (281474976710656 < Builtin.nextslicecap (l.length + n) (l.length + sp.length) * i.bytes) := by
          have := growslice_fits (need := l.length + n) (old := l.length + sp.length) (bytes := i.bytes) (by omega) (by rw [h4]; omega)
          omega
        have hrun : (Builtin.append_ #[t, u] ty #[.slice (some ⟨g, 0, none⟩) l.length (l.length + sp.length), .int .i64 (n : Int)]).run P w = .ok (.slice (some ⟨w.heap.size, 0, none⟩) (l.length + n) (grownCap w (l.length + n) (l.length + sp.length) e)) (w.drew.alloc (.cells ((bytesV l).toArray ++ (bytesV (List.replicate n 0)).toArray ++ Builtin.zeroCells (Value.int .u8 0).cells (grownCap w (l.length + n) (l.length + sp.length) e - (l.length + n))) e)) := by
          simp [Builtin.append_, run_underlying ht, run_underlying hu, sizeOf, typeInfo, zeroValue, h1, h2, h3, asInt, asIntOf, hwr, hn, hn0, hb1, hroom, h63', h48, hz, hfo, Question.forced, newRow, grownCap]
          congr 2
          apply Array.ext'
          simp [List.append_assoc]
        exact ⟨_, _, hrun, hgr.1, hgr.2⟩

/-- The same as a step of the walk. -/
theorem wpList_append_zeros {P : Program} {w : World} {ops : Array Oper} {rest : List Oper} {o : Oper} {a : Act} {Q : Exit → Act → World → Prop} (hgd : o.guard = none) (s x : Operand) (t u : TypeId)
    (ho : o.op = .call { callee := .builtin .append, args := #[s, x], argTypes := #[t, u] })
    (base e : Nat) (k : IntKind) (ht : P.underlying t = some (.slice e)) (hu : P.underlying u = some (.int k)) (hi : (P.info? e).map (fun i => (i.zero, i.size, i.bytes)) = some (some (.int .u8 0), 1, 1))
    (v : Value) (l : List UInt8) (n : Nat) (hs : a.eval s = v) (hown : Own w base e v l) (N : Int) (hx : a.eval x = .int .i64 N) (hN : N = (n : Int)) (hlen : l.length + n ≤ 140737488355328) (hbase : base ≤ w.heap.size)
    (h : ∀ v' w', Own w' base e v' (l ++ List.replicate n 0) → w.grownBy w' v.ownBlock → wpList P ops Q rest (a.put o.dst v') w') : wpList P ops Q (o :: rest) a w := by
  subst hN
  refine wpList_plain hgd fun K hK => ?_
  obtain ⟨v', w', hr, h2, h3⟩ := run_append_zeros (P := P) w base t u o.type e k ht hu hi v l n hown hlen hbase
  unfold Oper.wp execOp
  simp only [ho, resolve, invoke, builtin, Sem.run_bind, Sem.run_pure, Result.andThen_ok, List.map_toArray, List.map_cons, List.map_nil, hs, hx, hr]
  exact hK _ _ (h v' w' h2 h3)
end Go.FL




namespace Go.Proofs.YtiimlanbbfhkjaaDoor

open Go.RowKit Go.FL

set_option maxRecDepth 20000 in
set_option maxHeartbeats 400000 in
theorem pad_any (v : Value) (l : List UInt8) (w : World) (h : Rd w v l) (hs : l.length ≤ 140737488355300) :
    Calls Tryd.prog 60 #[v] w (RetOwn w 5 (padded l)) := by
  have H := hid h
  obtain ⟨p, c, rfl, hlc, hcm, hpn, hcell⟩ := h
  unfold maxLen at hcm
  clear hcell
  have hr := roundN_le l.length
  have hr2 := roundN_lt l.length
  have HRI := hid (roundI_nat l.length (by omega))
  have HP := hid (show padded l = l ++ List.replicate (roundN l.length - l.length) 0 from rfl)
  generalize roundN l.length = r at *
  go_enter Tryd.func60, Tryd.ntmps60
  go_wp2_with fail
  refine (clone_any _ l _ H.out (by omega)).mono ?_
  rintro e w1 ⟨v1, rfl, ho1, hb1⟩
  have HO1 := hid ho1
  have HB1 := hid hb1
  clear ho1 hb1
  go_wp2_with fail
  refine (round_any _ _ (WalkArith.wf_i64 (by omega))).mono ?_
  rintro e w2 ⟨rfl, rfl⟩
  rw [HRI.out]
  go_wp2_with (at_builtin; refine wpList_append_zeros rfl (.tmp 4) (.tmp 10) 25 3 rfl w.heap.size 5 .i64 Tryd.underlying25 Tryd.underlying3 infoU8o _ l (r - l.length) rfl HO1.out _ rfl (by omega) (by omega) HB1.out.size ?_)
  intro v3 w3 ho3 hg3
  have HO3 := hid ho3
  have HB3 := hid (HB1.out.grown hg3 HB1.out.size HO1.out.ge)
  clear ho3 hg3
  go_wp2
  go_ret
  exact ⟨_, rfl, by rw [HP.out]; exact HO3.out, HB3.out⟩
end Go.Proofs.YtiimlanbbfhkjaaDoor

/- ChunkLengths: the walk of the law. Conditions: none but what the row reads. -/
import Derived.Test.YtbjmakckljjbiaaChunkWorks
namespace Go.FL
open Go.RowKit
theorem two_bytes (n : Nat) (h : n < 65536) : beVal [UInt8.ofNat (n / 256), UInt8.ofNat n] = n := by
  have := beVal_of 2 n (by omega)
  rw [show beBytes 2 n = [UInt8.ofNat (n / 256), UInt8.ofNat n] by simp [beBytes, bePart, List.range_succ]] at this
  exact this
def lenHead (k : UInt8) (n : Nat) : List UInt8 := [k, 0, UInt8.ofNat (n / 256), UInt8.ofNat n]
theorem lenRow (k : UInt8) (n no : Nat) (h : n < 65536) : chkLen (lenHead k n ++ List.replicate no 0) = n := by
  rw [chkLen]
  exact two_bytes n h
theorem lenTells (k : UInt8) (n no : Nat) (h : n < 65536) : (n < 4 ∨ 4 + no < roundN n → chkOk (lenHead k n ++ List.replicate no 0) = false) ∧
    (4 ≤ n → roundN n ≤ 4 + no → ∃ b, b.length = n - 4 ∧ chkTells (lenHead k n ++ List.replicate no 0) = (⟨k, 0, b⟩, roundN n, 0)) := by
  have hl := lenRow k n no h
  have hlen : (lenHead k n ++ List.replicate no (0 : UInt8)).length = 4 + no := by simp [lenHead]; omega
  have hr := roundN_le n
  constructor
  · intro hc
    rw [Bool.eq_false_iff]
    intro hok
    simp only [chkOk, decide_eq_true_eq, hl, hlen] at hok
    omega
  · intro h4 hrn
    have hok : chkOk (lenHead k n ++ List.replicate no 0) = true := by
      simp only [chkOk, decide_eq_true_eq, hl, hlen]
      refine ⟨by omega, h4, hrn, ?_⟩
      intro b hb
      rw [chkPad, hl] at hb
      have hb2 := List.mem_of_mem_take hb
      have e : (lenHead k n ++ List.replicate no (0 : UInt8)).drop n = List.replicate (no - (n - 4)) 0 := by
        rw [List.drop_append, List.drop_eq_nil_of_le (by simp [lenHead]; omega), List.nil_append, show (lenHead k n).length = 4 from rfl, List.drop_replicate]
      rw [e] at hb2
      exact (List.mem_replicate.1 hb2).2
    refine ⟨(chkOf (lenHead k n ++ List.replicate no 0)).b, ?_, ?_⟩
    · rw [chkOf_len _ (by omega) (by omega), hl]
    · rw [chkTells, if_pos hok, chkSize, hl]
      rfl
end Go.FL
namespace Go.Proofs.Ytbjmakckljjbiaa
open Go.RowKit Go.FL Go.ChangeShapes

set_option maxRecDepth 20000 in
set_option maxHeartbeats 2000000 in
theorem chunkLengths_walk {w : World} (ki : Int) (hk : (Lit.int .u8 ki).wf = true) (le : Int) (hle : (Lit.int .u16 le).wf = true) (no : Int) (hno : (Lit.int .u16 no).wf = true) :
    Calls Try.prog 9 #[.int .u8 ki, .int .u16 le, .int .u16 no] w fun e w' => e = .returned (.bool true) ∧ Below w.heap.size w w' := by
  obtain ⟨kk, rfl⟩ := u8_of _ hk
  have bl := bounds_u16 hle
  have bn := bounds_u16 hno
  clear hk hle hno
  obtain ⟨n, rfl⟩ : ∃ n : Nat, le = (n : Int) := ⟨le.toNat, by omega⟩
  obtain ⟨m, rfl⟩ : ∃ m : Nat, no = (m : Int) := ⟨no.toNat, by omega⟩
  have hkb := byte_lt kk
  have hn6 : n < 65536 := by omega
  have hm6 : m < 65536 := by omega
  have hlt := lenTells kk n m hn6
  obtain ⟨l, hl⟩ : ∃ l, l = lenHead kk n ++ List.replicate m 0 := ⟨_, rfl⟩
  rw [← hl] at hlt
  have hll : l.length = 4 + m := by rw [hl]; simp [lenHead]; omega
  have h1 : ((UInt8.ofNat (n / 256)).toNat : Int) = (n : Int) / 256 := by rw [UInt8.toNat_ofNat']; omega
  have h2 : ((UInt8.ofNat n).toNat : Int) = (n : Int) % 256 := by rw [UInt8.toNat_ofNat']; omega
  have hrow : #[Value.int .u8 (kk.toNat : Int), .int .u8 0, .int .u8 ((n : Int) / 256), .int .u8 ((n : Int) % 256)] = (bytesV (lenHead kk n)).toArray := by
    simp only [bytesV, lenHead, List.map_cons, List.map_nil, h1, h2]
    rfl
  have HOW := hid (show Own (w.alloc (.cells #[Value.int .u8 (kk.toNat : Int), .int .u8 0, .int .u8 ((n : Int) / 256), .int .u8 ((n : Int) % 256)] 5 (0, 0))) w.heap.size 5 (.slice (some ⟨w.heap.size, 0, none⟩) 4 4) (lenHead kk n) from
    .inr ⟨w.heap.size, [], Nat.le_refl _, rfl, by rw [hrow, List.append_nil]; exact Row.new w 5 (lenHead kk n), by simp [lenHead]; unfold maxLen; omega⟩)
  have HA := hid (show Below w.heap.size w (w.alloc (.cells #[Value.int .u8 (kk.toNat : Int), .int .u8 0, .int .u8 ((n : Int) / 256), .int .u8 ((n : Int) % 256)] 5 (0, 0))) from (Below.refl _ _).alloc (Nat.le_refl _) _)
  have HL := hid hl
  have HLT := hid hlt
  have HLL := hid hll
  have hrd := roundN_le n
  have hrd2 := roundN_lt n
  have HRR := hid (show ((n : Int) + 3) / 4 * 4 = (roundN n : Int) by unfold roundN; omega)
  clear hlt hl hll h1 h2 hrow
  go_enter Try.func9, Try.ntmps9
  go_wp2_with (at_builtin; refine wpList_append_zeros rfl (.tmp 19) (.tmp 21) 22 3 rfl w.heap.size 5 .i64 Try.underlying22 Try.underlying3 infoU8o _ (lenHead kk n) m rfl HOW.out _ rfl rfl ?hlen HA.out.size ?_)
  case hlen => simp [lenHead]; omega
  intro v2 w2 ho2 hg2
  rw [← HL.out] at ho2
  have G2 := hid (HA.out.grown hg2 HA.out.size HOW.out.ge)
  obtain ⟨z, cc, rfl, hzc, hcc⟩ := ho2.shape
  unfold maxLen at hcc
  have HO2 := hid ho2
  rw [HLL.out] at hzc HO2 ⊢
  clear ho2 hg2
  have hln : l.length ≤ 140737488355320 := by rw [HLL.out]; omega
  have HLN := hid hln
  clear hln
  generalize hR : roundN n = R at *
  have HR := hid hR
  clear hR
  by_cases hok : 4 ≤ n ∧ R ≤ 4 + m
  · obtain ⟨hok1, hok2⟩ := hok
    obtain ⟨b, hbl, ht⟩ := HLT.out.2 hok1 hok2
    have HT := hid ht
    have HBL := hid hbl
    have hbn : b.length + 4 = n := by omega
    clear ht hbl
    go_wp2_with fail
    refine (cread_good _ l ⟨kk, 0, b⟩ R HT.out _ HO2.out.rd HLN.out).mono ?_
    rintro e w3 ⟨p3, c3, rfl, ho3, hb3⟩
    simp only [HBL.out] at ho3 ⊢
    have G3 := hid (gr_trans G2.out hb3)
    have ir : ((n : Int) + 3) / 4 * 4 = (R : Int) := HRR.out
    have hsub : ((n - 4 : Nat) : Int) = (n : Int) - 4 := by omega
    clear ho3 hb3
    go_wp2_with fail
    refine (works_any _).mono ?_
    rintro e w5 ⟨rfl, hb5⟩
    go_wp2_with fail
    go_ret
    exact ⟨rfl, gr_trans (G3.out.alloc G3.out.size _) hb5⟩
  · have hcase : n < 4 ∨ (4 ≤ n ∧ 4 + m < R) := by omega
    have HNO := hid (HLT.out.1 (by omega))
    clear hok
    go_wp2_with fail
    refine (cread_bad _ l HNO.out _ HO2.out.rd HLN.out).mono ?_
    rintro e w3 ⟨p3, c3, rfl, ho3, hb3⟩
    have G3 := hid ((gr_trans G2.out hb3).alloc (gr_trans G2.out hb3).size (.cells #[.int .u8 0, .int .u8 0, .slice p3 0 c3] 24 (0, 0)))
    have ir : ((n : Int) + 3) / 4 * 4 = (R : Int) := HRR.out
    clear ho3 hb3
    rcases hcase with h1 | ⟨h1, h2⟩
    all_goals
      go_wp2_with fail
      refine (works_any _).mono ?_
      rintro e w5 ⟨rfl, hb5⟩
      go_wp2_with fail
      go_ret
      exact ⟨rfl, gr_trans G3.out hb5⟩
end Go.Proofs.Ytbjmakckljjbiaa

/- OctetBack: the walk of the law. Conditions: none but what the row reads. -/
import Derived.Test.YtkifdhpdpblneaaOctWorks
import Derived.Test.YtkifdhpdpblneaaRoomy
namespace Go.Proofs.Ytkifdhpdpblneaa
open Go.RowKit Go.FL

theorem u64_of (a : Int) (h : (Lit.int .u64 a).wf = true) : ∃ s : Nat, a = (s : Int) ∧ s < 18446744073709551616 := by
  simp [Lit.wf, IntKind.min, IntKind.max, IntKind.signed, IntKind.bits] at h
  exact ⟨a.toNat, by omega, by omega⟩

theorem p256 (q : Nat) : 2 ^ (8 * q) = 256 ^ q := by rw [Nat.pow_mul]

theorem beVal_part (n x : Nat) : ∀ k, k ≤ n → beVal (bePart n x k) = x / 256 ^ (n - k) % 256 ^ k
  | 0, _ => by simp [bePart, beVal, Nat.mod_one]
  | k + 1, h => by
    rw [bePart_succ, beVal_snoc, beVal_part n x k (by omega), UInt8.toNat_ofNat', p256]
    obtain ⟨q, h1, h2, h3⟩ : ∃ q, n - 1 - k = q ∧ n - (k + 1) = q ∧ n - k = q + 1 := ⟨_, rfl, by omega, by omega⟩
    rw [h1, h2, h3, Nat.pow_succ 256 q, ← Nat.div_div_eq_div_mul, Nat.pow_succ 256 k, Nat.mul_comm (256 ^ k) 256, Nat.mod_mul]
    show _ * 256 + _ % 256 = _
    omega
theorem beVal_bytes (n x : Nat) : beVal (beBytes n x) = x % 256 ^ n := by
  have := beVal_part n x n (Nat.le_refl _)
  simpa [beBytes] using this

theorem back_facts (l : List UInt8) (x n : Nat) (h : sizedB (n : Int) = true) :
    ∃ m, putL l x (n : Int) = m ∧ m.length = l.length + n ∧ (beVal (pieceOf m (l.length : Int) (n : Int)) : Int) = (x : Int) % 256 ^ n ∧ m.take l.length = l ∧ getOk m (l.length : Int) (n : Int) = true ∧
      ∀ q j : Nat, (hq : q < m.length) → l.length ≤ q → q + j + 1 = m.length → (m[q].toNat : Int) = ((x / 2 ^ (8 * j) : Nat) : Int) % 256 := by
  have hm : putL l x (n : Int) = l ++ beBytes n x := by simp [putL, h]
  refine ⟨_, hm, ?_, ?_, ?_, ?_, ?_⟩
  · simp [beBytes_length]
  · have : pieceOf (l ++ beBytes n x) (l.length : Int) (n : Int) = beBytes n x := by
      simp only [pieceOf, Int.toNat_natCast]
      rw [List.drop_left]
      exact List.take_of_length_le (by rw [beBytes_length]; exact Nat.le_refl _)
    rw [this, beVal_bytes]
    simp
  · exact List.take_left' rfl
  · simp only [getOk, h, Bool.true_and, withinB, decide_eq_true_eq]
    simp [beBytes_length]
    omega
  · intro q j hq hlq hqj
    have hml : (l ++ beBytes n x).length = l.length + n := by simp [beBytes_length]
    have hqn : q - l.length < n := by omega
    have h1 : (l ++ beBytes n x)[q] = UInt8.ofNat (x / 2 ^ (8 * j)) := by
      rw [List.getElem_append_right hlq]
      simp only [beBytes, bePart, List.getElem_map, List.getElem_range]
      rw [show n - 1 - (q - l.length) = j by omega]
    rw [h1, UInt8.toNat_ofNat']
    omega

set_option maxRecDepth 20000 in
set_option maxHeartbeats 1600000 in
theorem octetBack_walk {w : World} {v : Value} (l : List UInt8) (hv : Rd w v l) (a : Int) (ha : (Lit.int .u64 a).wf = true) :
    Calls Try.prog 8 #[v, .int .u64 a] w fun e w' => e = .returned (.bool true) ∧ Below w.heap.size w w' := by
  obtain ⟨x, rfl, hx⟩ := u64_of a ha
  clear ha
  have HV := hid hv
  obtain ⟨p, c, rfl, hlc, hcm, hpn, hcell⟩ := hv
  unfold maxLen at hcm
  clear hcell
  by_cases hbig : 4096 < l.length
  · go_enter Try.func8, Try.ntmps8
    go_wp2_with (go_at_call 11; refine (works_any _).mono ?_; rintro e w' ⟨rfl, hb⟩)
    go_ret
    exact ⟨rfl, hb⟩
  · obtain ⟨W, hW⟩ : ∃ W, W = w.alloc (.cells #[.int .i64 1, .int .i64 2, .int .i64 4, .int .i64 8] 3 (0, 0)) := ⟨_, rfl⟩
    have hs : W.heap.size = w.heap.size + 1 := by rw [hW]; simp
    have hr : W.heap[w.heap.size]? = some (.cells #[.int .i64 1, .int .i64 2, .int .i64 4, .int .i64 8] 3 (0, 0)) := by rw [hW]; exact heap_alloc_new w _
    have c0 := hid (show W.cell? ⟨w.heap.size, 0, none⟩ = some (.int .i64 1) by simp [World.cell?, hr])
    have c1 := hid (show W.cell? ⟨w.heap.size, 1, none⟩ = some (.int .i64 2) by simp [World.cell?, hr])
    have c2 := hid (show W.cell? ⟨w.heap.size, 2, none⟩ = some (.int .i64 4) by simp [World.cell?, hr])
    have c3 := hid (show W.cell? ⟨w.heap.size, 3, none⟩ = some (.int .i64 8) by simp [World.cell?, hr])
    have HW := hid (show Below w.heap.size w W by rw [hW]; exact (Below.refl _ _).alloc (Nat.le_refl _) _)
    have HS := hid hs
    have HE := hid hW
    clear hs hr hW
    go_enter Try.func8, Try.ntmps8
    go_wp2_with fail
    rw [← HE.out]
    go_loopw [6] (fun i wr => (i = .int .i64 0 ∨ i = .int .i64 1 ∨ i = .int .i64 2 ∨ i = .int .i64 3 ∨ i = .int .i64 4) ∧ Below W.heap.size W wr) (fun i _ => 4 - (intOf i).toNat)
    case atStart => exact ⟨.inl rfl, Below.refl _ _⟩
    case round =>
      clear HE
      obtain ⟨hi, hb⟩ := hrel
      rcases hi with rfl | rfl | rfl | rfl | rfl
      rotate_right
      · go_wp2_with fail
        refine (works_any _).mono ?_
        rintro e w9 ⟨rfl, hb9⟩
        go_wp2_with fail
        go_ret
        exact ⟨rfl, HW.out.trans ((hb.trans (hb9.mono hb.size)).mono HW.out.size)⟩
      · have hc := cell?_of_below hb c0.out
        obtain ⟨m, hm, hml, hval, htk, hok, hby⟩ := back_facts l x 1 rfl
        have HM := hid (show putL l x 1 = m from hm)
        have HVAL := hid (show ((beVal (pieceOf m (l.length : Int) 1) : Nat) : Int) = (x : Int) % 256 from hval)
        have HTK := hid htk
        have HOK := hid (show getOk m (l.length : Int) 1 = true from hok)
        have HBY := hid hby
        have HB := hid hb
        have HV1 := hid (HV.out.mono (HW.out.trans (hb.mono HW.out.size)))
        clear hm hval htk hok hby hb c0 c1 c2 c3
        go_wp2_with fail
        refine (put_any _ l x 1 _ HV1.out (by omega) hx).mono ?_
        rintro e w1 ⟨v1, rfl, ho1, hb1⟩
        rw [HM.out] at ho1
        have HR := hid ho1.rd
        have hr1 := ho1.rd
        have HB1 := hid (HB.out.trans (hb1.mono HB.out.size))
        have HV2 := hid (HV1.out.mono hb1)
        obtain ⟨p1, k1, rfl, hlk, hkm, hpk, hcell1⟩ := hr1
        have hR := HR.out
        rw [hml] at hR
        have HR := hid hR
        clear hR
        unfold maxLen at hkm
        have HC1 := hid hcell1
        clear ho1 hb1 hcell1 hc HB HV1
        go_wp2_with fail
        refine (get_ok _ m (l.length : Int) 1 _ HR.out HOK.out).mono ?_
        rintro e w2 ⟨rfl, rfl⟩
        rw [HVAL.out]
        go_wp2_with fail
        have hrt := HR.out.take l.length (by omega)
        rw [HTK.out] at hrt
        refine (eqBytes_any _ _ l l _ hrt HV2.out).mono ?_
        simp only [decide_true]
        rintro e w2 ⟨rfl, d, rfl⟩
        clear hrt
        go_wp2_with fail
        go_loop [11, 12] (fun y k => ∃ j : Nat, j ≤ 1 ∧ k = .int .i64 ((l.length : Int) + 1 - 1 - (j : Int)) ∧ y = .int .u64 ((x / 2 ^ (8 * j) : Nat) : Int)) (fun _ k => (intOf k + 1).toNat)
        case atStart => exact ⟨0, Nat.zero_le _, by go_num, by simp⟩
        case round =>
          obtain ⟨j, hj, rfl, rfl⟩ := hrel
          by_cases hlt : j < 1
          · obtain ⟨q, hq⟩ : ∃ q : Nat, (l.length : Int) + 1 - 1 - (j : Int) = (q : Int) := ⟨l.length + 1 - 1 - j, by omega⟩
            obtain ⟨b, off, rfl, hc⟩ := HC1.out q (by omega)
            rw [HBY.out q j (by omega) (by omega) (by omega)] at hc
            rw [hq]
            have HQ := hid hq
            have hql : l.length ≤ q := by omega
            have hqm : q < m.length := by omega
            have hdx : x / 2 ^ (8 * j) < 18446744073709551616 := Nat.lt_of_le_of_lt (Nat.div_le_self _ _) hx
            have HN := hid (show x / 2 ^ (8 * j) / 256 = x / 2 ^ (8 * (j + 1)) by rw [Nat.div_div_eq_div_mul, Nat.mul_add, Nat.pow_add])
            generalize x / 2 ^ (8 * j) = y at *
            clear hq
            go_wp2
            go_round
            case rel => exact ⟨j + 1, by omega, by have := HQ.out; go_num, by rw [← HN.out]; go_num⟩
            case measure => simp [intOf]
          · obtain rfl : j = 1 := by omega
            go_wp2
            go_roundw
            case rel => exact ⟨by simp, below_drewN' HB1.out d⟩
            case measure => simp [intOf]
      · have hc := cell?_of_below hb c1.out
        obtain ⟨m, hm, hml, hval, htk, hok, hby⟩ := back_facts l x 2 rfl
        have HM := hid (show putL l x 2 = m from hm)
        have HVAL := hid (show ((beVal (pieceOf m (l.length : Int) 2) : Nat) : Int) = (x : Int) % 65536 from hval)
        have HTK := hid htk
        have HOK := hid (show getOk m (l.length : Int) 2 = true from hok)
        have HBY := hid hby
        have HB := hid hb
        have HV1 := hid (HV.out.mono (HW.out.trans (hb.mono HW.out.size)))
        clear hm hval htk hok hby hb c0 c1 c2 c3
        go_wp2_with fail
        refine (put_any _ l x 2 _ HV1.out (by omega) hx).mono ?_
        rintro e w1 ⟨v1, rfl, ho1, hb1⟩
        rw [HM.out] at ho1
        have HR := hid ho1.rd
        have hr1 := ho1.rd
        have HB1 := hid (HB.out.trans (hb1.mono HB.out.size))
        have HV2 := hid (HV1.out.mono hb1)
        obtain ⟨p1, k1, rfl, hlk, hkm, hpk, hcell1⟩ := hr1
        have hR := HR.out
        rw [hml] at hR
        have HR := hid hR
        clear hR
        unfold maxLen at hkm
        have HC1 := hid hcell1
        clear ho1 hb1 hcell1 hc HB HV1
        go_wp2_with fail
        refine (get_ok _ m (l.length : Int) 2 _ HR.out HOK.out).mono ?_
        rintro e w2 ⟨rfl, rfl⟩
        rw [HVAL.out]
        go_wp2_with fail
        have hrt := HR.out.take l.length (by omega)
        rw [HTK.out] at hrt
        refine (eqBytes_any _ _ l l _ hrt HV2.out).mono ?_
        simp only [decide_true]
        rintro e w2 ⟨rfl, d, rfl⟩
        clear hrt
        go_wp2_with fail
        go_loop [11, 12] (fun y k => ∃ j : Nat, j ≤ 2 ∧ k = .int .i64 ((l.length : Int) + 2 - 1 - (j : Int)) ∧ y = .int .u64 ((x / 2 ^ (8 * j) : Nat) : Int)) (fun _ k => (intOf k + 1).toNat)
        case atStart => exact ⟨0, Nat.zero_le _, by go_num, by simp⟩
        case round =>
          obtain ⟨j, hj, rfl, rfl⟩ := hrel
          by_cases hlt : j < 2
          · obtain ⟨q, hq⟩ : ∃ q : Nat, (l.length : Int) + 2 - 1 - (j : Int) = (q : Int) := ⟨l.length + 2 - 1 - j, by omega⟩
            obtain ⟨b, off, rfl, hc⟩ := HC1.out q (by omega)
            rw [HBY.out q j (by omega) (by omega) (by omega)] at hc
            rw [hq]
            have HQ := hid hq
            have hql : l.length ≤ q := by omega
            have hqm : q < m.length := by omega
            have hdx : x / 2 ^ (8 * j) < 18446744073709551616 := Nat.lt_of_le_of_lt (Nat.div_le_self _ _) hx
            have HN := hid (show x / 2 ^ (8 * j) / 256 = x / 2 ^ (8 * (j + 1)) by rw [Nat.div_div_eq_div_mul, Nat.mul_add, Nat.pow_add])
            generalize x / 2 ^ (8 * j) = y at *
            clear hq
            go_wp2
            go_round
            case rel => exact ⟨j + 1, by omega, by have := HQ.out; go_num, by rw [← HN.out]; go_num⟩
            case measure => simp [intOf]
          · obtain rfl : j = 2 := by omega
            go_wp2
            go_roundw
            case rel => exact ⟨by simp, below_drewN' HB1.out d⟩
            case measure => simp [intOf]
      · have hc := cell?_of_below hb c2.out
        obtain ⟨m, hm, hml, hval, htk, hok, hby⟩ := back_facts l x 4 rfl
        have HM := hid (show putL l x 4 = m from hm)
        have HVAL := hid (show ((beVal (pieceOf m (l.length : Int) 4) : Nat) : Int) = (x : Int) % 4294967296 from hval)
        have HTK := hid htk
        have HOK := hid (show getOk m (l.length : Int) 4 = true from hok)
        have HBY := hid hby
        have HB := hid hb
        have HV1 := hid (HV.out.mono (HW.out.trans (hb.mono HW.out.size)))
        clear hm hval htk hok hby hb c0 c1 c2 c3
        go_wp2_with fail
        refine (put_any _ l x 4 _ HV1.out (by omega) hx).mono ?_
        rintro e w1 ⟨v1, rfl, ho1, hb1⟩
        rw [HM.out] at ho1
        have HR := hid ho1.rd
        have hr1 := ho1.rd
        have HB1 := hid (HB.out.trans (hb1.mono HB.out.size))
        have HV2 := hid (HV1.out.mono hb1)
        obtain ⟨p1, k1, rfl, hlk, hkm, hpk, hcell1⟩ := hr1
        have hR := HR.out
        rw [hml] at hR
        have HR := hid hR
        clear hR
        unfold maxLen at hkm
        have HC1 := hid hcell1
        clear ho1 hb1 hcell1 hc HB HV1
        go_wp2_with fail
        refine (get_ok _ m (l.length : Int) 4 _ HR.out HOK.out).mono ?_
        rintro e w2 ⟨rfl, rfl⟩
        rw [HVAL.out]
        go_wp2_with fail
        have hrt := HR.out.take l.length (by omega)
        rw [HTK.out] at hrt
        refine (eqBytes_any _ _ l l _ hrt HV2.out).mono ?_
        simp only [decide_true]
        rintro e w2 ⟨rfl, d, rfl⟩
        clear hrt
        go_wp2_with fail
        go_loop [11, 12] (fun y k => ∃ j : Nat, j ≤ 4 ∧ k = .int .i64 ((l.length : Int) + 4 - 1 - (j : Int)) ∧ y = .int .u64 ((x / 2 ^ (8 * j) : Nat) : Int)) (fun _ k => (intOf k + 1).toNat)
        case atStart => exact ⟨0, Nat.zero_le _, by go_num, by simp⟩
        case round =>
          obtain ⟨j, hj, rfl, rfl⟩ := hrel
          by_cases hlt : j < 4
          · obtain ⟨q, hq⟩ : ∃ q : Nat, (l.length : Int) + 4 - 1 - (j : Int) = (q : Int) := ⟨l.length + 4 - 1 - j, by omega⟩
            obtain ⟨b, off, rfl, hc⟩ := HC1.out q (by omega)
            rw [HBY.out q j (by omega) (by omega) (by omega)] at hc
            rw [hq]
            have HQ := hid hq
            have hql : l.length ≤ q := by omega
            have hqm : q < m.length := by omega
            have hdx : x / 2 ^ (8 * j) < 18446744073709551616 := Nat.lt_of_le_of_lt (Nat.div_le_self _ _) hx
            have HN := hid (show x / 2 ^ (8 * j) / 256 = x / 2 ^ (8 * (j + 1)) by rw [Nat.div_div_eq_div_mul, Nat.mul_add, Nat.pow_add])
            generalize x / 2 ^ (8 * j) = y at *
            clear hq
            go_wp2
            go_round
            case rel => exact ⟨j + 1, by omega, by have := HQ.out; go_num, by rw [← HN.out]; go_num⟩
            case measure => simp [intOf]
          · obtain rfl : j = 4 := by omega
            go_wp2
            go_roundw
            case rel => exact ⟨by simp, below_drewN' HB1.out d⟩
            case measure => simp [intOf]
      · have hc := cell?_of_below hb c3.out
        obtain ⟨m, hm, hml, hval, htk, hok, hby⟩ := back_facts l x 8 rfl
        have HM := hid (show putL l x 8 = m from hm)
        have HVAL := hid (show ((beVal (pieceOf m (l.length : Int) 8) : Nat) : Int) = (x : Int) from by rw [show (x : Int) = (x : Int) % 256 ^ 8 by omega]; exact hval)
        have HTK := hid htk
        have HOK := hid (show getOk m (l.length : Int) 8 = true from hok)
        have HBY := hid hby
        have HB := hid hb
        have HV1 := hid (HV.out.mono (HW.out.trans (hb.mono HW.out.size)))
        clear hm hval htk hok hby hb c0 c1 c2 c3
        go_wp2_with fail
        refine (put_any _ l x 8 _ HV1.out (by omega) hx).mono ?_
        rintro e w1 ⟨v1, rfl, ho1, hb1⟩
        rw [HM.out] at ho1
        have HR := hid ho1.rd
        have hr1 := ho1.rd
        have HB1 := hid (HB.out.trans (hb1.mono HB.out.size))
        have HV2 := hid (HV1.out.mono hb1)
        obtain ⟨p1, k1, rfl, hlk, hkm, hpk, hcell1⟩ := hr1
        have hR := HR.out
        rw [hml] at hR
        have HR := hid hR
        clear hR
        unfold maxLen at hkm
        have HC1 := hid hcell1
        clear ho1 hb1 hcell1 hc HB HV1
        go_wp2_with fail
        refine (get_ok _ m (l.length : Int) 8 _ HR.out HOK.out).mono ?_
        rintro e w2 ⟨rfl, rfl⟩
        rw [HVAL.out]
        go_wp2_with fail
        have hrt := HR.out.take l.length (by omega)
        rw [HTK.out] at hrt
        refine (eqBytes_any _ _ l l _ hrt HV2.out).mono ?_
        simp only [decide_true]
        rintro e w2 ⟨rfl, d, rfl⟩
        clear hrt
        go_wp2_with fail
        go_loop [11, 12] (fun y k => ∃ j : Nat, j ≤ 8 ∧ k = .int .i64 ((l.length : Int) + 8 - 1 - (j : Int)) ∧ y = .int .u64 ((x / 2 ^ (8 * j) : Nat) : Int)) (fun _ k => (intOf k + 1).toNat)
        case atStart => exact ⟨0, Nat.zero_le _, by go_num, by simp⟩
        case round =>
          obtain ⟨j, hj, rfl, rfl⟩ := hrel
          by_cases hlt : j < 8
          · obtain ⟨q, hq⟩ : ∃ q : Nat, (l.length : Int) + 8 - 1 - (j : Int) = (q : Int) := ⟨l.length + 8 - 1 - j, by omega⟩
            obtain ⟨b, off, rfl, hc⟩ := HC1.out q (by omega)
            rw [HBY.out q j (by omega) (by omega) (by omega)] at hc
            rw [hq]
            have HQ := hid hq
            have hql : l.length ≤ q := by omega
            have hqm : q < m.length := by omega
            have hdx : x / 2 ^ (8 * j) < 18446744073709551616 := Nat.lt_of_le_of_lt (Nat.div_le_self _ _) hx
            have HN := hid (show x / 2 ^ (8 * j) / 256 = x / 2 ^ (8 * (j + 1)) by rw [Nat.div_div_eq_div_mul, Nat.mul_add, Nat.pow_add])
            generalize x / 2 ^ (8 * j) = y at *
            clear hq
            go_wp2
            go_round
            case rel => exact ⟨j + 1, by omega, by have := HQ.out; go_num, by rw [← HN.out]; go_num⟩
            case measure => simp [intOf]
          · obtain rfl : j = 8 := by omega
            go_wp2
            go_roundw
            case rel => exact ⟨by simp, below_drewN' HB1.out d⟩
            case measure => simp [intOf]
end Go.Proofs.Ytkifdhpdpblneaa

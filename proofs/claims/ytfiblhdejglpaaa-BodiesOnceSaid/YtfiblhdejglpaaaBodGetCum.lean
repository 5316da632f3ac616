/- fairlead/bodies.get[uint32]: a number, if it may be, and its chunk is the one of which it was read. Conditions: what comes in reads as it should. -/
import Derived.Test.YtfiblhdejglpaaaBodPutData
import Derived.Test.YtfiblhdejglpaaaSliEq
namespace Go.Proofs.Ytfiblhdejglpaaa
open Go.RowKit Go.FL Go.ChangeShapes

set_option maxRecDepth 100000 in
set_option maxHeartbeats 4000000 in
theorem bgetCum_any (cum : Nat) (kc fc : UInt8) (s : Value) (bc : List UInt8) (may : Bool) (w : World) (hs : Rd w s bc) (dc : Chk)
    (hput : ∀ wx, Below w.heap.size w wx → Calls Try.prog 40 #[.int .u32 (cum : Int)] wx (RetChk wx 5 dc)) :
    Calls Try.prog 64 #[.agg #[.int .u8 (kc.toNat : Int), .int .u8 (fc.toNat : Int), s], .int .u32 (cum : Int), .bool may, .func (.func 40) #[] #[]] w
      fun e w' => e = .returned (if may = true ∧ dc = ⟨kc, fc, bc⟩ then .tuple #[.int .u32 (cum : Int), .int .i64 0] else .tuple #[.int .u32 0, .int .i64 7]) ∧ Below w.heap.size w w' := by
  have HV := hid hs
  have HP := hid hput
  obtain ⟨p, c, rfl, hlc, hcm, hpn, hcell⟩ := hs
  unfold maxLen at hcm
  clear hcell hput
  obtain ⟨kd, fd, bd⟩ := dc
  obtain ⟨res, hres⟩ : ∃ r, r = (if may = true ∧ (⟨kd, fd, bd⟩ : Chk) = ⟨kc, fc, bc⟩ then Value.tuple #[.int .u32 (cum : Int), .int .i64 0] else .tuple #[.int .u32 0, .int .i64 7]) := ⟨_, rfl⟩
  rw [← hres]
  have HRES := hid hres
  clear hres
  obtain ⟨W, hW⟩ : ∃ W, W = w.alloc (.cells #[.int .u8 (kc.toNat : Int), .int .u8 (fc.toNat : Int), .slice p bc.length c] 28 (0, 0)) := ⟨_, rfl⟩
  have HC := hid (show RowV W w.heap.size 28 [.int .u8 (kc.toNat : Int), .int .u8 (fc.toNat : Int), .slice p bc.length c] by rw [hW]; exact RowV.new w 28 _)
  have G0 := hid (show Below w.heap.size w W by rw [hW]; exact (Below.refl _ _).alloc (Nat.le_refl _) _)
  have HE := hid hW
  clear hW
  go_enter Try.func64, Try.ntmps64
  go_wp2_with fail
  rw [← HE.out]
  refine (HP.out _ G0.out).mono ?_
  rintro e w1 ⟨s1, rfl, ho1, hb1⟩
  simp only at ho1
  obtain ⟨p1, c1, rfl, hl1, hm1, -, -⟩ := ho1.rd
  unfold maxLen at hm1
  have HO1 := hid ho1
  obtain ⟨W2, hW2⟩ : ∃ W, W = w1.alloc (.cells #[.int .u8 (kd.toNat : Int), .int .u8 (fd.toNat : Int), .slice p1 bd.length c1] 28 (0, 0)) := ⟨_, rfl⟩
  have g2 : Below w1.heap.size w1 W2 := by rw [hW2]; exact (Below.refl _ _).alloc (Nat.le_refl _) _
  have HD2 := hid (show RowV W2 w1.heap.size 28 [.int .u8 (kd.toNat : Int), .int .u8 (fd.toNat : Int), .slice p1 bd.length c1] by rw [hW2]; exact RowV.new w1 28 _)
  have g12 := gr_trans hb1 g2
  have HC2 := hid (HC.out.mono g12)
  have G2 := hid (gr_trans G0.out g12)
  have HO2 := hid (HO1.out.mono g2)
  have HE2 := hid hW2
  obtain ⟨k0, k1, k2⟩ := HC2.out.three
  obtain ⟨l0, l1, l2⟩ := HD2.out.three
  rw [hW2] at k0 k1 k2 l0 l1 l2
  have bk := byte_lt kc
  have bk2 := byte_lt kd
  have bf := byte_lt fc
  have bf2 := byte_lt fd
  have HKE := hid (byte_eq kd kc)
  have HFE := hid (byte_eq fd fc)
  clear hb1 hW2 g2 g12 ho1
  cases may
  · have HCD := hid (show res = Value.tuple #[.int .u32 0, .int .i64 7] from by rw [HRES.out]; exact if_neg (by simp))
    go_wp2_with fail
    rw [← HE2.out]
    go_ret2
    exact ⟨by rw [HCD.out]; rfl, G2.out⟩
  · by_cases hk : kd = kc
    · by_cases hf : fd = fc
      · subst hk hf
        have hkb : ((kd.toNat : Int) == (kd.toNat : Int)) = true := by simp
        have hfb : ((fd.toNat : Int) == (fd.toNat : Int)) = true := by simp
        go_wp2_with fail
        rw [← HE2.out]
        refine (sliEq_any _ _ bd bc _ HO2.out.rd (HV.out.mono G2.out)).mono ?_
        rintro e w3 ⟨rfl, hb3⟩
        have G3 := hid (gr_trans G2.out hb3)
        clear hb3 k0 k1 k2 l0 l1 l2
        by_cases hq : bd = bc
        · rw [decide_eq_true hq]
          have HCD := hid (show res = Value.tuple #[.int .u32 (cum : Int), .int .i64 0] from by rw [HRES.out]; exact if_pos (by simp [hq]))
          clear hq
          go_wp2_with fail
          go_ret2
          exact ⟨by rw [HCD.out]; rfl, G3.out⟩
        · rw [decide_eq_false hq]
          have HCD := hid (show res = Value.tuple #[.int .u32 0, .int .i64 7] from by rw [HRES.out]; exact if_neg (fun h => hq (congrArg Chk.b h.2)))
          clear hq
          go_wp2_with fail
          go_ret2
          exact ⟨by rw [HCD.out]; rfl, G3.out⟩
      · have hkb : ((kd.toNat : Int) == (kc.toNat : Int)) = true := by rw [beq_iff_eq, HKE.out]; exact hk
        have hfb : ((fd.toNat : Int) == (fc.toNat : Int)) = false := by rw [beq_eq_false_iff_ne, ne_eq, HFE.out]; exact hf
        have HCD := hid (show res = Value.tuple #[.int .u32 0, .int .i64 7] from by rw [HRES.out]; exact if_neg (fun h => hf (congrArg Chk.f h.2)))
        clear hk hf
        go_wp2_with fail
        rw [← HE2.out]
        go_ret2
        exact ⟨by rw [HCD.out]; rfl, G2.out⟩
    · have hkb : ((kd.toNat : Int) == (kc.toNat : Int)) = false := by rw [beq_eq_false_iff_ne, ne_eq, HKE.out]; exact hk
      have HCD := hid (show res = Value.tuple #[.int .u32 0, .int .i64 7] from by rw [HRES.out]; exact if_neg (fun h => hk (congrArg Chk.k h.2)))
      clear hk
      go_wp2_with fail
      rw [← HE2.out]
      go_ret2
      exact ⟨by rw [HCD.out]; rfl, G2.out⟩
end Go.Proofs.Ytfiblhdejglpaaa

/- AssocGives: one that is never answered. Conditions: the tables of sha hold what its text says. -/
import Derived.Test.YtiimlanbbfhkjaaDoorAsGivesM
import Derived.Lib.SlBytesConst
import Derived.Deep.CutRange
set_option linter.unusedSimpArgs false
set_option linter.unusedVariables false




namespace Go.Proofs.YtiimlanbbfhkjaaDoor

open Go.RowKit Go.FL Go.ChangeShapes

set_option maxRecDepth 100000 in
set_option maxHeartbeats 16000000 in
theorem assocGives_walk {w : World} (hlaid : ShaLaid w) (ps : Int) (hps : (Lit.int .u8 ps).wf = true) (ts : Int) (hts : (Lit.int .u8 ts).wf = true) :
    Calls Tryd.prog 5 #[.int .u8 ps, .int .u8 ts] w fun e w' => e = .returned (.bool true) ∧ Below w.heap.size w w' := by
  have HLAID := hid hlaid
  obtain ⟨pu, rfl⟩ := u8_of ps hps
  obtain ⟨tu, rfl⟩ := u8_of ts hts
  clear hps hts hlaid
  have hx := byte_lt pu
  have hy := byte_lt tu
  obtain ⟨p, hp⟩ : ∃ p, p = 1 + pu.toNat % 4 := ⟨_, rfl⟩
  obtain ⟨t, ht⟩ : ∃ t, t = 1 + tu.toNat % 40 := ⟨_, rfl⟩
  have HPB := hid (show 1 ≤ p ∧ p ≤ 4 ∧ 1 ≤ t ∧ t ≤ 40 by omega)
  have HPL := hid (plain25_any pu)
  rw [← hp] at HPL
  have y1 : IntKind.i64.wrap (tu.toNat : Int) = (tu.toNat : Int) := by rw [IntKind.wrap_i64]; omega
  have y2 : IntKind.i64.wrap (((tu.toNat : Int)).tmod 40) = ((tu.toNat % 40 : Nat) : Int) := by rw [Int.tmod_eq_emod_of_nonneg (by omega), IntKind.wrap_i64]; omega
  have y3 : IntKind.i64.wrap (1 + ((tu.toNat % 40 : Nat) : Int)) = (t : Int) := by rw [IntKind.wrap_i64]; omega
  have HT3 := hid (show (1 + (tu.toNat : Int) % 40) = (t : Int) by omega)
  clear hp ht
  go_enter Tryd.func5, Tryd.ntmps5
  go_wp2_with fail
  refine (HPL.out _).mono ?_
  rintro e w1 ⟨rfl, hb1⟩
  obtain ⟨W1, hW1⟩ : ∃ y, y = w1.alloc (.cells #[.int .i64 (p : Int), .int .i64 128, .int .i64 2, .int .i64 65536, .int .i64 65536, .int .i64 1000, .int .i64 3, .int .i64 1, .int .i64 60, .int .i64 5, .int .i64 100, .int .i64 10, .int .i64 2, .int .i64 (t : Int)] 53 (0, 0)) := ⟨_, rfl⟩
  obtain ⟨cb, hcb⟩ : ∃ y, y = w1.heap.size := ⟨_, rfl⟩
  have HCF1 := hid (show RowV W1 cb 53 [.int .i64 (p : Int), .int .i64 128, .int .i64 2, .int .i64 65536, .int .i64 65536, .int .i64 1000, .int .i64 3, .int .i64 1, .int .i64 60, .int .i64 5, .int .i64 100, .int .i64 10, .int .i64 2, .int .i64 (t : Int)] by rw [hW1, hcb]; exact RowV.new w1 _ _)
  have GW1 := hid (show Below w.heap.size w W1 by rw [hW1]; exact hb1.alloc hb1.size _)
  have HE1 := hid hW1
  clear hb1
  go_upto_region 3 with fail
  rw [HT3.out, ← HE1.out, ← hcb]
  clear y1 y2 y3 hW1 hx hy
  have kx := Lib.run_convert_bytes_const (P := Tryd.prog) W1 25 5 #[.int .u8 107] 1 1 Tryd.underlying25 Tryd.underlying5
  simp only [List.size_toArray, List.length_cons, List.length_nil, Nat.zero_add] at kx
  obtain ⟨W2, hW2⟩ : ∃ y, y = W1.alloc (.cells #[.int .u8 107] 5 (1, 2)) := ⟨_, rfl⟩
  have g2 : Below W1.heap.size W1 W2 := by rw [hW2]; exact (Below.refl _ _).alloc (Nat.le_refl _) _
  have HK := hid (show Rd W2 (.slice (some ⟨W1.heap.size, 0, none⟩) 1 1) [107] by rw [hW2]; exact rd_newF W1 5 [107] 1 _ (1, 2) rfl rfl (by unfold maxLen; omega))
  have HCF2 := hid (HCF1.out.mono g2)
  have G2 := hid (gr_trans GW1.out g2)
  have HE2 := hid hW2
  have c0 := HCF1.out.at 0 (by simp)
  have c1 := HCF1.out.at 1 (by simp)
  have c2 := HCF1.out.at 2 (by simp)
  have c3 := HCF1.out.at 3 (by simp)
  have c4 := HCF1.out.at 4 (by simp)
  have c5 := HCF1.out.at 5 (by simp)
  have c6 := HCF1.out.at 6 (by simp)
  have c7 := HCF1.out.at 7 (by simp)
  have c8 := HCF1.out.at 8 (by simp)
  have c9 := HCF1.out.at 9 (by simp)
  have c10 := HCF1.out.at 10 (by simp)
  have c11 := HCF1.out.at 11 (by simp)
  have c12 := HCF1.out.at 12 (by simp)
  have c13 := HCF1.out.at 13 (by simp)
  simp only [List.getElem_cons_succ, List.getElem_cons_zero] at c0 c1 c2 c3 c4 c5 c6 c7 c8 c9 c10 c11 c12 c13
  clear hW2 g2 hcb
  go_wp2_with fail
  rw [← HE2.out]
  refine (asnew_any p t (by have := HPB.out; omega) (by have := HPB.out; omega) [107] _ W2 HK.out ⟨by decide, by decide⟩ w.heap.size G2.out.size).mono ?_
  rintro e w3 ⟨g, rfl, has, hgw, hb3⟩
  have HCF3 := hid (HCF2.out.mono hb3)
  have G3 := hid (gr_trans G2.out hb3)
  have HAS3 := hid has
  clear has hgw hb3 kx HCF1 HCF2 HK HE1 HE2 c0 c1 c2 c3 c4 c5 c6 c7 c8 c9 c10 c11 c12 c13
  go_wp2_with fail
  refine (open_any w.heap.size _ g (.slice none 0 0) (newD p t [107]) HAS3.out 0 (by omega) true 1 10 (by omega) (by exact Nat.zero_le _)).mono ?_
  rintro e w4 ⟨rfl, hd⟩
  rw [gD_open p t HPB.out.1] at hd
  rw [gD_open p t HPB.out.1]
  obtain ⟨vr4, has4, hrt4, hch4⟩ := hd
  have HCF4 := hid (HCF3.out.chg hch4 (mine_not HAS3.out HCF3.out (by decide) (by decide)))
  have HAS4 := hid has4
  have G4 := hid (show Below w.heap.size w w4 from G3.out.trans (hch4.below G3.out.size HAS3.out.ge))
  clear has4 hrt4 hch4 HAS3 HCF3
  go_wp2_with fail
  refine (out_any w.heap.size _ g vr4 _ HAS4.out).mono ?_
  rintro e w5 ⟨rfl, has5, hou5, hch5⟩
  obtain ⟨rb, c9, s9, hxs, hrb, e0, e1, e2, e3, e4, hob⟩ := hou5.elem 0 (by simp)
  have e0 : w5.cell? ⟨rb, 0, none⟩ = some (.int .i64 0) := e0
  have e1 : w5.cell? ⟨rb, 1, none⟩ = some (.int .u32 0) := e1
  have e2 : w5.cell? ⟨rb, 2, none⟩ = some (.int .u8 1) := e2
  obtain ⟨q4, hq4⟩ := AsAt.row HAS4.out
  have HCF5 := hid (HCF4.out.chg hch5 (fun e => rowV_ne HCF4.out hq4 (by decide) e))
  have G5 := hid (show Below w.heap.size w w5 from G4.out.trans (hch5.below G4.out.size (fun k e => e ▸ HAS4.out.ge g (.inl rfl))))
  have HI0 := hid (show ∃ (f T wait last ns : Nat) (cl : List Value), As w.heap.size w5 g (.slice none 0 0) (gD p t f T wait) ∧ OwnK w5 w.heap.size 59 5 vr4 ns cl ∧ cl[(ns - 1) * 5]? = some (.int .i64 ((f % p : Nat) : Int)) ∧ ns = f + 1 ∧ Value.int .i64 0 = .int .i64 (last : Int) ∧ f ≤ t ∧ (1 ≤ wait ∧ wait ≤ 60) ∧ T = last + wait ∧ (last < 1 ∧ 1 ≤ T) ∧ T ≤ 3 + 60 * f ∧ RowV w5 cb 53 [.int .i64 (p : Int), .int .i64 128, .int .i64 2, .int .i64 65536, .int .i64 65536, .int .i64 1000, .int .i64 3, .int .i64 1, .int .i64 60, .int .i64 5, .int .i64 100, .int .i64 10, .int .i64 2, .int .i64 (t : Int)] ∧ Below w.heap.size w w5 from by
    obtain ⟨ss, hss, hokk, -⟩ := hou5
    obtain ⟨s0, rfl⟩ : ∃ s0, ss = [s0] := by
      cases ss with
      | nil => simp at hss
      | cons a l =>
        cases l with
        | nil => exact ⟨a, rfl⟩
        | cons b l => simp at hss
    exact ⟨0, 3, 3, 0, 1, _, has5, hokk, by simp [outCells, outCell], rfl, rfl, Nat.zero_le _, by omega, rfl, by omega, by omega, HCF5.out, G5.out⟩)
  rw [hxs] at HI0 ⊢
  clear has5 hou5 hch5 hrb e3 e4 hob hq4 HAS4 HCF4 G4
  go_wp2_with fail
  clear e0 e1 e2
  go_loopw [8, 9, 10] (fun y8 y9 y10 wr => ∃ (m : Nat) (v8 : Value), v8 = y8 ∧ y10 = .int .i64 (m : Int) ∧ m ≤ 4000 ∧ Hid (∃ (f T wait last ns : Nat) (cl : List Value), As w.heap.size wr g (.slice none 0 0) (gD p t f T wait) ∧ OwnK wr w.heap.size 59 5 v8 ns cl ∧ cl[(ns - 1) * 5]? = some (.int .i64 ((f % p : Nat) : Int)) ∧ ns = f + 1 ∧ y9 = .int .i64 (last : Int) ∧ f ≤ t ∧ (1 ≤ wait ∧ wait ≤ 60) ∧ T = last + wait ∧ (last < m ∧ m ≤ T) ∧ T ≤ 3 + 60 * f ∧ RowV wr cb 53 [.int .i64 (p : Int), .int .i64 128, .int .i64 2, .int .i64 65536, .int .i64 65536, .int .i64 1000, .int .i64 3, .int .i64 1, .int .i64 60, .int .i64 5, .int .i64 100, .int .i64 10, .int .i64 2, .int .i64 (t : Int)] ∧ Below w.heap.size w wr)) (fun _ _ y10 _ => 4000 - (intOf y10).toNat)
  case atStart => exact ⟨1, _, rfl, rfl, by omega, HI0⟩
  case round =>
    clear HI0
    obtain ⟨m, v8, h8, rfl, hm4, HL⟩ := hrel
    subst h8
    obtain ⟨f, T, wait, last, ns, cl, has, hok, hcl, hns, rfl, hf, hw, hT, hm, hT2, hcf, hg⟩ := HL.out
    have hpb := HPB.out
    have zlt : (m : Int) < 4000 := by omega
    obtain ⟨x1, x2, hy8⟩ : ∃ a c, v8 = Value.slice a ns c := by
      obtain ⟨-, ⟨e, e2⟩ | ⟨gg, mm, sp, -, e, -⟩⟩ := hok
      · exact ⟨_, _, by rw [e, e2]⟩
      · exact ⟨_, _, e⟩
    subst hy8
    have HAS := hid has
    have HOK := hid hok
    have HCL := hid hcl
    have HCF := hid hcf
    have HG := hid hg
    have HNS := hid hns
    have HNOW := hid (show 0 ≤ (m : Int) ∧ (m : Int) ≤ 2305843009213693952 by omega)
    have hwm : IntKind.i64.wrap ((m : Int) + 1) = ((m + 1 : Nat) : Int) := by rw [IntKind.wrap_i64]; omega
    have HBB := hid (show m ≤ 4000 ∧ last < m ∧ m ≤ T ∧ T = last + wait ∧ wait ≤ 60 ∧ f ≤ 40 by omega)
    obtain ⟨wo, hwo⟩ : ∃ y, y = wr := ⟨_, rfl⟩
    subst hwo
    rcases gD_tick p t f T wait last m hf (by omega) hw hT hm hT2 with ⟨a', L, f2, T2, wait2, last2, htk, hrow, hga, hf2, hL1, hLe, hft, hw2, hT22, hm2, hT23, hlast2⟩ | ⟨hft, hmT, htk⟩
    · have HTK := hid htk
      have HROW := hid hrow
      have HGA := hid hga
      have HLL := hid hL1
      have HLE := hid hLe
      have HEND := hid (And.intro hf2 (And.intro hft (And.intro hw2 (And.intro hT22 (And.intro hm2 (And.intro hT23 hlast2))))))
      clear htk hrow hga hL1 hLe hf2 hft hw2 hT22 hm2 hT23 hlast2 has hok hcl hcf hg hns hf hw hT hm hT2 hpb HL
      go_wp2_with fail
      refine (tick_any w.heap.size _ g (.slice none 0 0) (gD p t f T wait) HAS.out m HNOW.out a' .none HTK.out).mono ?_
      rintro e w5 ⟨rfl, vr5, has5, hrt5, hch5⟩
      rw [show EvD.val .none = .agg #[.bool false, .bool false, .bool false, .int .u32 0, .int .u32 0, .int .u16 0, .int .u16 0, .int .u32 0, .slice none 0 0, .int .u32 0] from rfl]
      have HG5 := hid (show Below w.heap.size w w5 from HG.out.trans (hch5.below HG.out.size HAS.out.ge))
      have HNM := hid (show ∀ (e : Nat) (blk : Nat) (l : List Value), RowV wo blk e l → e ≠ 77 → e ≠ 59 → ¬ Mine g (.slice none 0 0) blk from fun e blk l hl h1 h2 => mine_not HAS.out hl h1 h2)
      have HOK5 := hid (show OwnK w5 w.heap.size 59 5 (.slice x1 ns x2) ns cl from HOK.out.chg hch5 (fun k hk hm => by
        rcases hm with rfl | hm
        · obtain ⟨q, hq⟩ := AsAt.row HAS.out
          obtain ⟨l', hl'⟩ := HOK.out.rowV k hk
          exact rowV_ne hq hl' (by decide) rfl
        · simp [Value.ownBlock] at hm))
      have HCF5 := hid (HCF.out.chg hch5 (HNM.out _ _ _ HCF.out (by decide) (by decide)))
      obtain ⟨W6, hW6⟩ : ∃ y, y = w5.alloc (.cells #[.bool false, .bool false, .bool false, .int .u32 0, .int .u32 0, .int .u16 0, .int .u16 0, .int .u32 0, .slice none 0 0, .int .u32 0] 33 (0, 0)) := ⟨_, rfl⟩
      have HEV := hid (show RowV W6 w5.heap.size 33 [.bool false, .bool false, .bool false, .int .u32 0, .int .u32 0, .int .u16 0, .int .u16 0, .int .u32 0, .slice none 0 0, .int .u32 0] by rw [hW6]; exact RowV.new w5 _ _)
      have g6 : Below w5.heap.size w5 W6 := by rw [hW6]; exact (Below.refl _ _).alloc (Nat.le_refl _) _
      have HAS6 := hid (AsAt.mono has5 g6)
      have HE6 := hid hW6
      have HOK6 := hid (HOK5.out.mono g6)
      have HCF6 := hid (HCF5.out.mono g6)
      have HG6 := hid (gr_trans HG5.out g6)
      have HRT := hid hrt5
      clear has5 hrt5 hch5 hW6 g6 HAS HOK HCF HG HG5 HOK5 HCF5 HNM
      go_wp2_with fail
      rw [← HE6.out]
      refine (out_any w.heap.size _ g vr5 a' HAS6.out).mono ?_
      rintro e w7 ⟨rfl, has7, hou7, hch7⟩
      rw [HGA.out] at has7
      rw [HROW.out] at hou7
      obtain ⟨pl, cpl, hvr⟩ := hou7.form
      have HSL := hid (show ∀ k, vr5.ownBlock = some k → wo.heap.size ≤ k from fun k hk => (HRT.out k hk).resolve_left (fun e => by simp [Value.ownBlock] at e))
      have HSO := hid (show ∀ k, (Value.slice x1 ns x2).ownBlock = some k → k < w7.heap.size from fun k hk => by
        obtain ⟨l', hl'⟩ := HOK6.out.rowV k hk
        exact Nat.lt_of_lt_of_le hl'.lt hch7.size)
      rw [hvr] at hou7 HSL ⊢
      obtain ⟨q6, hq6⟩ := AsAt.row HAS6.out
      have HEV7 := hid (HEV.out.chg hch7 (fun e => rowV_ne HEV.out hq6 (by decide) e))
      have HOK7 := hid (show OwnK w7 w.heap.size 59 5 (.slice x1 ns x2) ns cl from HOK6.out.chg hch7 (fun k hk e => by
        subst e
        obtain ⟨l', hl'⟩ := HOK6.out.rowV k hk
        exact rowV_ne hq6 hl' (by decide) rfl))
      have HCF7 := hid (HCF6.out.chg hch7 (fun e => rowV_ne HCF6.out hq6 (by decide) e))
      have HG7 := hid (show Below w.heap.size w w7 from HG6.out.trans (hch7.below HG6.out.size (fun k e => e ▸ HAS6.out.ge g (.inl rfl))))
      have HAS7 := hid has7
      have HOU7 := hid hou7
      have v1 := HEV7.out.at 1 (by simp)
      simp only [List.getElem_cons_succ, List.getElem_cons_zero] at v1
      obtain ⟨iz, hiz⟩ : ∃ i : Nat, i = 0 := ⟨_, rfl⟩
      have HIZ := hid hiz
      have HL0 := hid (show ∃ (ns2 lz : Nat) (cl2 : List Value), OwnK w7 w.heap.size 59 5 (.slice x1 ns x2) ns2 cl2 ∧ cl2[(ns2 - 1) * 5]? = some (.int .i64 (((f + iz) % p : Nat) : Int)) ∧ ns2 = f + 1 + iz ∧ Value.int .i64 (last : Int) = .int .i64 (lz : Int) ∧ lz = (if iz = 0 then last else m) ∧ As w.heap.size w7 g (.slice none 0 0) (gD p t f2 T2 wait2) ∧ (iz = 0 → OutsAt 59 5 w.heap.size w7 (.slice pl L.length cpl) L) ∧ RowV w7 cb 53 [.int .i64 (p : Int), .int .i64 128, .int .i64 2, .int .i64 65536, .int .i64 65536, .int .i64 1000, .int .i64 3, .int .i64 1, .int .i64 60, .int .i64 5, .int .i64 100, .int .i64 10, .int .i64 2, .int .i64 (t : Int)] ∧ Below w.heap.size w w7 from ⟨ns, last, cl, HOK7.out, by rw [hiz]; exact HCL.out, by rw [hiz]; exact HNS.out, rfl, by rw [if_pos hiz], has7, fun _ => hou7, HCF7.out, HG7.out⟩)
      clear hiz has7 hou7 hch7 hvr hq6 q6 HEV HOK6 HCF6 HG6 HAS6 HRT HOK7 HCF7 HG7 HAS7 HOU7 HE6 HEV7
      go_wp2_with fail
      clear v1
      go_loopw [8, 9, 13] (fun z8 z9 z13 wi => ∃ (i : Nat) (u8 : Value), u8 = z8 ∧ i ≤ L.length ∧ z13 = .int .i64 (i : Int) ∧ Hid (∃ (ns2 lz : Nat) (cl2 : List Value), OwnK wi w.heap.size 59 5 u8 ns2 cl2 ∧ cl2[(ns2 - 1) * 5]? = some (.int .i64 (((f + i) % p : Nat) : Int)) ∧ ns2 = f + 1 + i ∧ z9 = .int .i64 (lz : Int) ∧ lz = (if i = 0 then last else m) ∧ As w.heap.size wi g (.slice none 0 0) (gD p t f2 T2 wait2) ∧ (i = 0 → OutsAt 59 5 w.heap.size wi (.slice pl L.length cpl) L) ∧ RowV wi cb 53 [.int .i64 (p : Int), .int .i64 128, .int .i64 2, .int .i64 65536, .int .i64 65536, .int .i64 1000, .int .i64 3, .int .i64 1, .int .i64 60, .int .i64 5, .int .i64 100, .int .i64 10, .int .i64 2, .int .i64 (t : Int)] ∧ Below w.heap.size w wi)) (fun _ _ z13 _ => L.length - (intOf z13).toNat)
      case atStart => exact ⟨iz, _, rfl, by rw [HIZ.out]; exact Nat.zero_le _, by rw [HIZ.out]; rfl, HL0⟩
      case round =>
        clear HL0
        obtain ⟨i, u8, h8, hi, rfl, HL2⟩ := hrel
        subst h8
        by_cases hlt : i < L.length
        · have hi0 : i = 0 := by have := HLL.out; omega
          obtain ⟨ns, lz, cl, hok, hcl, hns, rfl, hlz, has, hou, hcf, hg⟩ := HL2.out
          obtain ⟨lb, c9, s9, hxs, hrb, e0, e1, e2, e3, e4, hob⟩ := (hou hi0).elem i hlt
          simp only [Value.slice.injEq] at hxs
          obtain ⟨rfl, -, -⟩ := hxs
          obtain ⟨q1, q2, q3⟩ := HLE.out i hlt
          rw [q1] at e0
          rw [q2] at e1
          rw [q3] at e2 e3 hob
          obtain ⟨ps, nq, cps, rfl⟩ : ∃ p n c, s9 = Value.slice p n c := by
            obtain ⟨p9, c9, hsf, -⟩ := hob.rd
            exact ⟨_, _, _, hsf⟩
          obtain ⟨pth, hpth⟩ : ∃ y, y = (f + 1) % p := ⟨_, rfl⟩
          rw [← hpth] at e0
          have e1' : wr.cell? ⟨lb, i * 5 + 1, none⟩ = some (.int .u32 0) := e1
          have e2' : wr.cell? ⟨lb, i * 5 + 2, none⟩ = some (.int .u8 1) := e2
          have e3' : wr.cell? ⟨lb, i * 5 + 2 + 1, none⟩ = some (.int .u8 0) := e3
          clear e1 e2 e3 q1 q2 q3
          obtain ⟨j, hj⟩ : ∃ j, j = ns - 1 := ⟨_, rfl⟩
          rw [← hj] at hcl
          obtain ⟨lp, hlp⟩ : ∃ y, y = f % p := ⟨_, rfl⟩
          have hcl : cl[j * 5]? = some (.int .i64 (lp : Int)) := by rw [hcl, hi0, hlp]; rfl
          have hjn : j < ns := by omega
          obtain ⟨sb, csb, rfl, hsj⟩ : ∃ sb csb, u8 = .slice (some ⟨sb, 0, none⟩) ns csb ∧ wr.cell? ⟨sb, j * 5, none⟩ = some (.int .i64 (lp : Int)) := by
            obtain ⟨h0, ⟨e, e2⟩ | ⟨gg, mm, sp, h1', e, h2', hr', hm'⟩⟩ := hok
            · omega
            · refine ⟨gg, _, e, ?_⟩
              have : RowV wr gg 59 (cl ++ sp) := hr'
              rw [this.cell, List.getElem?_append_left (by have := (List.getElem?_eq_some_iff.1 hcl).1; exact this)]
              exact hcl
          have E0 := hid e0
          have E1 := hid e1'
          have E2 := hid e2'
          have E3 := hid e3'
          have E4 := hid e4
          have SJ := hid hsj
          have HOK := hid hok
          have HAS := hid has
          have HCF := hid hcf
          have HG := hid hg
          have HNS := hid hns
          have HI0 := hid hi0
          have HLT := hid hlt
          have HC0 := hid (HCF.out.at 0 (by simp))
          have HC8 := hid (HCF.out.at 8 (by simp))
          simp only [List.getElem_cons_succ, List.getElem_cons_zero] at HC0 HC8
          have hl0 : lz = last := by rw [hlz]; exact if_pos hi0
          rw [hl0]
          have j0 : (0 : Int) ≤ (j : Int) := by omega
          have j1 : (j : Int) < (ns : Int) := by omega
          have j2 : ((j : Int)).toNat = j := by omega
          have J012 := hid (And.intro j0 (And.intro j1 j2))
          have i0 : (0 : Int) ≤ (i : Int) := by omega
          have i1 : (i : Int) < (L.length : Int) := by omega
          have i2 : ((i : Int)).toNat = i := by omega
          have I012 := hid (And.intro i0 (And.intro i1 i2))
          obtain ⟨lq, hlq⟩ : ∃ y, y = lp + 1 := ⟨_, rfl⟩
          obtain ⟨df, hdf⟩ : ∃ y, y = m - last := ⟨_, rfl⟩
          have hpb := HPB.out
          have hbb := HBB.out
          have hfp : f % p < p := Nat.mod_lt _ (by omega)
          have hfp2 : (f + 1) % p < p := Nat.mod_lt _ (by omega)
          have WJ := hid (show IntKind.i64.wrap ((ns : Int) - 1) = (j : Int) by rw [IntKind.wrap_i64]; omega)
          have WL := hid (show IntKind.i64.wrap ((lp : Int) + 1) = (lq : Int) by rw [IntKind.wrap_i64]; omega)
          have WR := hid (show ¬ p = 0 ∧ ((p : Int) == 0) = false ∧ (lq : Int).tmod (p : Int) = (pth : Int) ∧ IntKind.i64.wrap (pth : Int) = (pth : Int) by
            refine ⟨by omega, by simp; omega, ?_, by rw [IntKind.wrap_i64]; omega⟩
            rw [Int.tmod_eq_emod_of_nonneg (by omega), hlq, hpth, hlp, ← Nat.mod_add_mod]
            rfl)
          have WD := hid (show IntKind.i64.wrap ((m : Int) - (last : Int)) = (df : Int) ∧ ¬ (60 : Int) < (df : Int) from ⟨by rw [IntKind.wrap_i64]; omega, by omega⟩)
          have HPTH := hid hpth
          have hwi : IntKind.i64.wrap ((i : Int) + 1) = ((i + 1 : Nat) : Int) := by rw [IntKind.wrap_i64]; omega
          have HLN := hid (show (ns + 1) * 48 ≤ 140737488355328 ∧ ns + 1 ≤ 140737488355328 by omega)
          clear hpth hlp hj hjn j0 j1 j2 hlq hdf hfp hfp2 hpb hbb e0 e1' e2' e3' e4 hob hsj hok has hcf hg hns hou hcl HL2 hi hi0 hl0 hlz hlt
          obtain ⟨wq, hwq⟩ : ∃ y, y = wr := ⟨_, rfl⟩
          subst hwq
          go_wp2_with fail
          refine wp_region_gr [Is (.slice (some ⟨lb, 0, none⟩) L.length cpl), Is (.int .i64 (i : Int)), Is (.pointer (some ⟨lb, i * 5, none⟩)), Is (.pointer (some ⟨lb, i * 5, none⟩)), Is (.int .i64 (pth : Int)), Is (.slice (some ⟨sb, 0, none⟩) ns csb), Is (.slice (some ⟨sb, 0, none⟩) ns csb), Is (.int .i64 ((ns : Nat) : Int)), Is (.int .i64 (j : Int)), Is (.pointer (some ⟨sb, j * 5, none⟩)), Is (.pointer (some ⟨sb, j * 5, none⟩)), Is (.int .i64 (lp : Int)), Is (.int .i64 (lq : Int)), Is (.pointer (some ⟨cb, 0, none⟩)), Is (.int .i64 (p : Int)), Is (.int .i64 (pth : Int)), Is (.bool false), Is (.bool false), Is (.int .i64 (m : Int)), Is (.int .i64 (last : Int)), Is (.int .i64 (df : Int)), Is (.pointer (some ⟨cb, 8, none⟩)), Is (.int .i64 60), Is (.bool false), Is (.bool false), Is (.bool false), Is (.slice (some ⟨lb, 0, none⟩) L.length cpl), Is (.int .i64 (i : Int)), Is (.pointer (some ⟨lb, i * 5, none⟩)), Is (.pointer (some ⟨lb, i * 5 + 2, none⟩)), Is (.pointer (some ⟨lb, i * 5 + 2, none⟩)), Is (.int .u8 1), Is (.bool false), Is (.bool false)] (by kernel_rfl) (by kernel_rfl) (by kernel_rfl) ?_ ?_ ?_
          · simp only [StabAll, Is.gr, RdF.gr, OwnF.gr, AnyF.gr, and_self]
          · try (rename_i Kk hKk; clear hKk Kk)
            simp only [AllOps, List.map_cons, List.map_nil, depsOf, List.filterMap_cons, List.filterMap_nil, Region.binds, depFacts, guardF, reduceIte, List.getD_eq_getElem?_getD, List.getElem?_cons_succ, List.getElem?_cons_zero, Option.getD_some, factAt, and_true]
            refine ⟨?_, ?_, ?_, ?_, ?_, ?_, ?_, ?_, ?_, ?_, ?_, ?_, ?_, ?_, ?_, ?_, ?_, ?_, ?_, ?_, ?_, ?_, ?_, ?_, ?_, ?_, ?_, ?_, ?_, ?_, ?_, ?_, ?_, ?_⟩
            all_goals intro ρ wv hρ hR hd
            all_goals try simp only [Is] at hd
            · exact opOk_move (.inl rfl) ⟨by simp only [Is]; (first | exact hρ.2 12 rfl | exact hd | exact hd.1 | exact hd.2 | simp [hd]), GrR.refl _⟩
            · exact opOk_move (.inl rfl) ⟨by simp only [Is]; (first | exact hρ.2 13 rfl | exact hd | exact hd.1 | exact hd.2 | simp [hd]), GrR.refl _⟩
            · exact opOk_val (v := .pointer (some ⟨lb, i * 5, none⟩)) (w' := wv) (by simp [execOp, go_sem, hρ.1.const, hρ.1.func, hd, I012.out.1, I012.out.2.1, I012.out.2.2]) ⟨rfl, GrR.refl _⟩
            · exact opOk_val (v := .pointer (some ⟨lb, i * 5, none⟩)) (w' := wv) (by simp [execOp, go_sem, hρ.1.const, hρ.1.func, hd]) ⟨rfl, GrR.refl _⟩
            · (have h0 := cell?_of_below hR E0.out; exact opOk_val (v := .int .i64 (pth : Int)) (w' := wv) (by simp [execOp, go_sem, hd, h0]) ⟨rfl, GrR.refl _⟩)
            · exact opOk_move (.inl rfl) ⟨by simp only [Is]; (first | exact hρ.2 8 rfl | exact hd | exact hd.1 | exact hd.2 | simp [hd]), GrR.refl _⟩
            · exact opOk_move (.inl rfl) ⟨by simp only [Is]; (first | exact hρ.2 8 rfl | exact hd | exact hd.1 | exact hd.2 | simp [hd]), GrR.refl _⟩
            · exact opOk_len rfl _ Tryd.underlying28 _ (ns) _ (by first | exact hρ.2 _ rfl | exact hd | exact hd.1 | exact hd.2 | simp [hd]) ⟨rfl, GrR.refl _⟩
            · exact opOk_val (v := .int .i64 (j : Int)) (w' := wv) (by simp [execOp, go_sem, hρ.1.const, hρ.1.func, hd, WJ.out]) ⟨rfl, GrR.refl _⟩
            · exact opOk_val (v := .pointer (some ⟨sb, j * 5, none⟩)) (w' := wv) (by simp [execOp, go_sem, hρ.1.const, hρ.1.func, hd, J012.out.1, J012.out.2.1, J012.out.2.2]) ⟨rfl, GrR.refl _⟩
            · exact opOk_val (v := .pointer (some ⟨sb, j * 5, none⟩)) (w' := wv) (by simp [execOp, go_sem, hρ.1.const, hρ.1.func, hd]) ⟨rfl, GrR.refl _⟩
            · (have h0 := cell?_of_below hR SJ.out; exact opOk_val (v := .int .i64 (lp : Int)) (w' := wv) (by simp [execOp, go_sem, hd, h0]) ⟨rfl, GrR.refl _⟩)
            · exact opOk_val (v := .int .i64 (lq : Int)) (w' := wv) (by simp [execOp, go_sem, hρ.1.const, hρ.1.func, hd, WL.out]) ⟨rfl, GrR.refl _⟩
            · exact opOk_val (v := .pointer (some ⟨cb, 0, none⟩)) (w' := wv) (by simp [execOp, go_sem, hρ.1.const, hρ.1.func, hd, (hρ.2 5 rfl)]) ⟨rfl, GrR.refl _⟩
            · (have h0 := cell?_of_below hR HC0.out; exact opOk_val (v := .int .i64 (p : Int)) (w' := wv) (by simp [execOp, go_sem, hd, h0]) ⟨rfl, GrR.refl _⟩)
            · exact opOk_val (v := .int .i64 (pth : Int)) (w' := wv) (by simp [execOp, go_sem, hρ.1.const, hρ.1.func, hd, WR.out.1, WR.out.2.1, WR.out.2.2.1, WR.out.2.2.2]) ⟨rfl, GrR.refl _⟩
            · exact opOk_val (v := .bool false) (w' := wv) (by simp [execOp, go_sem, hρ.1.const, hρ.1.func, hd]) ⟨rfl, GrR.refl _⟩
            · exact opOk_move (.inl rfl) ⟨by simp only [Is]; (first | exact hρ.2 127 rfl | exact hd | exact hd.1 | exact hd.2 | simp [hd]), GrR.refl _⟩
            · refine ⟨fun _ => ?_, fun hg => absurd (by simp [hd]) hg⟩; exact opOk_move (.inl rfl) ⟨by simp only [Is]; (first | exact hρ.2 10 rfl | exact hd | exact hd.1 | exact hd.2 | simp [hd]), GrR.refl _⟩
            · refine ⟨fun _ => ?_, fun hg => absurd (by simp [hd]) hg⟩; exact opOk_move (.inl rfl) ⟨by simp only [Is]; (first | exact hρ.2 9 rfl | exact hd | exact hd.1 | exact hd.2 | simp [hd]), GrR.refl _⟩
            · refine ⟨fun _ => ?_, fun hg => absurd (by simp [hd]) hg⟩; exact opOk_val (v := .int .i64 (df : Int)) (w' := wv) (by simp [execOp, go_sem, hρ.1.const, hρ.1.func, hd, WD.out.1]) ⟨rfl, GrR.refl _⟩
            · refine ⟨fun _ => ?_, fun hg => absurd (by simp [hd]) hg⟩; exact opOk_val (v := .pointer (some ⟨cb, 8, none⟩)) (w' := wv) (by simp [execOp, go_sem, hρ.1.const, hρ.1.func, hd, (hρ.2 5 rfl)]) ⟨rfl, GrR.refl _⟩
            · refine ⟨fun _ => ?_, fun hg => absurd (by simp [hd]) hg⟩; (have h0 := cell?_of_below hR HC8.out; exact opOk_val (v := .int .i64 60) (w' := wv) (by simp [execOp, go_sem, hd, h0]) ⟨rfl, GrR.refl _⟩)
            · refine ⟨fun _ => ?_, fun hg => absurd (by simp [hd]) hg⟩; exact opOk_val (v := .bool false) (w' := wv) (by simp [execOp, go_sem, hρ.1.const, hρ.1.func, hd, WD.out.2]) ⟨rfl, GrR.refl _⟩
            · exact opOk_val (v := .bool false) (w' := wv) (by simp [execOp, go_sem, hρ.1.const, hρ.1.func, hd]) ⟨rfl, GrR.refl _⟩
            · exact opOk_move (.inl rfl) ⟨by simp only [Is]; (first | exact hρ.2 135 rfl | exact hd | exact hd.1 | exact hd.2 | simp [hd]), GrR.refl _⟩
            · refine ⟨fun _ => ?_, fun hg => absurd (by simp [hd]) hg⟩; exact opOk_move (.inl rfl) ⟨by simp only [Is]; (first | exact hρ.2 12 rfl | exact hd | exact hd.1 | exact hd.2 | simp [hd]), GrR.refl _⟩
            · refine ⟨fun _ => ?_, fun hg => absurd (by simp [hd]) hg⟩; exact opOk_move (.inl rfl) ⟨by simp only [Is]; (first | exact hρ.2 13 rfl | exact hd | exact hd.1 | exact hd.2 | simp [hd]), GrR.refl _⟩
            · refine ⟨fun _ => ?_, fun hg => absurd (by simp [hd]) hg⟩; exact opOk_val (v := .pointer (some ⟨lb, i * 5, none⟩)) (w' := wv) (by simp [execOp, go_sem, hρ.1.const, hρ.1.func, hd, I012.out.1, I012.out.2.1, I012.out.2.2]) ⟨rfl, GrR.refl _⟩
            · refine ⟨fun _ => ?_, fun hg => absurd (by simp [hd]) hg⟩; exact opOk_val (v := .pointer (some ⟨lb, i * 5 + 2, none⟩)) (w' := wv) (by simp [execOp, go_sem, hρ.1.const, hρ.1.func, hd]) ⟨rfl, GrR.refl _⟩
            · refine ⟨fun _ => ?_, fun hg => absurd (by simp [hd]) hg⟩; exact opOk_val (v := .pointer (some ⟨lb, i * 5 + 2, none⟩)) (w' := wv) (by simp [execOp, go_sem, hρ.1.const, hρ.1.func, hd]) ⟨rfl, GrR.refl _⟩
            · refine ⟨fun _ => ?_, fun hg => absurd (by simp [hd]) hg⟩; (have h0 := cell?_of_below hR E2.out; exact opOk_val (v := .int .u8 1) (w' := wv) (by simp [execOp, go_sem, hd, h0]) ⟨rfl, GrR.refl _⟩)
            · refine ⟨fun _ => ?_, fun hg => absurd (by simp [hd]) hg⟩; exact opOk_val (v := .bool false) (w' := wv) (by simp [execOp, go_sem, hρ.1.const, hρ.1.func, hd]) ⟨rfl, GrR.refl _⟩
            · exact opOk_val (v := .bool false) (w' := wv) (by simp [execOp, go_sem, hρ.1.const, hρ.1.func, hd]) ⟨rfl, GrR.refl _⟩
          · intro vals wv hR hall
            have i33 := hall 33 (by simp)
            simp only [factAt, Is, List.getD_eq_getElem?_getD, List.getElem?_cons_succ, List.getElem?_cons_zero, Option.getD_some] at i33
            clear hall
            simp only [fillFrom, Act.put, i33, List.setIfInBounds_toArray, List.set_cons_zero, List.set_cons_succ]
            obtain ⟨w20, hw20⟩ : ∃ y, y = wv := ⟨_, rfl⟩
            subst hw20
            have e0 := cell?_of_below hR E0.out
            have e1 := cell?_of_below hR E1.out
            have e2 := cell?_of_below hR E2.out
            have e3 := cell?_of_below hR E3.out
            have e4 := cell?_of_below hR E4.out
            have HOK := hid (HOK.out.mono hR)
            have HAS := hid (AsAt.mono HAS.out hR)
            have HCF := hid (HCF.out.mono hR)
            have HG := hid (HG.out.trans (hR.mono HG.out.size))
            have HONE := hid (show ∀ u ∈ ([.int .i64 (pth : Int), .int .u32 0, .int .u8 1, .int .u8 0, .slice ps nq cps] : List Value), u.oneCell' = true from fun u hu => by
              simp only [List.mem_cons, List.not_mem_nil, or_false] at hu
              rcases hu with rfl | rfl | rfl | rfl | rfl <;> rfl)
            have HNW := hid (own_new w20 w20.heap.size 59 5 [.int .i64 (pth : Int), .int .u32 0, .int .u8 1, .int .u8 0, .slice ps nq cps] (Nat.le_refl _) rfl)
            have gal := hid (show Below w20.heap.size w20 (w20.alloc (.cells [.int .i64 (pth : Int), .int .u32 0, .int .u8 1, .int .u8 0, .slice ps nq cps].toArray 59 (0, 0))) from (Below.refl _ _).alloc (Nat.le_refl _) _)
            clear hR i33 HC0 HC8 E0 E1 E2 E3 E4 SJ
            go_wp2_with (at_builtin; refine wpList_append_OwnL rfl (.tmp 145) (.tmp 150) 28 rfl w.heap.size 59 (.agg #[.int .i64 0, .int .u32 0, .int .u8 0, .int .u8 0, .slice none 0 0]) 5 48 rfl (by decide) Tryd.underlying28 infoOut _ _ ns 1 cl [.int .i64 (pth : Int), .int .u32 0, .int .u8 1, .int .u8 0, .slice ps nq cps] HONE.out rfl (HOK.out.mono gal.out) rfl HNW.out.rd.lax HLN.out.1 HLN.out.2 (Nat.le_trans HG.out.size gal.out.size) ?_)
            intro v22 w22 h1 h2 h3
            clear h3
            have HOKX := hid (HOK.out.mono gal.out)
            have hc22 : Chg (fun k => k = sb) _ w22 := (Chg.of_grown h2).weak (fun k _ e => by simp [Value.ownBlock] at e; exact e.symm)
            obtain ⟨lx, hlx⟩ := HOKX.out.rowV sb (by simp [Value.ownBlock])
            have has22 : As w.heap.size w22 g (.slice none 0 0) (gD p t f2 T2 wait2) := (AsAt.mono HAS.out gal.out).chg hc22 (fun k l' hk hl' => by subst hk; exact absurd (rowV_fun hlx hl').1 (by decide)) (fun e => by
              obtain ⟨q, hq⟩ := AsAt.row (AsAt.mono HAS.out gal.out)
              exact rowV_ne hq hlx (by decide) e) (fun k hk => by simp [Value.ownBlock] at hk)
            have hcf22 := (HCF.out.mono gal.out).chg hc22 (fun e => rowV_ne (HCF.out.mono gal.out) hlx (by decide) e)
            have hg22 : Below w.heap.size w w22 := (gr_trans HG.out gal.out).trans (hc22.below (Nat.le_trans HG.out.size gal.out.size) (fun k e => e ▸ HOKX.out.ge sb (by simp [Value.ownBlock])))
            have hcl22 : (cl ++ [.int .i64 (pth : Int), .int .u32 0, .int .u8 1, .int .u8 0, .slice ps nq cps])[(ns + 1 - 1) * 5]? = some (.int .i64 (((f + (i + 1)) % p : Nat) : Int)) := by
              rw [show (ns + 1 - 1) * 5 = cl.length by rw [HOKX.out.1]; omega, List.getElem?_append_right (Nat.le_refl _), Nat.sub_self, HI0.out, HPTH.out]
              rfl
            have HL := hid (show ∃ (ns2 lz : Nat) (cl2 : List Value), OwnK w22 w.heap.size 59 5 v22 ns2 cl2 ∧ cl2[(ns2 - 1) * 5]? = some (.int .i64 (((f + (i + 1)) % p : Nat) : Int)) ∧ ns2 = f + 1 + (i + 1) ∧ Value.int .i64 (m : Int) = .int .i64 (lz : Int) ∧ lz = (if i + 1 = 0 then last else m) ∧ As w.heap.size w22 g (.slice none 0 0) (gD p t f2 T2 wait2) ∧ (i + 1 = 0 → OutsAt 59 5 w.heap.size w22 (.slice (some ⟨lb, 0, none⟩) L.length cpl) L) ∧ RowV w22 cb 53 [.int .i64 (p : Int), .int .i64 128, .int .i64 2, .int .i64 65536, .int .i64 65536, .int .i64 1000, .int .i64 3, .int .i64 1, .int .i64 60, .int .i64 5, .int .i64 100, .int .i64 10, .int .i64 2, .int .i64 (t : Int)] ∧ Below w.heap.size w w22 from ⟨ns + 1, m, _, h1, hcl22, by rw [HNS.out]; omega, rfl, by rw [if_neg (by omega)], has22, fun h => absurd h (by omega), hcf22, hg22⟩)
            clear h1 h2 hc22 hlx lx has22 hcf22 hg22 hcl22 e0 e1 e2 e3 e4 HOK HAS HCF HG HONE HNW gal HOKX
            go_wp2_with fail
            have hlt := HLT.out
            go_roundw
            case rel => exact ⟨i + 1, _, rfl, by omega, by go_num, HL⟩
            case measure => simp [intOf]; omega
        · have hin : i = L.length := by omega
          obtain ⟨ns, lz, cl, hok, hcl, hns, rfl, hlz, has, hou, hcf, hg⟩ := HL2.out
          obtain ⟨hf2, hft, hw2, hT22, hm2, hT23, hlast2⟩ := HEND.out
          have HL := hid (show ∃ (f T wait last0 ns : Nat) (cl : List Value), As w.heap.size wr g (.slice none 0 0) (gD p t f T wait) ∧ OwnK wr w.heap.size 59 5 u8 ns cl ∧ cl[(ns - 1) * 5]? = some (.int .i64 ((f % p : Nat) : Int)) ∧ ns = f + 1 ∧ Value.int .i64 (lz : Int) = .int .i64 (last0 : Int) ∧ f ≤ t ∧ (1 ≤ wait ∧ wait ≤ 60) ∧ T = last0 + wait ∧ (last0 < m + 1 ∧ m + 1 ≤ T) ∧ T ≤ 3 + 60 * f ∧ RowV wr cb 53 [.int .i64 (p : Int), .int .i64 128, .int .i64 2, .int .i64 65536, .int .i64 65536, .int .i64 1000, .int .i64 3, .int .i64 1, .int .i64 60, .int .i64 5, .int .i64 100, .int .i64 10, .int .i64 2, .int .i64 (t : Int)] ∧ Below w.heap.size w wr from ⟨f2, T2, wait2, last2, ns, cl, has, hok, by rw [hcl, hf2, hin], by rw [hns, hf2, hin]; omega, by rw [hlz, hlast2, hin], hft, hw2, hT22, hm2, hT23, hcf, hg⟩)
          have HM4 := hid (show m + 1 ≤ 4000 by have := HPB.out; omega)
          have zli : ¬ (i : Int) < (L.length : Int) := by omega
          clear hok hcl hns has hou hcf hg hf2 hft hw2 hT22 hm2 hT23 hlast2 HL2 hlt hi hin hlz
          go_wp2_with fail
          have hm4 := HM4.out
          go_roundw
          case rel => (repeat apply Exists.intro); exact ⟨⟨m + 1, _, rfl, by go_num, hm4, HL⟩, rfl⟩
          case measure => simp [intOf]; omega
    · have HTK := hid htk
      have HEND := hid (And.intro hft (And.intro hmT (And.intro hT (And.intro hw (And.intro hm hT2)))))
      obtain ⟨df, hdf⟩ : ∃ y, y = m - last := ⟨_, rfl⟩
      have WN := hid (show IntKind.i64.wrap ((t : Int) + 1) = (ns : Int) by rw [IntKind.wrap_i64]; omega)
      have WD := hid (show IntKind.i64.wrap ((m : Int) - (last : Int)) = (df : Int) ∧ (df : Int) ≤ 60 from ⟨by rw [IntKind.wrap_i64]; omega, by omega⟩)
      clear htk hft hmT has hok hcl hcf hg hns hf hw hT hm hT2 hpb hdf HL
      go_wp2_with fail
      refine (tick_any w.heap.size _ g (.slice none 0 0) (gD p t f T wait) HAS.out m HNOW.out _ _ HTK.out).mono ?_
      rintro e w5 ⟨rfl, vr5, has5, hrt5, hch5⟩
      rw [show EvD.val ⟨false, true, false, .zero, 0⟩ = .agg #[.bool false, .bool true, .bool false, .int .u32 0, .int .u32 0, .int .u16 0, .int .u16 0, .int .u32 0, .slice none 0 0, .int .u32 0] from rfl]
      have HG5 := hid (show Below w.heap.size w w5 from HG.out.trans (hch5.below HG.out.size HAS.out.ge))
      have HCF5 := hid (HCF.out.chg hch5 (mine_not HAS.out HCF.out (by decide) (by decide)))
      obtain ⟨W6, hW6⟩ : ∃ y, y = w5.alloc (.cells #[.bool false, .bool true, .bool false, .int .u32 0, .int .u32 0, .int .u16 0, .int .u16 0, .int .u32 0, .slice none 0 0, .int .u32 0] 33 (0, 0)) := ⟨_, rfl⟩
      have HEV := hid (show RowV W6 w5.heap.size 33 [.bool false, .bool true, .bool false, .int .u32 0, .int .u32 0, .int .u16 0, .int .u16 0, .int .u32 0, .slice none 0 0, .int .u32 0] by rw [hW6]; exact RowV.new w5 _ _)
      have g6 : Below w5.heap.size w5 W6 := by rw [hW6]; exact (Below.refl _ _).alloc (Nat.le_refl _) _
      have HAS6 := hid (AsAt.mono has5 g6)
      have HE6 := hid hW6
      have HCF6 := hid (HCF5.out.mono g6)
      have HG6 := hid (gr_trans HG5.out g6)
      clear has5 hrt5 hch5 hW6 g6 HAS HOK HCF HG HG5 HCF5
      go_wp2_with fail
      rw [← HE6.out]
      refine (out_any w.heap.size _ g vr5 _ HAS6.out).mono ?_
      rintro e w7 ⟨rfl, has7, hou7, hch7⟩
      obtain ⟨pl, cpl, hvr⟩ := hou7.form
      rw [hvr]
      rw [show ((gEnd p t f T wait).row).length = 0 from rfl]
      obtain ⟨q6, hq6⟩ := AsAt.row HAS6.out
      have HEV7 := hid (HEV.out.chg hch7 (fun e => rowV_ne HEV.out hq6 (by decide) e))
      have HCF7 := hid (HCF6.out.chg hch7 (fun e => rowV_ne HCF6.out hq6 (by decide) e))
      have HG7 := hid (show Below w.heap.size w w7 from HG6.out.trans (hch7.below HG6.out.size (fun k e => e ▸ HAS6.out.ge g (.inl rfl))))
      have HAS7 := hid has7
      have v1 := HEV7.out.at 1 (by simp)
      have v2 := HEV7.out.at 2 (by simp)
      have c8 := HCF7.out.at 8 (by simp)
      have c13 := HCF7.out.at 13 (by simp)
      simp only [List.getElem_cons_succ, List.getElem_cons_zero] at v1 v2 c8 c13
      have wn := WN.out
      have wd1 := WD.out.1
      have wd2 := WD.out.2
      clear has7 hou7 hch7 hvr hq6 q6 HEV HCF6 HG6 HAS6 HE6 HEV7 HCF7
      go_wp2_with fail
      refine (state_any w.heap.size _ g _ _ HAS7.out).mono ?_
      rintro e w8 ⟨rfl, rfl⟩
      rw [show (({ gEnd p t f T wait with row := [] } : AsD).st : Int) = 0 from rfl]
      go_wp2_with fail
      refine (works_any _ (HLAID.out.mono HG7.out)).mono ?_
      rintro e w9 ⟨rfl, hb9⟩
      have HG9 := hid (HG7.out.trans (hb9.mono HG7.out.size))
      clear hb9
      go_wp2_with fail
      go_ret
      exact ⟨rfl, HG9.out⟩
end Go.Proofs.YtiimlanbbfhkjaaDoor

/- The document's body and Write of cookies. Conditions: what comes in reads as it should. -/
import Derived.Test.YtjpemfciiakphaaDoorCookWrite
namespace Go.Proofs.YtjpemfciiakphaaDoor
open Go.RowKit Go.FL

set_option maxRecDepth 100000 in
set_option maxHeartbeats 1000000 in
theorem cookBody_any (c : CookD) (hc : c.wf) (w : World) :
    Calls Tryd.prog 23 #[c.val] w (RetOwn w 5 c.body) := by
  have HBD := hid (body_parts c)
  obtain ⟨bd, hbd⟩ : ∃ bd, bd = c.body := ⟨_, rfl⟩
  rw [← hbd] at HBD
  rw [← hbd]
  clear hbd
  obtain ⟨⟨hb1, hb2⟩, h1, h2, h3, h4, h5, h6, h7⟩ := hc
  obtain ⟨born, ot, pt, otsn, ptsn, rwn, out, in_⟩ := c
  simp only [CookD.val] at *
  have WB0 := wrap_born born
  have hbn := bornN_lt born
  generalize bornN born = bn at *
  have WB := WB0
  have WO := wrap_nat out (by omega)
  have WI := wrap_nat in_ (by omega)
  clear WB0
  obtain ⟨xs, hxs⟩ : ∃ xs, xs = [ot, pt, otsn, ptsn, rwn] := ⟨_, rfl⟩
  have HXL := hid (show xs.length = 5 by rw [hxs]; rfl)
  have HXB := hid (show ∀ x ∈ xs, x < 4294967296 by rw [hxs]; simp; omega)
  have HXS := hid hxs
  obtain ⟨W, hW⟩ : ∃ W, W = w.alloc (.cells #[.int .i64 born, .int .u32 (ot : Int), .int .u32 (pt : Int), .int .u32 (otsn : Int), .int .u32 (ptsn : Int), .int .u32 (rwn : Int), .int .u16 (out : Int), .int .u16 (in_ : Int)] 26 (0, 0)) := ⟨_, rfl⟩
  have hr : RowV W w.heap.size 26 [.int .i64 born, .int .u32 (ot : Int), .int .u32 (pt : Int), .int .u32 (otsn : Int), .int .u32 (ptsn : Int), .int .u32 (rwn : Int), .int .u16 (out : Int), .int .u16 (in_ : Int)] := by rw [hW]; exact RowV.new w 26 _
  have HW := hid (show Below w.heap.size w W by rw [hW]; exact (Below.refl _ _).alloc (Nat.le_refl _) _)
  have HE := hid hW
  have HR := hid hr
  clear hW hr hxs
  go_enter Tryd.func23, Tryd.ntmps23
  go_wp2_with fail
  rw [← HE.out]
  refine (refPut_at _ [] bn 8 _ _ rfl rfl (by omega) _ (Rd.nil _) (by simp) (by omega)).mono ?_
  rw [List.nil_append]
  rintro e w1 ⟨v1, rfl, ho1, hb1⟩
  obtain ⟨p1, c1, rfl, -, -, -, -⟩ := ho1.rd
  have G1 := hid (gr_trans HW.out hb1)
  have HO1 := hid (ho1.base HW.out.size)
  have HR1 := hid (HR.out.mono hb1)
  clear ho1 hb1
  obtain ⟨k0, k1, k2, k3, k4, k5, k6, k7⟩ := HR1.out.eight
  obtain ⟨W1, hW1⟩ : ∃ W1, W1 = w1.alloc (.cells #[.int .u32 (ot : Int), .int .u32 (pt : Int), .int .u32 (otsn : Int), .int .u32 (ptsn : Int), .int .u32 (rwn : Int)] 23 (0, 0)) := ⟨_, rfl⟩
  have HRX := hid (show RowV W1 w1.heap.size 23 (xs.map fun x : Nat => Value.int .u32 (x : Int)) by rw [hW1, HXS.out]; exact RowV.new w1 23 _)
  have g11 : Below w1.heap.size w1 W1 := by rw [hW1]; exact (Below.refl _ _).alloc (Nat.le_refl _) _
  have GW1 := hid (gr_trans G1.out g11)
  have HOW1 := hid (HO1.out.mono g11)
  have HRW1 := hid (HR1.out.mono g11)
  have HE1 := hid hW1
  have HBN := hid (beBytes_length 8 bn)
  clear hW1 g11
  go_wp2_with fail
  rw [← HE1.out]
  have hL8 : (beBytes 8 bn).length = 8 := HBN.out
  rw [hL8]
  rw [hL8] at HOW1
  clear hL8 k0 k1 k2 k3 k4 k5 k6 k7
  go_loopw [3, 5] (fun o y wr => ∃ (j : Nat) (z : Option Addr) (cc : Nat), j ≤ 5 ∧ y = .int .i64 (j : Int) ∧ o = .slice z (8 + 4 * j) cc ∧ Hid (Own wr w.heap.size 5 o (beBytes 8 bn ++ catBE 4 (xs.take j))) ∧ Hid (Below W1.heap.size W1 wr)) (fun _ y _ => 5 - (intOf y).toNat)
  case atStart => exact ⟨0, p1, c1, Nat.zero_le _, rfl, rfl, hid (by simpa [catBE] using HOW1.out), hid (Below.refl _ _)⟩
  case round =>
    obtain ⟨j, z, cc, hj, rfl, rfl, HO, HB⟩ := hrel
    by_cases hlt : j < 5
    · have hjx : j < xs.length := by rw [HXL.out]; exact hlt
      have hcx := (HRX.out.mono HB.out).at j (by simpa using hjx)
      rw [List.getElem_map] at hcx
      have hxb := HXB.out _ (List.getElem_mem hjx)
      have HT := hid (show xs.take (j + 1) = xs.take j ++ [xs[j]] from List.take_succ_eq_append_getElem hjx)
      have HL2 := hid (show (beBytes 8 bn ++ catBE 4 (xs.take j)).length = 8 + 4 * j by rw [List.length_append, catBE_length, List.length_take, Nat.min_eq_left (by omega), HBN.out])
      generalize xs[j] = x at *
      clear hjx
      go_wp2_with fail
      refine (refPut_at _ (beBytes 8 bn ++ catBE 4 (xs.take j)) x 4 _ _ rfl rfl (by omega) _ HO.out.rd (by have := HL2.out; omega) (by omega)).mono ?_
      rintro e w2 ⟨v2, rfl, ho2, hb2⟩
      rw [List.append_assoc, show catBE 4 (xs.take j) ++ beBytes 4 x = catBE 4 (xs.take (j + 1)) by rw [HT.out, catBE_append]; simp [catBE]] at ho2
      have HO2 := hid (ho2.base (Nat.le_trans GW1.out.size HB.out.size))
      have HB2 := hid (gr_trans HB.out hb2)
      obtain ⟨z1, c3, rfl, -, -, -, -⟩ := ho2.rd
      rw [show (beBytes 8 bn ++ catBE 4 (xs.take (j + 1))).length = 8 + 4 * (j + 1) by rw [List.length_append, catBE_length, List.length_take, Nat.min_eq_left (by rw [HXL.out]; omega), HBN.out]] at *
      clear ho2 hb2 hcx
      go_wp2_with fail
      go_roundw
      case rel => exact ⟨j + 1, z1, c3, by omega, by go_num, rfl, HO2, HB2⟩
      case measure => simp [intOf]; omega
    · obtain rfl : j = 5 := by omega
      have hall := List.take_length (l := xs)
      rw [HXL.out] at hall
      rw [hall] at HO
      have hp := HBD.out
      rw [← HXS.out] at hp
      have HP := hid hp
      obtain ⟨b28, hb28⟩ : ∃ b28, b28 = beBytes 8 bn ++ catBE 4 xs := ⟨_, rfl⟩
      have HL28 := hid (show b28.length = 28 by rw [hb28, List.length_append, catBE_length, HXL.out, HBN.out])
      rw [← hb28] at HO HP
      obtain ⟨b30, hb30⟩ : ∃ b30, b30 = b28 ++ beBytes 2 out := ⟨_, rfl⟩
      have HL30 := hid (show b30.length = 30 by rw [hb30, List.length_append, HL28.out, beBytes_length])
      rw [← hb30] at HP
      have H30 := hid hb30
      clear hb28 hall hp hb30
      have HRr := hid (HRW1.out.mono HB.out)
      obtain ⟨k0, k1, k2, k3, k4, k5, k6, k7⟩ := HRr.out.eight
      have GB := hid (gr_trans GW1.out HB.out)
      go_wp2_with fail
      refine (refPut_at _ b28 out 2 _ _ rfl rfl (by omega) _ HO.out.rd (by rw [HL28.out]; omega) (by omega)).mono ?_
      rw [← H30.out]
      rintro e w3 ⟨v3, rfl, ho3, hb3⟩
      obtain ⟨p3, c3, rfl, -, -, -, -⟩ := ho3.rd
      have HO3 := hid ho3
      have G3 := hid (gr_trans GB.out hb3)
      have l7 := cell?_of_below hb3 k7
      clear ho3 hb3 k0 k1 k2 k3 k4 k5 k6 k7
      go_wp2_with fail
      refine (refPut_at _ b30 in_ 2 _ _ rfl rfl (by omega) _ HO3.out.rd (by rw [HL30.out]; omega) (by omega)).mono ?_
      rw [HP.out]
      rintro e w4 ⟨v4, rfl, ho4, hb4⟩
      go_wp2_with fail
      go_ret
      exact ⟨_, rfl, ho4.base G3.out.size, gr_trans G3.out hb4⟩

set_option maxRecDepth 100000 in
set_option maxHeartbeats 4000000 in
theorem cookRefWrite_any (v : Value) (key : List UInt8) (c : CookD) (hc : c.wf) (w : World) (hv : Rd w v key) (hk : key.length ≤ 1047000) :
    Calls Tryd.prog 13 #[v, c.val] w (RetOwn w 5 (cookBytes key c)) := by
  have HV := hid hv
  obtain ⟨p, cp, rfl, hlc, hcm, hpn, hcell⟩ := hv
  unfold maxLen at hcm
  clear hcell
  have HK := hid hk
  clear hk
  have HBODY := hid (fun wx => cookBody_any c hc wx)
  obtain ⟨bd, hbd⟩ : ∃ bd, bd = c.body := ⟨_, rfl⟩
  have HCB := hid (show cookBytes key c = bd ++ macSum key bd by rw [cookBytes, hbd])
  have HBL := hid (show bd.length = 32 by rw [hbd, CookD.body_length])
  rw [← hbd] at HBODY
  clear hbd
  rw [HCB.out]
  obtain ⟨born, ot, pt, otsn, ptsn, rwn, out, in_⟩ := c
  simp only [CookD.val] at *
  obtain ⟨W, hW⟩ : ∃ W, W = w.alloc (.cells #[.int .i64 born, .int .u32 (ot : Int), .int .u32 (pt : Int), .int .u32 (otsn : Int), .int .u32 (ptsn : Int), .int .u32 (rwn : Int), .int .u16 (out : Int), .int .u16 (in_ : Int)] 26 (0, 0)) := ⟨_, rfl⟩
  have HW := hid (show Below w.heap.size w W by rw [hW]; exact (Below.refl _ _).alloc (Nat.le_refl _) _)
  have HE := hid hW
  clear hW
  go_enter Tryd.func13, Tryd.ntmps13
  go_wp2_with fail
  rw [← HE.out]
  refine (HBODY.out _).mono ?_
  rintro e w3 ⟨v3, rfl, ho3, hb3⟩
  obtain ⟨p3, c3, rfl, -, -, -, -⟩ := ho3.rd
  have HO3 := hid (ho3.base HW.out.size)
  have G3 := hid (gr_trans HW.out hb3)
  clear ho3 hb3
  obtain ⟨md, hmd⟩ : ∃ md, md = macSum key bd := ⟨_, rfl⟩
  have HDL := hid (show (bytesV md).length = 32 by rw [bytesV_length, hmd, macSum_length])
  have HML := hid (show md.length = 32 by rw [hmd, macSum_length])
  go_wp2_with fail
  refine (macRef_any _ _ key bd _ (HV.out.mono G3.out) HO3.out.rd HK.out (by rw [HBL.out]; omega)).mono ?_
  rw [← hmd]
  rintro e w4 ⟨rfl, hb4⟩
  have HO4 := hid (HO3.out.mono hb4)
  have G4 := hid (gr_trans G3.out hb4)
  have hzo := zeroOut
  have HMD := hid hmd
  clear hmd hb4
  go_wp2_with (refine wpList_store_rowV rfl 46 (.tmp 6) (.tmp 11) rfl w4.heap.size (bytesV md) zeros32 46 rfl rfl (RowV.new w4 46 zeros32) ?hi ?ho (bytesV_oneCell md) ?_)
  case hi => rw [HDL.out]; kernel_rfl
  case ho => rw [HDL.out, zeros32_length]
  intro w5 hr5 hg5
  have HRD5 := hid (show Rd w5 (.slice (some ⟨w4.heap.size, 0, none⟩) 32 32) md by
    have := hr5.out.to_row.rd 32 32 (by rw [HML.out]; exact Nat.le_refl _) (Nat.le_refl _) (by unfold maxLen; omega)
    rwa [List.take_of_length_le (by rw [HML.out]; exact Nat.le_refl _)] at this)
  have hgr : Below w4.heap.size w4 w5 := ((Below.refl _ _).alloc (Nat.le_refl _) _).trans (gb_below (B := w4.heap.size) hg5.out (Nat.le_refl _) (by simp))
  have HO5 := hid (HO4.out.mono hgr)
  have G5 := hid (gr_trans G4.out hgr)
  clear hr5 hg5 hgr
  go_wp2_with (at_builtin; refine wpList_append_Own rfl (.tmp 12) (.tmp 13) 22 rfl w.heap.size 5 Tryd.underlying22 infoU8o _ _ bd md rfl HO5.out rfl HRD5.out (by rw [HML.out, HBL.out]; omega) G5.out.size ?_)
  intro v6 w6 ho6 hg6
  go_wp2_with fail
  go_ret
  exact ⟨_, rfl, by rw [← HMD.out]; exact ho6, G5.out.grown hg6 G5.out.size HO5.out.ge⟩
end Go.Proofs.YtjpemfciiakphaaDoor

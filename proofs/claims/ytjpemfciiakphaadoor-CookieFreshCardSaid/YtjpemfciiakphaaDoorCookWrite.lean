/- cookie.Write: a cookie as bytes. Conditions: what comes in reads as it should; the tables of sha hold what its text says. -/
import Derived.Test.YtjpemfciiakphaaDoorCookWords
import Derived.Test.YtjpemfciiakphaaDoorMacOf
import Derived.Test.YtjpemfciiakphaaDoorMacRef
import Derived.Test.YtjpemfciiakphaaDoorRegLast
import Derived.RegionTactic
import Derived.ChangeAlike
import Derived.Deep.RegionHeld3
namespace Go.FL
open Go.RowKit
theorem run_make_u8d {P : Program} (t e : TypeId) (ht : P.underlying t = some (.slice e)) (hi : (P.info? e).map (fun i => (i.zero, i.size, i.bytes)) = some (some (.int .u8 0), 1, 1)) (kl kc : IntKind) (n c : Nat) (hnc : n ≤ c) (hn : c ≤ 281474976710656) (w : World) :
    (Instr.makeSlice t (.int kl (n : Int)) (.int kc (c : Int))).run P w = .ok (.slice (some ⟨w.heap.size, 0, none⟩) n c) (w.alloc (.cells (bytesV (List.replicate c 0)).toArray e (0, 0))) := by
  obtain ⟨i, h1, h2, h3, h4⟩ := info_parts hi
  have := run_make (P := P) w t e i _ ht h1 h2 kl kc (n : Int) (c : Int) (by omega) (by omega) (by rw [h4]; omega) (by omega)
  rw [this, h3]
  simp only [Int.toNat_natCast]
  rw [madeCells_u8]
theorem body_parts (c : CookD) : beBytes 8 (bornN c.born) ++ catBE 4 [c.ot, c.pt, c.otsn, c.ptsn, c.rw] ++ beBytes 2 c.out ++ beBytes 2 c.in_ = c.body := by
  simp [CookD.body, catBE]
theorem wrap_born (b : Int) : IntKind.u64.wrap b = (bornN b : Int) := by
  simp only [IntKind.wrap, IntKind.signed, IntKind.bits, bornN]
  simp
  omega
theorem wrap_nat (n : Nat) (h : n < 18446744073709551616) : IntKind.u64.wrap (n : Int) = (n : Int) := by
  rw [IntKind.wrap_u64]; omega
end Go.FL
namespace Go.Proofs.YtjpemfciiakphaaDoor
open Go.RowKit Go.FL Go.ChangeShapes

set_option maxRecDepth 100000 in
set_option maxHeartbeats 4000000 in
theorem cookWrite_any (v : Value) (key : List UInt8) (c : CookD) (hc : c.wf) (w : World) (hv : Rd w v key) (hlaid : ShaLaid w) (hk : key.length ≤ 1047000) :
    Calls Tryd.prog 12 #[v, c.val] w (RetOwn w 5 (cookBytes key c)) := by
  have HV := hid hv
  obtain ⟨p, cp, rfl, hlc, hcm, hpn, hcell⟩ := hv
  unfold maxLen at hcm
  clear hcell
  have HL := hid hlaid
  have HK := hid hk
  clear hlaid hk
  have HBD := hid (body_parts c)
  obtain ⟨bd, hbd⟩ : ∃ bd, bd = c.body := ⟨_, rfl⟩
  have HCB := hid (show cookBytes key c = bd ++ macSum key bd by rw [cookBytes, hbd])
  have HBL := hid (show bd.length = 32 by rw [hbd, CookD.body_length])
  rw [← hbd] at HBD
  clear hbd
  rw [HCB.out]
  obtain ⟨⟨hb1, hb2⟩, h1, h2, h3, h4, h5, h6, h7⟩ := hc
  obtain ⟨born, ot, pt, otsn, ptsn, rwn, out, in_⟩ := c
  simp only [CookD.val] at *
  have WB0 := wrap_born born
  have hbn := bornN_lt born
  generalize bornN born = bn at *
  have WB := hid WB0
  have WO := hid (wrap_nat out (by omega))
  have WI := hid (wrap_nat in_ (by omega))
  have hmk : ∀ wx, (Instr.makeSlice 22 (.int .i64 0) (.int .i64 64)).run Tryd.prog wx = .ok (.slice (some ⟨wx.heap.size, 0, none⟩) 0 64) (wx.alloc (.cells (bytesV (List.replicate 64 0)).toArray 5 (0, 0))) := fun wx => run_make_u8d (P := Tryd.prog) 22 5 Tryd.underlying22 infoU8o .i64 .i64 0 64 (by omega) (by omega) wx
  clear WB0
  obtain ⟨W, hW⟩ : ∃ W, W = w.alloc (.cells #[.int .i64 born, .int .u32 (ot : Int), .int .u32 (pt : Int), .int .u32 (otsn : Int), .int .u32 (ptsn : Int), .int .u32 (rwn : Int), .int .u16 (out : Int), .int .u16 (in_ : Int)] 26 (0, 0)) := ⟨_, rfl⟩
  have hr : RowV W w.heap.size 26 [.int .i64 born, .int .u32 (ot : Int), .int .u32 (pt : Int), .int .u32 (otsn : Int), .int .u32 (ptsn : Int), .int .u32 (rwn : Int), .int .u16 (out : Int), .int .u16 (in_ : Int)] := by rw [hW]; exact RowV.new w 26 _
  have HW := hid (show Below w.heap.size w W by rw [hW]; exact (Below.refl _ _).alloc (Nat.le_refl _) _)
  have HE := hid hW
  have HR := hid hr
  have K0 := hid hr.eight.1
  clear hW hr
  go_enter Tryd.func12, Tryd.ntmps12
  go_wp2_with fail
  rw [← HE.out]
  refine wp_region_gr [RdF [], Is (.pointer (some ⟨w.heap.size, 0, none⟩)), Is (.int .i64 born), Is (.int .u64 (bn : Int)), OwnF W.heap.size 5 (beBytes 8 bn), OwnF W.heap.size 5 (beBytes 8 bn)] (by kernel_rfl) (by kernel_rfl) (by kernel_rfl) ?_ ?_ ?_
  · simp only [StabAll, Is.gr, RdF.gr, OwnF.gr, AnyF.gr, and_self]
  · rename_i Kk hKk; clear hKk Kk
    simp only [AllOps, List.map_cons, List.map_nil, depsOf, List.filterMap_cons, List.filterMap_nil, Region.binds, depFacts, guardF, reduceIte, List.getD_eq_getElem?_getD, List.getElem?_cons_succ, List.getElem?_cons_zero, Option.getD_some, factAt, and_true]
    refine ⟨?_, ?_, ?_, ?_, ?_, ?_⟩
    all_goals intro ρ wv hρ hR hd
    all_goals try simp only [Is] at hd
    · exact opOk_val (v := .slice (some ⟨wv.heap.size, 0, none⟩) 0 64) (w' := wv.alloc (.cells (bytesV (List.replicate 64 0)).toArray 5 (0, 0))) (by simp [execOp, hρ.1.const, hmk]) ⟨⟨_, 64, rfl, by simp, by unfold maxLen; omega, (fun h => by cases h), (fun j hj => by simp at hj)⟩, (Below.refl _ _).alloc (Nat.le_refl _) _⟩
    · exact opOk_val (v := .pointer (some ⟨w.heap.size, 0, none⟩)) (w' := wv) (by simp [execOp, go_sem, hρ.1.const, hρ.1.func, hd, (hρ.2 3 rfl)]) ⟨rfl, GrR.refl _⟩
    · (have h0 := cell?_of_below hR K0.out; exact opOk_val (v := .int .i64 born) (w' := wv) (by simp [execOp, go_sem, hd, h0]) ⟨rfl, GrR.refl _⟩)
    · exact opOk_val (v := .int .u64 (bn : Int)) (w' := wv) (by simp [execOp, go_sem, hρ.1.const, hρ.1.func, hd, WB.out]) ⟨rfl, GrR.refl _⟩
    · exact opOk_call hρ.1 rfl rfl Tryd.func20 (by kernel_rfl) rfl (by simp [hd, hρ.1.const]) ((put_at _ [] bn 8 _ _ rfl rfl (by omega) _ hd.1 (by simp) (by omega)).mono fun e w' ⟨v', h1, h2, h3⟩ => ⟨v', h1, h2.base hR.size, h3⟩)
    · exact opOk_move (.inr rfl) ⟨hd.1, GrR.refl _⟩
  · intro vals wv hR hall
    obtain ⟨w1, hw1⟩ : ∃ w1, w1 = wv := ⟨_, rfl⟩
    have ho1 := hall 5 (by simp)
    simp only [factAt, OwnF, List.getD_eq_getElem?_getD, List.getElem?_cons_succ, List.getElem?_cons_zero, Option.getD_some] at ho1
    clear hall
    obtain ⟨p1, c1, hv5, -, -, -, -⟩ := ho1.rd
    simp only [fillFrom, Act.put, hv5, List.setIfInBounds_toArray, List.set_cons_zero, List.set_cons_succ]
    rw [hv5] at ho1
    have HO1 := hid ho1
    have G1 := hid (gr_trans HW.out hR)
    have HR1 := hid (HR.out.mono hR)
    rename_i Kk hKk
    refine hKk _ _ ?_
    clear hKk Kk ho1 hR
    obtain ⟨k0, k1, k2, k3, k4, k5, k6, k7⟩ := HR1.out.eight
    have HX := hid (rdV_new wv 23 ([ot, pt, otsn, ptsn, rwn].map fun x : Nat => Value.int .u32 (x : Int)) 5 #[.int .u32 (ot : Int), .int .u32 (pt : Int), .int .u32 (otsn : Int), .int .u32 (ptsn : Int), .int .u32 (rwn : Int)] rfl rfl (by unfold maxLen; omega))
    have GX := hid (show Below wv.heap.size wv (wv.alloc (.cells #[.int .u32 (ot : Int), .int .u32 (pt : Int), .int .u32 (otsn : Int), .int .u32 (ptsn : Int), .int .u32 (rwn : Int)] 23 (0, 0))) from (Below.refl _ _).alloc (Nat.le_refl _) _)
    have HBN := hid (beBytes_length 8 bn)
    go_wp2_with fail
    refine (cookWords_any _ _ (beBytes 8 bn) [ot, pt, otsn, ptsn, rwn] _ (HO1.out.rd.mono GX.out) HX.out (by simp; omega) (by simp) (by simp) (by rw [HBN.out]; omega)).mono ?_
    obtain ⟨b28, hb28⟩ : ∃ b28, b28 = beBytes 8 bn ++ catBE 4 [ot, pt, otsn, ptsn, rwn] := ⟨_, rfl⟩
    rw [← hb28]
    have HL2 := hid (show b28.length = 28 by rw [hb28, List.length_append, catBE_length, beBytes_length]; rfl)
    have H28 := hid (show b28 ++ beBytes 2 out ++ beBytes 2 in_ = bd by rw [hb28]; exact HBD.out)
    clear hb28
    rintro e w2 ⟨v2, rfl, ho2, hb2⟩
    have G2 := hid (gr_trans G1.out (gr_trans GX.out hb2))
    have HR2 := hid (HR1.out.mono (gr_trans GX.out hb2))
    obtain ⟨p2, c2, rfl, -, -, -, -⟩ := ho2.rd
    have HO2 := hid ho2
    have K6 := hid HR2.out.eight.2.2.2.2.2.2.1
    have K7 := hid HR2.out.eight.2.2.2.2.2.2.2
    clear ho2 hb2 k0 k1 k2 k3 k4 k5 k6 k7 HX GX HO1 HR1 hmk
    go_wp2_with fail
    refine wp_region_grL [Is (.slice p2 b28.length c2), Is (.pointer (some ⟨w.heap.size, 6, none⟩)), Is (.int .u16 (out : Int)), Is (.int .u64 (out : Int)), OwnF w2.heap.size 5 (b28 ++ beBytes 2 out), Is (.pointer (some ⟨w.heap.size, 7, none⟩)), Is (.int .u16 (in_ : Int)), Is (.int .u64 (in_ : Int)), OwnF w2.heap.size 5 (b28 ++ beBytes 2 out ++ beBytes 2 in_), OwnF w2.heap.size 5 (b28 ++ beBytes 2 out ++ beBytes 2 in_)] (by kernel_rfl) (by kernel_rfl) (by kernel_rfl) (by kernel_rfl) ?_ ?_ ?_
    · simp only [StabAll, Is.gr, RdF.gr, OwnF.gr, AnyF.gr, and_self]
    · rename_i Kk hKk; clear hKk Kk
      simp only [AllOps, List.map_cons, List.map_nil, depsOf, List.filterMap_cons, List.filterMap_nil, Region.binds, depFacts, guardF, reduceIte, List.getD_eq_getElem?_getD, List.getElem?_cons_succ, List.getElem?_cons_zero, Option.getD_some, factAt, and_true]
      refine ⟨?_, ?_, ?_, ?_, ?_, ?_, ?_, ?_, ?_, ?_⟩
      all_goals intro ρ wv hρ hR hd
      all_goals try simp only [Is] at hd
      · exact opOk_move (.inl rfl) ⟨by simp only [Is]; (first | exact hρ.2 5 rfl | exact hd | exact hd.1 | exact hd.2 | simp [hd]), GrR.refl _⟩
      · exact opOk_val (v := .pointer (some ⟨w.heap.size, 6, none⟩)) (w' := wv) (by simp [execOp, go_sem, hρ.1.const, hρ.1.func, hd, (hρ.2 3 rfl)]) ⟨rfl, GrR.refl _⟩
      · (have h0 := cell?_of_below hR K6.out; exact opOk_val (v := .int .u16 (out : Int)) (w' := wv) (by simp [execOp, go_sem, hd, h0]) ⟨rfl, GrR.refl _⟩)
      · exact opOk_val (v := .int .u64 (out : Int)) (w' := wv) (by simp [execOp, go_sem, hρ.1.const, hρ.1.func, hd, WO.out]) ⟨rfl, GrR.refl _⟩
      · exact opOk_call hρ.1 rfl rfl Tryd.func20 (by kernel_rfl) rfl (by simp [hd, hρ.1.const]) ((put_at _ b28 out 2 _ _ rfl rfl (by omega) _ (HO2.out.rd.mono hR) (by rw [HL2.out]; omega) (by omega)).mono fun e w' ⟨v', h1, h2, h3⟩ => ⟨v', h1, h2.base hR.size, h3⟩)
      · exact opOk_val (v := .pointer (some ⟨w.heap.size, 7, none⟩)) (w' := wv) (by simp [execOp, go_sem, hρ.1.const, hρ.1.func, hd, (hρ.2 3 rfl)]) ⟨rfl, GrR.refl _⟩
      · (have h0 := cell?_of_below hR K7.out; exact opOk_val (v := .int .u16 (in_ : Int)) (w' := wv) (by simp [execOp, go_sem, hd, h0]) ⟨rfl, GrR.refl _⟩)
      · exact opOk_val (v := .int .u64 (in_ : Int)) (w' := wv) (by simp [execOp, go_sem, hρ.1.const, hρ.1.func, hd, WI.out]) ⟨rfl, GrR.refl _⟩
      · exact opOk_call hρ.1 rfl rfl Tryd.func20 (by kernel_rfl) rfl (by simp [hd, hρ.1.const]) ((put_at _ (b28 ++ beBytes 2 out) in_ 2 _ _ rfl rfl (by omega) _ hd.1.rd (by rw [List.length_append, HL2.out, beBytes_length]; omega) (by omega)).mono fun e w' ⟨v', h1, h2, h3⟩ => ⟨v', h1, h2.base hR.size, h3⟩)
      · exact opOk_move (.inr rfl) ⟨hd.1, GrR.refl _⟩
    · intro vals wv hR hall
      have ho3 := hall 9 (by simp)
      simp only [factAt, OwnF, List.getD_eq_getElem?_getD, List.getElem?_cons_succ, List.getElem?_cons_zero, Option.getD_some] at ho3
      clear hall
      rw [H28.out] at ho3
      obtain ⟨p3, c3, hv3, -, -, -, -⟩ := ho3.rd
      simp only [fillFrom, Act.put, hv3, List.setIfInBounds_toArray, List.set_cons_zero, List.set_cons_succ]
      rw [hv3] at ho3
      have HO3 := hid (ho3.base G2.out.size)
      have G3 := hid (gr_trans G2.out hR)
      rename_i Kk hKk
      refine hKk _ _ ?_
      clear hKk Kk ho3 hR
      go_wp2_with fail
      obtain ⟨md, hmd⟩ : ∃ md, md = macSum key bd := ⟨_, rfl⟩
      have HDL := hid (show (bytesV md).length = 32 by rw [bytesV_length, hmd, macSum_length])
      have HML := hid (show md.length = 32 by rw [hmd, macSum_length])
      refine (macOf_any _ _ key bd _ (HV.out.mono G3.out) HO3.out.rd (HL.out.mono G3.out) (by have := HK.out; omega) (by rw [HBL.out]; omega)).mono ?_
      rw [← hmd]
      rintro e w4 ⟨rfl, hb4⟩
      have HO4 := hid (HO3.out.mono hb4)
      have G4 := hid (gr_trans G3.out hb4)
      have hzo := zeroOut
      have HMD := hid hmd
      clear hmd hb4
      go_wp2_with (refine wpList_store_rowV rfl 46 (.tmp 6) (.tmp 36) rfl w4.heap.size (bytesV md) zeros32 46 rfl rfl (RowV.new w4 46 zeros32) ?hi ?ho (bytesV_oneCell md) ?_)
      case hi => rw [HDL.out]; kernel_rfl
      case ho => rw [HDL.out, zeros32_length]
      intro w5 hr5 hg5
      have HRD5 := hid (show Rd w5 (.slice (some ⟨w4.heap.size, 0, none⟩) 32 32) md by
        have := hr5.out.to_row.rd 32 32 (by rw [HML.out]; exact Nat.le_refl _) (Nat.le_refl _) (by unfold maxLen; omega)
        rwa [List.take_of_length_le (by rw [HML.out]; exact Nat.le_refl _)] at this)
      have hgr : Below w4.heap.size w4 w5 := ((Below.refl _ _).alloc (Nat.le_refl _) _).trans (gb_below (B := w4.heap.size) hg5.out (Nat.le_refl _) (by simp))
      have HO5 := hid (HO4.out.mono hgr)
      have G5 := hid (gr_trans G4.out hgr)
      clear hr5 hg5 hgr
      go_wp2_with (at_builtin; refine wpList_append_Own rfl (.tmp 37) (.tmp 38) 22 rfl w.heap.size 5 Tryd.underlying22 infoU8o _ _ bd md rfl HO5.out rfl HRD5.out (by rw [HML.out, HBL.out]; omega) G5.out.size ?_)
      intro v6 w6 ho6 hg6
      go_wp2_with fail
      go_ret
      exact ⟨_, rfl, by rw [← HMD.out]; exact ho6, G5.out.grown hg6 G5.out.size HO5.out.ge⟩
end Go.Proofs.YtjpemfciiakphaaDoor

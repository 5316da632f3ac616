/- mac's anchor is true. Conditions: the tables of sha hold what its text says. -/
import Derived.Test.YtcjkhhhinjknhaaDoorMacOf
import Derived.Test.YtcjkhhhinjknhaaDoorMacSame
import Derived.Lib.SlBytesConst
namespace Go.FL
open Go.RowKit
def wantsV : Array Value := #[.int .u8 119, .int .u8 104, .int .u8 97, .int .u8 116, .int .u8 32, .int .u8 100, .int .u8 111, .int .u8 32, .int .u8 121, .int .u8 97, .int .u8 32, .int .u8 119, .int .u8 97, .int .u8 110, .int .u8 116, .int .u8 32, .int .u8 102, .int .u8 111, .int .u8 114, .int .u8 32, .int .u8 110, .int .u8 111, .int .u8 116, .int .u8 104, .int .u8 105, .int .u8 110, .int .u8 103, .int .u8 63]
def jefeV : Array Value := #[.int .u8 74, .int .u8 101, .int .u8 102, .int .u8 101]
end Go.FL
namespace Go.Proofs.YtcjkhhhinjknhaaDoor
open Go.RowKit Go.FL

theorem eqSelf (d : List UInt8) (h : d.length = 32) (w : World) : (Op.equalIn 10000 25 (.agg (bytesV d).toArray) (.agg (bytesV d).toArray)).run Tryd.prog w = .ok true w := by
  rw [eqSums _ _ h h, decide_eq_true (Eq.refl _)]

set_option maxRecDepth 20000 in
set_option maxHeartbeats 1000000 in
theorem works_any (w : World) (hlaid : ShaLaid w) : Calls Tryd.prog 8 #[] w (Gives w (.bool true)) := by
  have kc := fun (w : World) (C : Array Value) (n c : Nat) => Lib.run_convert_bytes_const (P := Tryd.prog) w 22 5 C n c Tryd.underlying22 Tryd.underlying5
  have k2 := kc (w.alloc (.cells jefeV 5 (4, 5))) wantsV 28 28
  have hs1 : (w.alloc (.cells jefeV 5 (4, 5))).heap.size = w.heap.size + 1 := by simp
  rw [hs1] at k2
  have HB1 := hid (show Below w.heap.size w (w.alloc (.cells jefeV 5 (4, 5))) from (Below.refl _ _).alloc (Nat.le_refl _) _)
  have HR1 := hid (rd_newF w 5 jefe 4 jefeV (4, 5) rfl rfl (by unfold maxLen; omega))
  have hr2 := rd_newF (w.alloc (.cells jefeV 5 (4, 5))) 5 wants 28 wantsV (28, 29) rfl rfl (by unfold maxLen; omega)
  rw [hs1] at hr2
  have HR2 := hid hr2
  have HB2 := hid (show Below w.heap.size w ((w.alloc (.cells jefeV 5 (4, 5))).alloc (.cells wantsV 5 (28, 29))) from HB1.out.alloc (by simp) _)
  have HR12 := hid (HR1.out.mono ((Below.refl _ _).alloc (Nat.le_refl _) (.cells wantsV 5 (28, 29))))
  have HL := hid (hlaid.mono HB2.out)
  have hzo := zeroOut
  obtain ⟨d, hd⟩ : ∃ d, d = macSum jefe wants := ⟨_, rfl⟩
  have HD := hid hd
  have HDL := hid (show (bytesV d).length = 32 by rw [bytesV_length, hd, macSum_length])
  have D0 := hid (show (bytesV d)[0]? = some (.int .u8 91) by rw [hd, bytesV, List.getElem?_map, mac_jefe0]; rfl)
  have D1 := hid (show (bytesV d)[1]? = some (.int .u8 220) by rw [hd, bytesV, List.getElem?_map, mac_jefe1]; rfl)
  have D31 := hid (show (bytesV d)[31]? = some (.int .u8 67) by rw [hd, bytesV, List.getElem?_map, mac_jefe31]; rfl)
  clear hlaid hd hr2 hs1
  simp only [jefeV, wantsV, List.size_toArray] at k2 HR1 HR2 HB2 HR12 HL
  go_enter Tryd.func8, Tryd.ntmps8
  go_wp2_with fail
  refine (macOf_any _ _ jefe wants _ HR12.out HR2.out HL.out (by decide) (by decide)).mono ?_
  rw [← HD.out]
  rintro e w1 ⟨rfl, hb1⟩
  have G1 := hid (gr_trans HB2.out hb1)
  clear hb1 kc k2 HR1 HR2 HR12 HB1 HB2
  go_wp2_with (refine wpList_store_rowV rfl 25 (.tmp 1) (.tmp 6) rfl w1.heap.size (bytesV d) zeros32 25 rfl rfl (RowV.new w1 25 zeros32) ?hi ?ho (bytesV_oneCell d) ?_)
  case hi => rw [HDL.out]; kernel_rfl
  case ho => rw [HDL.out, zeros32_length]
  intro w7 hr7 hg7
  have HBF := hid (show Below w.heap.size w w7 from (G1.out.alloc G1.out.size (.cells zeros32.toArray 25 (0, 0))).trans (gb_below hg7.out G1.out.size (by have := G1.out.size; simp; omega)))
  have c0 : w7.cell? ⟨w1.heap.size, 0, none⟩ = some (.int .u8 91) := by rw [hr7.out.cell, D0.out]
  have c1 : w7.cell? ⟨w1.heap.size, 1, none⟩ = some (.int .u8 220) := by rw [hr7.out.cell, D1.out]
  have c31 : w7.cell? ⟨w1.heap.size, 31, none⟩ = some (.int .u8 67) := by rw [hr7.out.cell, D31.out]
  obtain ⟨w8, hw8⟩ : ∃ w8, w8 = (w7.alloc (.cells #[.int .u8 1] 5 (0, 0))).alloc (.cells #[.int .u8 1] 5 (0, 0)) := ⟨_, rfl⟩
  have HN1 := hid (show Rd w8 (.slice (some ⟨w7.heap.size, 0, none⟩) 1 1) [1] by
    rw [hw8]
    exact (rd_new w7 5 [1] 1 _ rfl rfl (by unfold maxLen; omega)).mono ((Below.refl _ _).alloc (Nat.le_refl _) _))
  have HN2 := hid (show Rd w8 (.slice (some ⟨w7.heap.size + 1, 0, none⟩) 1 1) [1] by
    have := rd_new (w7.alloc (.cells #[.int .u8 1] 5 (0, 0))) 5 [1] 1 #[.int .u8 1] rfl rfl (by unfold maxLen; omega)
    rw [hw8]
    simpa using this)
  have G8 := hid (show Below w7.heap.size w7 w8 by rw [hw8]; exact ((Below.refl _ _).alloc (Nat.le_refl _) _).alloc (by simp) _)
  have HW8 := hid hw8
  clear hr7 hg7 hw8
  go_wp2_with fail
  rw [← HW8.out]
  refine (same_yes _ _ [1] [1] _ HN1.out HN2.out rfl).mono ?_
  rintro e w9 ⟨rfl, hb9⟩
  have G9 := hid (gr_trans HBF.out (gr_trans G8.out hb9))
  have HN3 := hid (rd_new w9 5 [1] 1 _ rfl rfl (by unfold maxLen; omega))
  clear hb9
  go_wp2_with fail
  refine (same_no _ _ [1] [] _ HN3.out (Rd.nil _) (by decide)).mono ?_
  rintro e w10 ⟨rfl, hb10⟩
  go_wp2_with fail
  go_ret
  exact ⟨rfl, gr_trans G9.out (gr_trans ((Below.refl _ _).alloc (Nat.le_refl _) _) hb10)⟩
end Go.Proofs.YtcjkhhhinjknhaaDoor

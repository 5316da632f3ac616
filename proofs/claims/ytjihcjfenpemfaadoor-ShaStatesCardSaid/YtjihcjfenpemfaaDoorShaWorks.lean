/- The anchor of the statements on sha: works answers true; all that was there stays. Conditions: the package's tables hold what its text says. -/
import Derived.Test.YtjihcjfenpemfaaDoorShaSum
import Derived.Test.YtjihcjfenpemfaaDoorShaAbc
import Derived.Lib.SlBytesConst
namespace Go.FL
open Go.RowKit
theorem rd_newF (w : World) (e : Nat) (l : List UInt8) (n : Nat) (cs : Array Value) (fr : Nat × Nat) (hn : n = l.length) (hcs : cs = (bytesV l).toArray) (hm : n ≤ maxLen) : Rd (w.alloc (.cells cs e fr)) (.slice (some ⟨w.heap.size, 0, none⟩) n n) l := by
  subst hn hcs
  refine ⟨_, _, rfl, Nat.le_refl _, hm, by simp, fun j hj => ⟨w.heap.size, 0, rfl, ?_⟩⟩
  rw [Nat.zero_add]
  simp only [World.cell?, heap_alloc_new]
  simp [bytesV, hj]
end Go.FL
namespace Go.Proofs.YtjihcjfenpemfaaDoor
open Go.RowKit Go.FL

set_option maxRecDepth 20000 in
set_option maxHeartbeats 1000000 in
theorem works_any (w : World) (hlaid : ShaLaid w) : Calls Tryd.prog 10 #[] w (Gives w (.bool true)) := by
  have kc := fun (w : World) (C : Array Value) (n c : Nat) => Lib.run_convert_bytes_const (P := Tryd.prog) w 22 5 C n c Tryd.underlying22 Tryd.underlying5
  have hzo := zeroOut
  have HA := hid ((Below.refl w.heap.size w).alloc (Nat.le_refl _) (.cells #[.int .u8 97, .int .u8 98, .int .u8 99] 5 (3, 4)))
  have HR := hid (rd_newF w 5 [97, 98, 99] 3 #[.int .u8 97, .int .u8 98, .int .u8 99] (3, 4) rfl rfl (by unfold maxLen; omega))
  have HL := hid (hlaid.mono HA.out)
  clear hlaid
  obtain ⟨d, hd⟩ : ∃ d, d = shaSum [97, 98, 99] := ⟨_, rfl⟩
  have HD := hid hd
  have hdl : (bytesV d).length = 32 := by rw [bytesV_length, hd, shaSum_length]
  have d0 : (bytesV d)[0]? = some (.int .u8 186) := by rw [hd, bytesV, List.getElem?_map, sha_abc0]; rfl
  have d1 : (bytesV d)[1]? = some (.int .u8 120) := by rw [hd, bytesV, List.getElem?_map, sha_abc1]; rfl
  have d31 : (bytesV d)[31]? = some (.int .u8 173) := by rw [hd, bytesV, List.getElem?_map, sha_abc31]; rfl
  have D0 := hid d0
  have D1 := hid d1
  have D31 := hid d31
  have HDL := hid hdl
  clear hd hdl d0 d1 d31
  go_enter Tryd.func10, Tryd.ntmps10
  go_wp2_with fail
  refine (shaOf_any _ [97, 98, 99] _ HR.out HL.out (by decide)).mono ?_
  rw [← HD.out]
  rintro e w1 ⟨rfl, hb1⟩
  have HB1 := hid (gr_trans HA.out hb1)
  have HN := hid (RowV.new w1 25 zeros32)
  clear hb1 kc
  go_wp2_with (refine wpList_store_rowV rfl 25 (.tmp 1) (.tmp 4) rfl w1.heap.size (bytesV d) zeros32 25 rfl rfl HN.out ?hi ?ho (bytesV_oneCell d) ?_)
  case hi => rw [HDL.out]; kernel_rfl
  case ho => rw [HDL.out, zeros32_length]
  intro w7 hr7 hg7
  have HBF := hid (show Below w.heap.size w w7 from (HB1.out.alloc HB1.out.size (.cells zeros32.toArray 25 (0, 0))).trans (gb_below hg7.out HB1.out.size (by have := HB1.out.size; simp; omega)))
  have c0 : w7.cell? ⟨w1.heap.size, 0, none⟩ = some (.int .u8 186) := by rw [hr7.out.cell, D0.out]
  have c1 : w7.cell? ⟨w1.heap.size, 1, none⟩ = some (.int .u8 120) := by rw [hr7.out.cell, D1.out]
  have c31 : w7.cell? ⟨w1.heap.size, 31, none⟩ = some (.int .u8 173) := by rw [hr7.out.cell, D31.out]
  go_wp2
  go_ret
  exact ⟨rfl, HBF.out⟩
end Go.Proofs.YtjihcjfenpemfaaDoor

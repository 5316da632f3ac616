/- bodies.PutForward: what will not come, as a chunk. Conditions: what comes in reads as it should. -/
import Derived.Test.YtfiblhdejglpaaaBodPuts
import Derived.Test.YtfiblhdejglpaaaBodPairs
namespace Go.FL
open Go.RowKit
def FwdAt (w : World) (v : Value) (f : FwdD) : Prop := ∃ s, v = .agg #[.int .u32 (f.cum : Int), s] ∧ RdP w s f.skips
theorem FwdAt.mono {w w' : World} {v : Value} {f : FwdD} (h : FwdAt w v f) (hb : Below w.heap.size w w') : FwdAt w' v f := by
  obtain ⟨s, h1, h2⟩ := h
  exact ⟨s, h1, h2.mono hb⟩
def FwdD.wf (f : FwdD) : Prop := f.cum < 4294967296 ∧ pairsWf f.skips
theorem gaps_step (l : List (Nat × Nat)) (j : Nat) (h : j < l.length) : gapsBytes (l.take (j + 1)) = gapsBytes (l.take j) ++ catBE 2 [l[j].1, l[j].2] := by
  rw [List.take_succ_eq_append_getElem h, gapsBytes_append]
  simp [gapsBytes, gapBytes, catBE]
end Go.FL
namespace Go.Proofs.Ytfiblhdejglpaaa
open Go.RowKit Go.FL Go.ChangeShapes

theorem putFwd_ret {a : Act} {W : World} {g : Nat} {R : Ending → World → Prop} (v0 v1 v2 : Value) (h2 : a.tmps.getD 2 undef = .pointer (some ⟨g, 0, none⟩)) (hd : a.defers = [])
    (hc : RowV W g 28 [v0, v1, v2]) (hR : R (.returned (.agg #[v0, v1, v2])) W) : bodyPost Try.prog Try.f29 R .ret a W := by
  refine bodyPost_ret (v := .agg #[v0, v1, v2]) ?_ hd hR
  obtain ⟨c0, c1, c2⟩ := RowV.three hc
  simp only [Array.getD_eq_getD_getElem?] at h2
  simp [results, Try.results29, go_sem, h2, asAddr, c0, c1, c2]

set_option maxRecDepth 100000 in
set_option maxHeartbeats 4000000 in
theorem putFwd_any (v : Value) (d : FwdD) (hw : d.wf) (w : World) (h : FwdAt w v d) (hl : d.skips.length ≤ 1000000) :
    Calls Try.prog 29 #[v] w (RetChk w 5 d.chk) := by
  obtain ⟨s, rfl, hrd⟩ := h
  have HV := hid hrd
  obtain ⟨p, c, rfl, hlc, hcm, hpn, hcell⟩ := hrd
  unfold maxLen at hcm
  clear hcell
  show Calls _ _ _ _ (RetChk w 5 ⟨192, 0, beBytes 4 d.cum ++ gapsBytes d.skips⟩)
  obtain ⟨hcu, hpw⟩ := hw
  have HPW := hid hpw
  obtain ⟨cum, l⟩ := d
  simp only at *
  clear hpw
  have hw1 := wrap64_nat cum (by omega)
  obtain ⟨W0, hW0⟩ : ∃ W0, W0 = w.alloc (.cells #[.int .u32 (cum : Int), .slice p l.length c] 49 (0, 0)) := ⟨_, rfl⟩
  have hs0 : W0.heap.size = w.heap.size + 1 := by rw [hW0]; simp
  obtain ⟨W, hW⟩ : ∃ W, W = W0.alloc (.cells #[.int .u8 0, .int .u8 0, .slice none 0 0] 28 (0, 0)) := ⟨_, rfl⟩
  have hs1 : W.heap.size = w.heap.size + 2 := by rw [hW]; simp [hs0]
  have HR := hid (show RowV W w.heap.size 49 [.int .u32 (cum : Int), .slice p l.length c] by rw [hW, hW0]; exact (RowV.new w 49 _).alloc _)
  have HQ := hid (show RowV W (w.heap.size + 1) 28 [.int .u8 0, .int .u8 0, .slice none 0 0] by rw [hW, ← hs0]; exact RowV.new W0 28 _)
  have G0 := hid (show Below w.heap.size w W by rw [hW, hW0]; exact ((Below.refl _ _).alloc (Nat.le_refl _) _).alloc (by simp) _)
  rw [hW0] at hW
  have HE := hid hW
  clear hW hW0 hs0
  go_enter Try.func29, Try.ntmps29
  go_wp2_with fail
  rw [← HE.out, ← hs1]
  refine (bput_new _ [] 4 _ rfl (by omega) [cum] W _ 1 rfl rfl (Rd.nil _) (by simp; omega) (by simp) (by simp) (by simp)).mono ?_
  rintro e w1 ⟨v1, rfl, ho1, hb1⟩
  rw [show [] ++ catBE 4 [cum] = beBytes 4 cum by simp [catBE]] at ho1
  obtain ⟨b4, hb4⟩ : ∃ x, x = beBytes 4 cum := ⟨_, rfl⟩
  rw [← hb4] at ho1
  have HB4 := hid hb4
  have HL4 := hid (show b4.length = 4 by rw [hb4, beBytes_length])
  have HO1 := hid ho1
  obtain ⟨p1, c1, rfl, -, -, -, -⟩ := ho1.rd
  have HR1 := hid (HR.out.mono hb1)
  have HQ1 := hid (HQ.out.mono hb1)
  have G1 := hid (gr_trans G0.out hb1)
  have hsW := hb1.size
  have k1 := HR1.out.at 1 (by simp)
  simp only [List.getElem_cons_succ, List.getElem_cons_zero] at k1
  rw [HL4.out] at HO1 ⊢
  clear ho1 hb1 hb4
  go_wp2_with fail
  go_loopw [3, 5, 14] (fun o x y wr => ∃ (j : Nat) (z : Option Addr) (cc : Nat), j ≤ l.length ∧ y = .int .i64 (j : Int) ∧ o = .slice z (4 + 4 * j) cc ∧ Hid (Own wr W.heap.size 5 o (b4 ++ gapsBytes (l.take j))) ∧ Hid (Below w1.heap.size w1 wr)) (fun _ _ y _ => l.length - (intOf y).toNat)
  case atStart => exact ⟨0, p1, c1, Nat.zero_le _, rfl, rfl, hid (by simpa [gapsBytes] using HO1.out), hid (Below.refl _ _)⟩
  case round =>
    obtain ⟨j, z, cc, hj, rfl, rfl, HO, HB⟩ := hrel
    by_cases hlt : j < l.length
    · have HVr := hid (HV.out.mono (gr_trans G1.out HB.out))
      obtain ⟨pp, ccc, hpe, -, -, -, hcel⟩ := HVr.out
      simp only [Value.slice.injEq] at hpe
      obtain ⟨rfl, -, rfl⟩ := hpe
      obtain ⟨bb, off, rfl, d0, d1⟩ := hcel j hlt
      obtain ⟨n1, n2⟩ := HPW.out _ (List.getElem_mem hlt)
      have HST := hid (gaps_step l j hlt)
      have HLJ := hid (show (b4 ++ gapsBytes (l.take j)).length = 4 + 4 * j by rw [List.length_append, gapsBytes_length, List.length_take, Nat.min_eq_left hj, HL4.out])
      generalize l[j] = gj at *
      obtain ⟨ga, gb⟩ := gj
      simp only at d0 d1 n1 n2 HST
      have hwa := wrap64_nat ga (by omega)
      have hwb := wrap64_nat gb (by omega)
      have i0 : (0 : Int) ≤ (j : Int) := by omega
      have i1 : (j : Int) < (l.length : Int) := by omega
      have i2 : ((j : Int)).toNat = j := by omega
      obtain ⟨W5, hW5⟩ : ∃ W5, W5 = wr.alloc (.cells #[.int .u16 (ga : Int), .int .u16 (gb : Int)] 101 (0, 0)) := ⟨_, rfl⟩
      have hs5 : W5.heap.size = wr.heap.size + 1 := by rw [hW5]; simp
      have g5 : Below wr.heap.size wr W5 := by rw [hW5]; exact (Below.refl _ _).alloc (Nat.le_refl _) _
      have HO5 := hid (HO.out.mono g5)
      have HB5 := hid (gr_trans HB.out g5)
      have HE5 := hid hW5
      clear hcel hW5 g5 k1
      go_wp2_with fail
      rw [← HE5.out, ← hs5]
      refine (bput_new _ (b4 ++ gapsBytes (l.take j)) 2 _ rfl (by omega) [ga, gb] W5 _ 2 rfl rfl HO5.out.rd (by simp; omega) (by simp) (by simp) (by rw [HLJ.out]; omega)).mono ?_
      rintro e w2 ⟨v2, rfl, ho2, hb2⟩
      rw [List.append_assoc, ← HST.out] at ho2
      have HO2 := hid (ho2.base (Nat.le_trans hsW HB5.out.size))
      have HB2 := hid (gr_trans HB5.out hb2)
      obtain ⟨z1, c3, rfl, -, -, -, -⟩ := ho2.rd
      have hln : (b4 ++ gapsBytes (l.take (j + 1))).length = 4 + 4 * (j + 1) := by rw [List.length_append, gapsBytes_length, List.length_take, Nat.min_eq_left (by omega), HL4.out]
      rw [hln] at HO2 ⊢
      clear ho2 hb2 d0 d1 hln
      go_wp2_with fail
      go_roundw
      case rel => exact ⟨j + 1, z1, c3, by omega, by go_num, rfl, HO2, HB2⟩
      case measure => simp [intOf]; omega
    · obtain rfl : j = l.length := by omega
      have hOf := HO.out
      rw [List.take_length] at hOf
      have HOF := hid hOf
      have HQr := hid (HQ1.out.mono HB.out)
      have Gr := hid (gr_trans G1.out HB.out)
      obtain ⟨q0, q1, q2⟩ := HQr.out.three
      have f0 := HQr.out.frozen 0
      have f1 := HQr.out.frozen 1
      have f2 := HQr.out.frozen 2
      clear hOf k1
      go_wp2_with fail
      refine putFwd_ret (.int .u8 192) (.int .u8 0) _ rfl rfl (((HQr.out.store 0 _).store 1 _).store 2 _) ⟨_, rfl, ?_, ((Gr.out.setCell (by simp) _).setCell (by simp) _).setCell (by simp) _⟩
      show Own _ _ _ _ (beBytes 4 cum ++ gapsBytes l)
      rw [← HB4.out]
      exact (HOF.out.keep (r := some (w.heap.size + 1)) (gb_set (gb_set (gb_set (gb_refl _ _) 0 _) 1 _) 2 _) (fun k hk e => by have := HOF.out.ge k hk; simp at e; omega)).base (by omega)
end Go.Proofs.Ytfiblhdejglpaaa

/- cookie's anchor is true. Conditions: the tables of sha hold what its text says. -/
import Derived.Test.YtjpemfciiakphaaDoorCookRead
import Derived.Test.YtjpemfciiakphaaDoorCookDerive
import Derived.Test.YtjpemfciiakphaaDoorShaCut
import Derived.Lib.SlBytesConst
namespace Go.FL
open Go.RowKit
def ck0 : CookD := ⟨5, 1, 2, 3, 4, 6, 7, 8⟩
def ck0V : List Value := [.int .i64 5, .int .u32 1, .int .u32 2, .int .u32 3, .int .u32 4, .int .u32 6, .int .u16 7, .int .u16 8]
theorem ck0_wf : ck0.wf := by simp [ck0, CookD.wf]
theorem ck0_tells : cookTells [107] (cookBytes [107] ck0) = (0, ck0) := by rw [cookTells_back _ _ ck0_wf, if_pos (by simp [ck0, CookD.may])]
theorem ck0_nil : cookTells [107] [] = (7, .zero) := by rw [cookTells, if_pos (by simp)]
theorem body_take8 (key : List UInt8) (c : CookD) (i : Nat) (hi : i < 32) : (cookBytes key c)[i]? = c.body[i]? := by
  rw [cookBytes, List.getElem?_append_left (by rw [CookD.body_length]; exact hi)]
theorem ck0_7 : (cookBytes [107] ck0)[7]? = some 5 := by rw [body_take8 _ _ _ (by omega)]; decide +kernel
theorem ck0_31 : (cookBytes [107] ck0)[31]? = some 8 := by rw [body_take8 _ _ _ (by omega)]; decide +kernel
theorem fresh50 : freshB 5 5 0 = true := by decide
theorem fresh60 : freshB 5 6 0 = false := by decide
end Go.FL
namespace Go.Proofs.YtjpemfciiakphaaDoor
open Go.RowKit Go.FL

set_option maxRecDepth 20000 in
set_option maxHeartbeats 1000000 in
theorem works_any (w : World) (hlaid : ShaLaid w) : Calls Tryd.prog 9 #[] w (Gives w (.bool true)) := by
  have kc := fun (w : World) (C : Array Value) (n c : Nat) => Lib.run_convert_bytes_const (P := Tryd.prog) w 22 5 C n c Tryd.underlying22 Tryd.underlying5
  have kx := kc (w.alloc (.cells #[.int .i64 5, .int .u32 1, .int .u32 2, .int .u32 3, .int .u32 4, .int .u32 6, .int .u16 7, .int .u16 8] 26 (0, 0))) #[.int .u8 107] 1 1
  have hs0 : (w.alloc (.cells #[.int .i64 5, .int .u32 1, .int .u32 2, .int .u32 3, .int .u32 4, .int .u32 6, .int .u16 7, .int .u16 8] 26 (0, 0))).heap.size = w.heap.size + 1 := by simp
  rw [hs0] at kx
  simp only [List.size_toArray, List.length_cons, List.length_nil, Nat.zero_add] at kx
  obtain ⟨W1, hW1⟩ : ∃ W1, W1 = (w.alloc (.cells #[.int .i64 5, .int .u32 1, .int .u32 2, .int .u32 3, .int .u32 4, .int .u32 6, .int .u16 7, .int .u16 8] 26 (0, 0))) := ⟨_, rfl⟩
  have HC1 := hid (show RowV W1 w.heap.size 26 ck0V by rw [hW1]; exact RowV.new w 26 _)
  have G1 := hid (show Below w.heap.size w W1 by rw [hW1]; exact (Below.refl _ _).alloc (Nat.le_refl _) _)
  have hs1 : W1.heap.size = w.heap.size + 1 := by rw [hW1]; simp
  obtain ⟨W2, hW2⟩ : ∃ W2, W2 = W1.alloc (.cells #[.int .u8 107] 5 (1, 2)) := ⟨_, rfl⟩
  have HE2 := hid (show W2 = (w.alloc (.cells #[.int .i64 5, .int .u32 1, .int .u32 2, .int .u32 3, .int .u32 4, .int .u32 6, .int .u16 7, .int .u16 8] 26 (0, 0))).alloc (.cells #[.int .u8 107] 5 (1, 2)) by rw [hW2, hW1])
  have g2 : Below W1.heap.size W1 W2 := by rw [hW2]; exact (Below.refl _ _).alloc (Nat.le_refl _) _
  have G2 := hid (gr_trans G1.out g2)
  have HK2 := hid (show Rd W2 (.slice (some ⟨w.heap.size + 1, 0, none⟩) 1 1) [107] by rw [hW2, ← hs1]; exact rd_newF W1 5 [107] 1 _ (1, 2) rfl rfl (by unfold maxLen; omega))
  have HC2 := hid (HC1.out.mono g2)
  have HL := hid hlaid
  clear hW1 hW2 g2 hlaid
  go_enter Tryd.func9, Tryd.ntmps9
  go_wp2_with fail
  rw [← HE2.out]
  refine (cookWrite_any _ [107] ck0 ck0_wf _ HK2.out (HL.out.mono G2.out) (by simp)).mono ?_
  rintro e w3 ⟨v3, rfl, ho3, hb3⟩
  have HO3 := hid ho3
  have G3 := hid (gr_trans G2.out hb3)
  have HC3 := hid (HC2.out.mono hb3)
  obtain ⟨p3, c3, rfl, -, -, -, -⟩ := ho3.rd
  have hl3 := cookBytes_length [107] ck0
  have HL3 := hid hl3
  obtain ⟨bs, hbs⟩ : ∃ bs, bs = cookBytes [107] ck0 := ⟨_, rfl⟩
  have HBS := hid hbs
  rw [← hbs] at hl3 ho3 HO3 HL3 ⊢
  rw [hl3] at ho3 HO3 ⊢
  have HN3 := hid (rd_newF w3 5 [107] 1 #[.int .u8 107] (1, 2) rfl rfl (by unfold maxLen; omega))
  have gn3 : Below w3.heap.size w3 (w3.alloc (.cells #[.int .u8 107] 5 (1, 2))) := (Below.refl _ _).alloc (Nat.le_refl _) _
  have GN3 := hid gn3
  clear kx
  have kx := kc w3 #[.int .u8 107] 1 1
  simp only [List.size_toArray, List.length_cons, List.length_nil, Nat.zero_add] at kx
  clear ho3 hb3 gn3 hbs hl3 hs0 hs1
  go_wp2_with fail
  refine (twin_any _ bs _ (HO3.out.rd.mono GN3.out) (by rw [HL3.out]; omega)).mono ?_
  rintro e w4 ⟨v4, rfl, ho4, hb4⟩
  have HO4 := hid ho4
  have gn4 := gr_trans GN3.out hb4
  have G4 := hid (gr_trans G3.out gn4)
  have HC4 := hid (HC3.out.mono gn4)
  have HB4 := hid (HO3.out.mono gn4)
  have HN4 := hid (HN3.out.mono hb4)
  obtain ⟨p4, c4, rfl, -, -, -, -⟩ := ho4.rd
  rw [HL3.out] at ho4 HO4 ⊢
  clear ho4 hb4 gn4 kx
  go_wp2_with fail
  refine (cookRead_any _ _ [107] bs _ HN4.out HO4.out.rd (HL.out.mono G4.out) (by simp) (by rw [HL3.out]; omega)).mono ?_
  rintro e w5 ⟨rfl, hb5⟩
  rw [HBS.out, ck0_tells]
  rw [show ck0.val = .agg #[.int .i64 5, .int .u32 1, .int .u32 2, .int .u32 3, .int .u32 4, .int .u32 6, .int .u16 7, .int .u16 8] from rfl]
  have G5 := hid (gr_trans G4.out hb5)
  have HC5 := hid (HC4.out.mono hb5)
  have HB5 := hid (HB4.out.mono hb5)
  have kx := kc (w5.alloc (.cells #[.int .i64 5, .int .u32 1, .int .u32 2, .int .u32 3, .int .u32 4, .int .u32 6, .int .u16 7, .int .u16 8] 26 (0, 0))) #[.int .u8 107] 1 1
  have hs0 : (w5.alloc (.cells #[.int .i64 5, .int .u32 1, .int .u32 2, .int .u32 3, .int .u32 4, .int .u32 6, .int .u16 7, .int .u16 8] 26 (0, 0))).heap.size = w5.heap.size + 1 := by simp
  rw [hs0] at kx
  simp only [List.size_toArray, List.length_cons, List.length_nil, Nat.zero_add] at kx
  obtain ⟨W6, hW6⟩ : ∃ W6, W6 = w5.alloc (.cells #[.int .i64 5, .int .u32 1, .int .u32 2, .int .u32 3, .int .u32 4, .int .u32 6, .int .u16 7, .int .u16 8] 26 (0, 0)) := ⟨_, rfl⟩
  have HD6 := hid (show RowV W6 w5.heap.size 26 ck0V by rw [hW6]; exact RowV.new w5 26 _)
  have g6 : Below w5.heap.size w5 W6 := by rw [hW6]; exact (Below.refl _ _).alloc (Nat.le_refl _) _
  have hs6 : W6.heap.size = w5.heap.size + 1 := by rw [hW6]; simp
  obtain ⟨W7, hW7⟩ : ∃ W7, W7 = W6.alloc (.cells #[.int .u8 107] 5 (1, 2)) := ⟨_, rfl⟩
  have g7 : Below W6.heap.size W6 W7 := by rw [hW7]; exact (Below.refl _ _).alloc (Nat.le_refl _) _
  have HN7 := hid (show Rd W7 (.slice (some ⟨w5.heap.size + 1, 0, none⟩) 1 1) [107] by rw [hW7, ← hs6]; exact rd_newF W6 5 [107] 1 _ (1, 2) rfl rfl (by unfold maxLen; omega))
  have HE7 := hid (show W7 = (w5.alloc (.cells #[.int .i64 5, .int .u32 1, .int .u32 2, .int .u32 3, .int .u32 4, .int .u32 6, .int .u16 7, .int .u16 8] 26 (0, 0))).alloc (.cells #[.int .u8 107] 5 (1, 2)) by rw [hW7, hW6])
  have gg := gr_trans g6 g7
  have HC7 := hid (HC5.out.mono gg)
  have HB7 := hid (HB5.out.mono gg)
  have HD7 := hid (HD6.out.mono g7)
  have G7 := hid (gr_trans G5.out gg)
  clear hb5 hW6 hW7 hs0 hs6 g6 g7 gg
  go_wp2_with fail
  rw [← HE7.out]
  refine (cookRead_any _ _ [107] [] _ HN7.out (Rd.nil _) (HL.out.mono G7.out) (by simp) (by simp)).mono ?_
  rintro e w8 ⟨rfl, hb8⟩
  rw [ck0_nil]
  rw [show CookD.zero.val = .agg #[.int .i64 0, .int .u32 0, .int .u32 0, .int .u32 0, .int .u32 0, .int .u32 0, .int .u16 0, .int .u16 0] from rfl]
  obtain ⟨W9, hW9⟩ : ∃ W9, W9 = w8.alloc (.cells #[.int .i64 0, .int .u32 0, .int .u32 0, .int .u32 0, .int .u32 0, .int .u32 0, .int .u16 0, .int .u16 0] 26 (0, 0)) := ⟨_, rfl⟩
  have g9 : Below w8.heap.size w8 W9 := by rw [hW9]; exact (Below.refl _ _).alloc (Nat.le_refl _) _
  have gg := gr_trans hb8 g9
  have HC9 := hid (HC7.out.mono gg)
  have HB9 := hid (HB7.out.mono gg)
  have HD9 := hid (HD7.out.mono gg)
  have G9 := hid (gr_trans G7.out gg)
  have HE9 := hid hW9
  obtain ⟨i0, i1, i2, i3, i4, i5, i6, i7⟩ := HC9.out.eight
  obtain ⟨j0, j1, j2, j3, j4, j5, j6, j7⟩ := HD9.out.eight
  obtain ⟨p3', c3', he3, -, -, -, hcel⟩ := HB9.out.rd
  have hb7 := hcel 7 (by rw [HL3.out]; omega)
  have hb31 := hcel 31 (by rw [HL3.out]; omega)
  clear hcel hb8 hW9 g9 gg kx
  simp only [Value.slice.injEq] at he3
  obtain ⟨rfl, he4, rfl⟩ := he3
  obtain ⟨bb, off, rfl, d7⟩ := hb7
  obtain ⟨bb', off', he5, d31⟩ := hb31
  simp only [Option.some.injEq, Addr.mk.injEq, and_true] at he5
  obtain ⟨rfl, rfl⟩ := he5
  have q7 : bs[7]? = some 5 := by rw [HBS.out]; exact ck0_7
  have q31 : bs[31]? = some 8 := by rw [HBS.out]; exact ck0_31
  rw [show bs[7]'(by rw [HL3.out]; omega) = 5 from Option.some.inj ((List.getElem?_eq_getElem _).symm.trans q7)] at d7
  rw [show bs[31]'(by rw [HL3.out]; omega) = 8 from Option.some.inj ((List.getElem?_eq_getElem _).symm.trans q31)] at d31
  rw [show (((5 : UInt8).toNat : Nat) : Int) = 5 from rfl, HE9.out] at d7
  rw [show (((8 : UInt8).toNat : Nat) : Int) = 8 from rfl, HE9.out] at d31
  rw [HE9.out] at i0 i1 i2 i3 i4 i5 i6 i7 j0 j1 j2 j3 j4 j5 j6 j7
  clear q7 q31 he4
  go_wp2_with fail
  rw [← HE9.out]
  refine (fresh_walk ck0 ck0_wf 5 0 (by omega) (by omega) _).mono ?_
  rintro e w10 ⟨rfl, hb10⟩
  rw [show freshB ck0.born 5 0 = true from fresh50]
  have G10 := hid (gr_trans G9.out hb10)
  have HC10 := hid (HC9.out.mono hb10)
  clear hb10 i0 i1 i2 i3 i4 i5 i6 i7 j0 j1 j2 j3 j4 j5 j6 j7 d7 d31
  obtain ⟨i0, i1, i2, i3, i4, i5, i6, i7⟩ := HC10.out.eight
  go_wp2_with fail
  refine (fresh_walk ck0 ck0_wf 6 0 (by omega) (by omega) _).mono ?_
  rintro e w11 ⟨rfl, hb11⟩
  rw [show freshB ck0.born 6 0 = false from fresh60]
  have G11 := hid (gr_trans G10.out hb11)
  go_wp2_with fail
  go_ret
  exact ⟨rfl, G11.out⟩
end Go.Proofs.YtjpemfciiakphaaDoor

/- Joined: CookSmall, CookWords, CookWrite, CookRefRead, CookNext, CookRead, CookDerive. -/
import Derived.Test.YtiimlanbbfhkjaaDoorBaseB
import Derived.Test.YtiimlanbbfhkjaaDoorBaseD
import Derived.Test.YtiimlanbbfhkjaaDoorBaseC
import Derived.Test.YtiimlanbbfhkjaaDoorBaseE
import Derived.Test.YtiimlanbbfhkjaaDoorMacA
import Derived.RegionTactic
import Derived.ChangeAlike
import Derived.Deep.RegionHeld3
set_option linter.unusedSimpArgs false
set_option linter.unusedVariables false






namespace Go.FL

open Go.RowKit

/-- A cookie as a value. -/
def CookD.cells (c : CookD) : List Value := [.int .i64 c.born, .int .u32 (c.ot : Int), .int .u32 (c.pt : Int), .int .u32 (c.otsn : Int), .int .u32 (c.ptsn : Int), .int .u32 (c.rw : Int), .int .u16 (c.out : Int), .int .u16 (c.in_ : Int)]
def CookD.val (c : CookD) : Value := .agg #[.int .i64 c.born, .int .u32 (c.ot : Int), .int .u32 (c.pt : Int), .int .u32 (c.otsn : Int), .int .u32 (c.ptsn : Int), .int .u32 (c.rw : Int), .int .u16 (c.out : Int), .int .u16 (c.in_ : Int)]
theorem RowV.eight {w : World} {g e : Nat} {a b c d a' b' c' d' : Value} (h : RowV w g e [a, b, c, d, a', b', c', d']) : w.cell? ⟨g, 0, none⟩ = some a ∧ w.cell? ⟨g, 1, none⟩ = some b ∧ w.cell? ⟨g, 2, none⟩ = some c ∧ w.cell? ⟨g, 3, none⟩ = some d ∧ w.cell? ⟨g, 4, none⟩ = some a' ∧ w.cell? ⟨g, 5, none⟩ = some b' ∧ w.cell? ⟨g, 6, none⟩ = some c' ∧ w.cell? ⟨g, 7, none⟩ = some d' :=
  ⟨h.at 0 (by simp), h.at 1 (by simp), h.at 2 (by simp), h.at 3 (by simp), h.at 4 (by simp), h.at 5 (by simp), h.at 6 (by simp), h.at 7 (by simp)⟩
theorem strNums_list (l : List UInt8) : (strOfNums (l.map fun b => (b.toNat : Int))).toList = l := by
  rw [ByteArray.toList_eq, strOfNums_data, List.map_map]
  conv => rhs; rw [← List.map_id l]
  apply List.map_congr_left
  intro b _
  simp
theorem wrap_span (now born : Int) (h : born ≤ now) (h1 : -9223372036854775808 ≤ now ∧ now < 9223372036854775808) (h2 : -9223372036854775808 ≤ born ∧ born < 9223372036854775808) : IntKind.u64.wrap (IntKind.u64.wrap now - IntKind.u64.wrap born) = now - born := by
  simp only [IntKind.wrap, IntKind.signed, IntKind.bits]
  simp
  omega
def freshB (born now life : Int) : Bool := decide (0 ≤ life ∧ born ≤ now ∧ now - born ≤ life)
end Go.FL

namespace Go.Proofs.YtiimlanbbfhkjaaDoor

open Go.RowKit Go.FL

theorem fresh_walk (c : CookD) (hc : c.wf) (now life : Int) (h1 : -9223372036854775808 ≤ now ∧ now < 9223372036854775808) (h2 : -9223372036854775808 ≤ life ∧ life < 9223372036854775808) (w : World) :
    Calls Tryd.prog 68 #[c.val, .int .i64 now, .int .i64 life] w fun e w' => e = .returned (.bool (freshB c.born now life)) ∧ Below w.heap.size w w' := by
  obtain ⟨⟨hb1, hb2⟩, _⟩ := hc
  obtain ⟨born, ot, pt, otsn, ptsn, rwn, out, in_⟩ := c
  simp only [CookD.val] at *
  by_cases a1 : 0 ≤ life
  · by_cases a2 : born ≤ now
    · have HW := hid (wrap_span now born a2 h1 ⟨hb1, hb2⟩)
      go_enter Tryd.func68, Tryd.ntmps68
      go_wp2_with fail
      go_ret
      exact ⟨by rw [HW.out]; simp [freshB, a1, a2], (Below.refl _ _).alloc (Nat.le_refl _) _⟩
    · go_enter Tryd.func68, Tryd.ntmps68
      go_wp2_with fail
      go_ret
      exact ⟨by simp [freshB, a1, a2]; omega, (Below.refl _ _).alloc (Nat.le_refl _) _⟩
  · go_enter Tryd.func68, Tryd.ntmps68
    go_wp2_with fail
    go_ret
    exact ⟨by simp [freshB, a1]; omega, (Below.refl _ _).alloc (Nat.le_refl _) _⟩

theorem may_walk (c : CookD) (w : World) :
    Calls Tryd.prog 82 #[c.val] w fun e w' => e = .returned (.bool (decide c.may)) ∧ Below w.heap.size w w' := by
  obtain ⟨born, ot, pt, otsn, ptsn, rwn, out, in_⟩ := c
  simp only [CookD.val, CookD.may] at *
  have z1 : ∀ n : Nat, n ≠ 0 → ((n : Int) != 0) = true := fun n h => by simp; omega
  have z2 : ∀ n : Nat, n ≠ 0 → (0 : Int) < (n : Int) := fun n h => by omega
  by_cases a1 : 0 ≤ born
  · by_cases a2 : ot = 0
    · subst a2
      go_enter Tryd.func82, Tryd.ntmps82
      go_wp2_with fail
      go_ret
      exact ⟨by simp, (Below.refl _ _).alloc (Nat.le_refl _) _⟩
    · have f2 := z1 _ a2
      by_cases a3 : pt = 0
      · subst a3
        go_enter Tryd.func82, Tryd.ntmps82
        go_wp2_with fail
        go_ret
        exact ⟨by simp, (Below.refl _ _).alloc (Nat.le_refl _) _⟩
      · have f3 := z1 _ a3
        by_cases a4 : out = 0
        · subst a4
          go_enter Tryd.func82, Tryd.ntmps82
          go_wp2_with fail
          go_ret
          exact ⟨by simp, (Below.refl _ _).alloc (Nat.le_refl _) _⟩
        · have f4 := z2 _ a4
          have f5 : (1 : Int) ≤ (out : Int) := by omega
          go_enter Tryd.func82, Tryd.ntmps82
          go_wp2_with fail
          go_ret
          exact ⟨by simp [a1, a2, a3, a4]; rw [Bool.eq_iff_iff]; simp; omega, (Below.refl _ _).alloc (Nat.le_refl _) _⟩
  · go_enter Tryd.func82, Tryd.ntmps82
    go_wp2_with fail
    go_ret
    exact ⟨by simp [show ¬ 0 ≤ born by omega], (Below.refl _ _).alloc (Nat.le_refl _) _⟩
end Go.Proofs.YtiimlanbbfhkjaaDoor




namespace Go.Proofs.YtiimlanbbfhkjaaDoor

open Go.RowKit Go.FL

set_option maxRecDepth 20000 in
set_option maxHeartbeats 1000000 in
theorem cookWords_any (v u : Value) (l : List UInt8) (xs : List Nat) (w : World) (h : Rd w v l) (k : RdV w u (xs.map fun x : Nat => Value.int .u32 (x : Int))) (hx : ∀ x ∈ xs, x < 4294967296) (h0 : 0 < xs.length) (hn : xs.length ≤ 100) (hs : l.length ≤ 1000000) :
    Calls Tryd.prog 79 #[v, u] w (RetOwn w 5 (l ++ catBE 4 xs)) := by
  have HV := hid h
  obtain ⟨p, c, rfl, hlc, hcm, hpn, hcell⟩ := h
  obtain ⟨q, cq, rfl, hlq, hcq, hqn, hcelq⟩ := k
  unfold maxLen at hcm hcq
  clear hcell
  have hml : (xs.map fun x : Nat => Value.int .u32 (x : Int)).length = xs.length := by simp
  rw [hml] at hlq ⊢
  have HC := hid (show ∀ i (hi : i < xs.length), ∃ b off, q = some ⟨b, off, none⟩ ∧ w.cell? ⟨b, off + i, none⟩ = some (.int .u32 (xs[i] : Int)) from fun i hi => by
    obtain ⟨b, off, e, h⟩ := hcelq i (by omega)
    exact ⟨b, off, e, by simpa using h⟩)
  have HX := hid hx
  clear hcelq hx hml
  go_enter Tryd.func79, Tryd.ntmps79
  go_wp2_with fail
  go_loopw [0, 6, 9] (fun o _ y wr => ∃ (j : Nat) (z : Option Addr) (cc : Nat), j ≤ xs.length ∧ y = .int .i64 (j : Int) ∧ o = .slice z (l.length + 4 * j) cc ∧ Hid (Rd wr o (l ++ catBE 4 (xs.take j))) ∧ Hid (0 < j → Own wr w.heap.size 5 o (l ++ catBE 4 (xs.take j))) ∧ Hid (Below w.heap.size w wr)) (fun _ _ y _ => xs.length - (intOf y).toNat)
  case atStart => exact ⟨0, p, c, Nat.zero_le _, rfl, rfl, hid (by simpa [catBE] using HV.out), hid (fun h => by omega), hid (Below.refl _ _)⟩
  case round =>
    obtain ⟨j, z, cc, hj, rfl, rfl, HR, HO, HB⟩ := hrel
    by_cases hlt : j < xs.length
    · obtain ⟨b, off, rfl, hc⟩ := HC.out j hlt
      have hcw := cell?_of_below HB.out hc
      have hxb := HX.out _ (List.getElem_mem hlt)
      have HT := hid (show xs.take (j + 1) = xs.take j ++ [xs[j]] from List.take_succ_eq_append_getElem hlt)
      have HS := hid hs
      have HN := hid hn
      have HL2 := hid (show (l ++ catBE 4 (xs.take j)).length = l.length + 4 * j by rw [List.length_append, catBE_length, List.length_take, Nat.min_eq_left hj])
      generalize xs[j] = x at *
      clear hc
      go_wp2_with fail
      refine (put_at _ (l ++ catBE 4 (xs.take j)) x 4 _ _ rfl rfl (by omega) _ HR.out (by have := HL2.out; have := HS.out; have := HN.out; omega) (by omega)).mono ?_
      rintro e w1 ⟨v1, rfl, ho1, hb1⟩
      rw [List.append_assoc, show catBE 4 (xs.take j) ++ beBytes 4 x = catBE 4 (xs.take (j + 1)) by rw [HT.out, catBE_append]; simp [catBE]] at ho1
      have hle := HB.out.size
      have HO1 := hid (ho1.base hle)
      have HB1 := hid (gr_trans HB.out hb1)
      obtain ⟨z1, c1, rfl, _⟩ := ho1.rd
      rw [show (l ++ catBE 4 (xs.take (j + 1))).length = l.length + 4 * (j + 1) by rw [List.length_append, catBE_length, List.length_take, Nat.min_eq_left (by omega)]] at *
      clear ho1 hb1 hle hcw
      go_wp2_with fail
      go_roundw
      case rel => exact ⟨j + 1, z1, c1, by omega, by go_num, rfl, hid HO1.out.rd, hid (fun _ => HO1.out), HB1⟩
      case measure => simp [intOf]; omega
    · obtain rfl : j = xs.length := by omega
      go_wp2_with fail
      go_ret
      have := HO.out h0
      rw [List.take_length] at this
      exact ⟨_, rfl, this, HB.out⟩
end Go.Proofs.YtiimlanbbfhkjaaDoor









namespace Go.FL

open Go.RowKit

theorem run_make_u8d {P : Program} (t e : TypeId) (ht : P.underlying t = some (.slice e)) (hi : (P.info? e).map (fun i => (i.zero, i.size, i.bytes)) = some (some (.int .u8 0), 1, 1)) (kl kc : IntKind) (n c : Nat) (hnc : n ≤ c) (hn : c ≤ 281474976710656) (w : World) :
    (Instr.makeSlice t (.int kl (n : Int)) (.int kc (c : Int))).run P w = .ok (.slice (some ⟨w.heap.size, 0, none⟩) n c) (w.alloc (.cells (bytesV (List.replicate c 0)).toArray e (0, 0))) := by
  obtain ⟨i, h1, h2, h3, h4⟩ := info_parts hi
  have := run_make (P := P) w t e i _ ht h1 h2 kl kc (n : Int) (c : Int) (by omega) (by omega) (by rw [h4]; omega) (by omega)
  rw [this, h3]
  simp only [Int.toNat_natCast]
  rw [madeCells_u8]
theorem body_parts (c : CookD) : beBytes 8 (bornN c.born) ++ catBE 4 [c.ot, c.pt, c.otsn, c.ptsn, c.rw] ++ beBytes 2 c.out ++ beBytes 2 c.in_ = c.body := by
  simp [CookD.body, catBE]
theorem wrap_born (b : Int) : IntKind.u64.wrap b = (bornN b : Int) := by
  simp only [IntKind.wrap, IntKind.signed, IntKind.bits, bornN]
  simp
  omega
theorem wrap_nat (n : Nat) (h : n < 18446744073709551616) : IntKind.u64.wrap (n : Int) = (n : Int) := by
  rw [IntKind.wrap_u64]; omega
end Go.FL

namespace Go.Proofs.YtiimlanbbfhkjaaDoor

open Go.RowKit Go.FL Go.ChangeShapes

set_option maxRecDepth 100000 in
set_option maxHeartbeats 4000000 in
theorem cookWrite_any (v : Value) (key : List UInt8) (c : CookD) (hc : c.wf) (w : World) (hv : Rd w v key) (hlaid : ShaLaid w) (hk : key.length ≤ 1047000) :
    Calls Tryd.prog 66 #[v, c.val] w (RetOwn w 5 (cookBytes key c)) := by
  have HV := hid hv
  obtain ⟨p, cp, rfl, hlc, hcm, hpn, hcell⟩ := hv
  unfold maxLen at hcm
  clear hcell
  have HL := hid hlaid
  have HK := hid hk
  clear hlaid hk
  have HBD := hid (body_parts c)
  obtain ⟨bd, hbd⟩ : ∃ bd, bd = c.body := ⟨_, rfl⟩
  have HCB := hid (show cookBytes key c = bd ++ macSum key bd by rw [cookBytes, hbd])
  have HBL := hid (show bd.length = 32 by rw [hbd, CookD.body_length])
  rw [← hbd] at HBD
  clear hbd
  rw [HCB.out]
  obtain ⟨⟨hb1, hb2⟩, h1, h2, h3, h4, h5, h6, h7⟩ := hc
  obtain ⟨born, ot, pt, otsn, ptsn, rwn, out, in_⟩ := c
  simp only [CookD.val] at *
  have WB0 := wrap_born born
  have hbn := bornN_lt born
  generalize bornN born = bn at *
  have WB := hid WB0
  have WO := hid (wrap_nat out (by omega))
  have WI := hid (wrap_nat in_ (by omega))
  have hmk : ∀ wx, (Instr.makeSlice 25 (.int .i64 0) (.int .i64 64)).run Tryd.prog wx = .ok (.slice (some ⟨wx.heap.size, 0, none⟩) 0 64) (wx.alloc (.cells (bytesV (List.replicate 64 0)).toArray 5 (0, 0))) := fun wx => run_make_u8d (P := Tryd.prog) 25 5 Tryd.underlying25 infoU8o .i64 .i64 0 64 (by omega) (by omega) wx
  clear WB0
  obtain ⟨W, hW⟩ : ∃ W, W = w.alloc (.cells #[.int .i64 born, .int .u32 (ot : Int), .int .u32 (pt : Int), .int .u32 (otsn : Int), .int .u32 (ptsn : Int), .int .u32 (rwn : Int), .int .u16 (out : Int), .int .u16 (in_ : Int)] 109 (0, 0)) := ⟨_, rfl⟩
  have hr : RowV W w.heap.size 109 [.int .i64 born, .int .u32 (ot : Int), .int .u32 (pt : Int), .int .u32 (otsn : Int), .int .u32 (ptsn : Int), .int .u32 (rwn : Int), .int .u16 (out : Int), .int .u16 (in_ : Int)] := by rw [hW]; exact RowV.new w 109 _
  have HW := hid (show Below w.heap.size w W by rw [hW]; exact (Below.refl _ _).alloc (Nat.le_refl _) _)
  have HE := hid hW
  have HR := hid hr
  have K0 := hid hr.eight.1
  clear hW hr
  go_enter Tryd.func66, Tryd.ntmps66
  go_wp2_with fail
  rw [← HE.out]
  refine wp_region_gr [RdF [], Is (.pointer (some ⟨w.heap.size, 0, none⟩)), Is (.int .i64 born), Is (.int .u64 (bn : Int)), OwnF W.heap.size 5 (beBytes 8 bn), OwnF W.heap.size 5 (beBytes 8 bn)] (by kernel_rfl) (by kernel_rfl) (by kernel_rfl) ?_ ?_ ?_
  · simp only [StabAll, Is.gr, RdF.gr, OwnF.gr, AnyF.gr, and_self]
  · rename_i Kk hKk; clear hKk Kk
    simp only [AllOps, List.map_cons, List.map_nil, depsOf, List.filterMap_cons, List.filterMap_nil, Region.binds, depFacts, guardF, reduceIte, List.getD_eq_getElem?_getD, List.getElem?_cons_succ, List.getElem?_cons_zero, Option.getD_some, factAt, and_true]
    refine ⟨?_, ?_, ?_, ?_, ?_, ?_⟩
    all_goals intro ρ wv hρ hR hd
    all_goals try simp only [Is] at hd
    · exact opOk_val (v := .slice (some ⟨wv.heap.size, 0, none⟩) 0 64) (w' := wv.alloc (.cells (bytesV (List.replicate 64 0)).toArray 5 (0, 0))) (by simp [execOp, hρ.1.const, hmk]) ⟨⟨_, 64, rfl, by simp, by unfold maxLen; omega, (fun h => by cases h), (fun j hj => by simp at hj)⟩, (Below.refl _ _).alloc (Nat.le_refl _) _⟩
    · exact opOk_val (v := .pointer (some ⟨w.heap.size, 0, none⟩)) (w' := wv) (by simp [execOp, go_sem, hρ.1.const, hρ.1.func, hd, (hρ.2 3 rfl)]) ⟨rfl, GrR.refl _⟩
    · (have h0 := cell?_of_below hR K0.out; exact opOk_val (v := .int .i64 born) (w' := wv) (by simp [execOp, go_sem, hd, h0]) ⟨rfl, GrR.refl _⟩)
    · exact opOk_val (v := .int .u64 (bn : Int)) (w' := wv) (by simp [execOp, go_sem, hρ.1.const, hρ.1.func, hd, WB.out]) ⟨rfl, GrR.refl _⟩
    · exact opOk_call hρ.1 rfl rfl Tryd.func63 (by kernel_rfl) rfl (by simp [hd, hρ.1.const]) ((put_at _ [] bn 8 _ _ rfl rfl (by omega) _ hd.1 (by simp) (by omega)).mono fun e w' ⟨v', h1, h2, h3⟩ => ⟨v', h1, h2.base hR.size, h3⟩)
    · exact opOk_move (.inr rfl) ⟨hd.1, GrR.refl _⟩
  · intro vals wv hR hall
    obtain ⟨w1, hw1⟩ : ∃ w1, w1 = wv := ⟨_, rfl⟩
    have ho1 := hall 5 (by simp)
    simp only [factAt, OwnF, List.getD_eq_getElem?_getD, List.getElem?_cons_succ, List.getElem?_cons_zero, Option.getD_some] at ho1
    clear hall
    obtain ⟨p1, c1, hv5, -, -, -, -⟩ := ho1.rd
    simp only [fillFrom, Act.put, hv5, List.setIfInBounds_toArray, List.set_cons_zero, List.set_cons_succ]
    rw [hv5] at ho1
    have HO1 := hid ho1
    have G1 := hid (gr_trans HW.out hR)
    have HR1 := hid (HR.out.mono hR)
    rename_i Kk hKk
    refine hKk _ _ ?_
    clear hKk Kk ho1 hR
    obtain ⟨k0, k1, k2, k3, k4, k5, k6, k7⟩ := HR1.out.eight
    have HX := hid (rdV_new wv 22 ([ot, pt, otsn, ptsn, rwn].map fun x : Nat => Value.int .u32 (x : Int)) 5 #[.int .u32 (ot : Int), .int .u32 (pt : Int), .int .u32 (otsn : Int), .int .u32 (ptsn : Int), .int .u32 (rwn : Int)] rfl rfl (by unfold maxLen; omega))
    have GX := hid (show Below wv.heap.size wv (wv.alloc (.cells #[.int .u32 (ot : Int), .int .u32 (pt : Int), .int .u32 (otsn : Int), .int .u32 (ptsn : Int), .int .u32 (rwn : Int)] 22 (0, 0))) from (Below.refl _ _).alloc (Nat.le_refl _) _)
    have HBN := hid (beBytes_length 8 bn)
    go_wp2_with fail
    refine (cookWords_any _ _ (beBytes 8 bn) [ot, pt, otsn, ptsn, rwn] _ (HO1.out.rd.mono GX.out) HX.out (by simp; omega) (by simp) (by simp) (by rw [HBN.out]; omega)).mono ?_
    obtain ⟨b28, hb28⟩ : ∃ b28, b28 = beBytes 8 bn ++ catBE 4 [ot, pt, otsn, ptsn, rwn] := ⟨_, rfl⟩
    rw [← hb28]
    have HL2 := hid (show b28.length = 28 by rw [hb28, List.length_append, catBE_length, beBytes_length]; rfl)
    have H28 := hid (show b28 ++ beBytes 2 out ++ beBytes 2 in_ = bd by rw [hb28]; exact HBD.out)
    clear hb28
    rintro e w2 ⟨v2, rfl, ho2, hb2⟩
    have G2 := hid (gr_trans G1.out (gr_trans GX.out hb2))
    have HR2 := hid (HR1.out.mono (gr_trans GX.out hb2))
    obtain ⟨p2, c2, rfl, -, -, -, -⟩ := ho2.rd
    have HO2 := hid ho2
    have K6 := hid HR2.out.eight.2.2.2.2.2.2.1
    have K7 := hid HR2.out.eight.2.2.2.2.2.2.2
    clear ho2 hb2 k0 k1 k2 k3 k4 k5 k6 k7 HX GX HO1 HR1 hmk
    go_wp2_with fail
    refine wp_region_grL [Is (.slice p2 b28.length c2), Is (.pointer (some ⟨w.heap.size, 6, none⟩)), Is (.int .u16 (out : Int)), Is (.int .u64 (out : Int)), OwnF w2.heap.size 5 (b28 ++ beBytes 2 out), Is (.pointer (some ⟨w.heap.size, 7, none⟩)), Is (.int .u16 (in_ : Int)), Is (.int .u64 (in_ : Int)), OwnF w2.heap.size 5 (b28 ++ beBytes 2 out ++ beBytes 2 in_), OwnF w2.heap.size 5 (b28 ++ beBytes 2 out ++ beBytes 2 in_)] (by kernel_rfl) (by kernel_rfl) (by kernel_rfl) (by kernel_rfl) ?_ ?_ ?_
    · simp only [StabAll, Is.gr, RdF.gr, OwnF.gr, AnyF.gr, and_self]
    · rename_i Kk hKk; clear hKk Kk
      simp only [AllOps, List.map_cons, List.map_nil, depsOf, List.filterMap_cons, List.filterMap_nil, Region.binds, depFacts, guardF, reduceIte, List.getD_eq_getElem?_getD, List.getElem?_cons_succ, List.getElem?_cons_zero, Option.getD_some, factAt, and_true]
      refine ⟨?_, ?_, ?_, ?_, ?_, ?_, ?_, ?_, ?_, ?_⟩
      all_goals intro ρ wv hρ hR hd
      all_goals try simp only [Is] at hd
      · exact opOk_move (.inl rfl) ⟨by simp only [Is]; (first | exact hρ.2 5 rfl | exact hd | exact hd.1 | exact hd.2 | simp [hd]), GrR.refl _⟩
      · exact opOk_val (v := .pointer (some ⟨w.heap.size, 6, none⟩)) (w' := wv) (by simp [execOp, go_sem, hρ.1.const, hρ.1.func, hd, (hρ.2 3 rfl)]) ⟨rfl, GrR.refl _⟩
      · (have h0 := cell?_of_below hR K6.out; exact opOk_val (v := .int .u16 (out : Int)) (w' := wv) (by simp [execOp, go_sem, hd, h0]) ⟨rfl, GrR.refl _⟩)
      · exact opOk_val (v := .int .u64 (out : Int)) (w' := wv) (by simp [execOp, go_sem, hρ.1.const, hρ.1.func, hd, WO.out]) ⟨rfl, GrR.refl _⟩
      · exact opOk_call hρ.1 rfl rfl Tryd.func63 (by kernel_rfl) rfl (by simp [hd, hρ.1.const]) ((put_at _ b28 out 2 _ _ rfl rfl (by omega) _ (HO2.out.rd.mono hR) (by rw [HL2.out]; omega) (by omega)).mono fun e w' ⟨v', h1, h2, h3⟩ => ⟨v', h1, h2.base hR.size, h3⟩)
      · exact opOk_val (v := .pointer (some ⟨w.heap.size, 7, none⟩)) (w' := wv) (by simp [execOp, go_sem, hρ.1.const, hρ.1.func, hd, (hρ.2 3 rfl)]) ⟨rfl, GrR.refl _⟩
      · (have h0 := cell?_of_below hR K7.out; exact opOk_val (v := .int .u16 (in_ : Int)) (w' := wv) (by simp [execOp, go_sem, hd, h0]) ⟨rfl, GrR.refl _⟩)
      · exact opOk_val (v := .int .u64 (in_ : Int)) (w' := wv) (by simp [execOp, go_sem, hρ.1.const, hρ.1.func, hd, WI.out]) ⟨rfl, GrR.refl _⟩
      · exact opOk_call hρ.1 rfl rfl Tryd.func63 (by kernel_rfl) rfl (by simp [hd, hρ.1.const]) ((put_at _ (b28 ++ beBytes 2 out) in_ 2 _ _ rfl rfl (by omega) _ hd.1.rd (by rw [List.length_append, HL2.out, beBytes_length]; omega) (by omega)).mono fun e w' ⟨v', h1, h2, h3⟩ => ⟨v', h1, h2.base hR.size, h3⟩)
      · exact opOk_move (.inr rfl) ⟨hd.1, GrR.refl _⟩
    · intro vals wv hR hall
      have ho3 := hall 9 (by simp)
      simp only [factAt, OwnF, List.getD_eq_getElem?_getD, List.getElem?_cons_succ, List.getElem?_cons_zero, Option.getD_some] at ho3
      clear hall
      rw [H28.out] at ho3
      obtain ⟨p3, c3, hv3, -, -, -, -⟩ := ho3.rd
      simp only [fillFrom, Act.put, hv3, List.setIfInBounds_toArray, List.set_cons_zero, List.set_cons_succ]
      rw [hv3] at ho3
      have HO3 := hid (ho3.base G2.out.size)
      have G3 := hid (gr_trans G2.out hR)
      rename_i Kk hKk
      refine hKk _ _ ?_
      clear hKk Kk ho3 hR
      go_wp2_with fail
      obtain ⟨md, hmd⟩ : ∃ md, md = macSum key bd := ⟨_, rfl⟩
      have HDL := hid (show (bytesV md).length = 32 by rw [bytesV_length, hmd, macSum_length])
      have HML := hid (show md.length = 32 by rw [hmd, macSum_length])
      refine (macOf_any _ _ key bd _ (HV.out.mono G3.out) HO3.out.rd (HL.out.mono G3.out) (by have := HK.out; omega) (by rw [HBL.out]; omega)).mono ?_
      rw [← hmd]
      rintro e w4 ⟨rfl, hb4⟩
      have HO4 := hid (HO3.out.mono hb4)
      have G4 := hid (gr_trans G3.out hb4)
      have hzo := zeroOut
      have HMD := hid hmd
      clear hmd hb4
      go_wp2_with (refine wpList_store_rowV rfl 124 (.tmp 6) (.tmp 36) rfl w4.heap.size (bytesV md) zeros32 124 rfl rfl (RowV.new w4 124 zeros32) ?hi ?ho (bytesV_oneCell md) ?_)
      case hi => rw [HDL.out]; kernel_rfl
      case ho => rw [HDL.out, zeros32_length]
      intro w5 hr5 hg5
      have HRD5 := hid (show Rd w5 (.slice (some ⟨w4.heap.size, 0, none⟩) 32 32) md by
        have := hr5.out.to_row.rd 32 32 (by rw [HML.out]; exact Nat.le_refl _) (Nat.le_refl _) (by unfold maxLen; omega)
        rwa [List.take_of_length_le (by rw [HML.out]; exact Nat.le_refl _)] at this)
      have hgr : Below w4.heap.size w4 w5 := ((Below.refl _ _).alloc (Nat.le_refl _) _).trans (gb_below (B := w4.heap.size) hg5.out (Nat.le_refl _) (by simp))
      have HO5 := hid (HO4.out.mono hgr)
      have G5 := hid (gr_trans G4.out hgr)
      clear hr5 hg5 hgr
      go_wp2_with (at_builtin; refine wpList_append_Own rfl (.tmp 37) (.tmp 38) 25 rfl w.heap.size 5 Tryd.underlying25 infoU8o _ _ bd md rfl HO5.out rfl HRD5.out (by rw [HML.out, HBL.out]; omega) G5.out.size ?_)
      intro v6 w6 ho6 hg6
      go_wp2_with fail
      go_ret
      exact ⟨_, rfl, by rw [← HMD.out]; exact ho6, G5.out.grown hg6 G5.out.size HO5.out.ge⟩
end Go.Proofs.YtiimlanbbfhkjaaDoor




namespace Go.FL

open Go.RowKit

def CookRead (w : World) (key l : List UInt8) (e : Ending) (w' : World) : Prop :=
  e = .returned (.tuple #[(cookTells key l).2.val, .int .i64 (cookTells key l).1]) ∧ Below w.heap.size w w'
theorem RowV.put8 {w : World} {g e : Nat} {u0 u1 u2 u3 u4 u5 u6 u7 : Value} (h : RowV w g e [u0, u1, u2, u3, u4, u5, u6, u7]) (v0 v1 v2 v3 v4 v5 v6 v7 : Value) :
    RowV ((((((((w.setCell ⟨g, 0, none⟩ v0).setCell ⟨g, 1, none⟩ v1).setCell ⟨g, 2, none⟩ v2).setCell ⟨g, 3, none⟩ v3).setCell ⟨g, 4, none⟩ v4).setCell ⟨g, 5, none⟩ v5).setCell ⟨g, 6, none⟩ v6).setCell ⟨g, 7, none⟩ v7) g e [v0, v1, v2, v3, v4, v5, v6, v7] :=
  (((((((h.store 0 v0).store 1 v1).store 2 v2).store 3 v3).store 4 v4).store 5 v5).store 6 v6).store 7 v7
theorem run_slice_from32 {P : Program} (t e : TypeId) (ht : P.underlying t = some (.slice e)) (hz : (P.info? e).map (·.size) = some 1) (p : Option Addr) (n c i : Nat) (hi : i ≤ n) (k : IntKind) (w : World) :
    (Instr.slice t (.slice p n c) (some (.int k (i : Int))) none none).run P w = .ok (sliced p i n c 1) w := by
  cases hq : P.info? e with
  | none => simp [hq] at hz
  | some inf =>
    have hs : inf.size = 1 := by simpa [hq] using hz
    simp [Instr.slice, run_underlying ht, Instr.sliceBounds, run_sliceBound, sizeOf, typeInfo, hq, hs, hi, sliced]
theorem below_put8 {B g : Nat} {a w : World} (h : Below B a w) (hg : B ≤ g) (v0 v1 v2 v3 v4 v5 v6 v7 : Value) :
    Below B a ((((((((w.setCell ⟨g, 0, none⟩ v0).setCell ⟨g, 1, none⟩ v1).setCell ⟨g, 2, none⟩ v2).setCell ⟨g, 3, none⟩ v3).setCell ⟨g, 4, none⟩ v4).setCell ⟨g, 5, none⟩ v5).setCell ⟨g, 6, none⟩ v6).setCell ⟨g, 7, none⟩ v7) :=
  (((((((h.setCell (by exact hg) _).setCell (by exact hg) _).setCell (by exact hg) _).setCell (by exact hg) _).setCell (by exact hg) _).setCell (by exact hg) _).setCell (by exact hg) _).setCell (by exact hg) _
end Go.FL

namespace Go.Proofs.YtiimlanbbfhkjaaDoor

open Go.RowKit Go.FL

end Go.Proofs.YtiimlanbbfhkjaaDoor



namespace Go.Proofs.YtiimlanbbfhkjaaDoor

open Go.RowKit Go.FL

set_option maxRecDepth 20000 in
theorem next_any (gs gn : Nat) (v : Value) (l : List UInt8) (a n : Nat) (N : Int) (hN : N = (n : Int)) (hn : n = 1 ∨ n = 2 ∨ n = 4 ∨ n = 8) (w : World) (hc : w.cell? ⟨gs, 0, none⟩ = some v) (hv : Rd w v l) (hr : RowV w gn 3 [.int .i64 (a : Int)]) (hl : a + n ≤ l.length) (hm : l.length ≤ 1000000) :
    Calls Tryd.prog 81 #[.int .i64 N, .pointer (some ⟨gs, 0, none⟩), .pointer (some ⟨gn, 0, none⟩)] w fun e w' => e = .returned (.int .u64 (numAt l a n : Int)) ∧ RowV w' gn 3 [.int .i64 ((a + n : Nat) : Int)] ∧ w.grownBy w' (some gn) := by
  subst hN
  have HV := hid hv
  have HR := hid hr
  have HN := hid hn
  obtain ⟨p, c, rfl, hlc, hcm, hpn, hcell⟩ := hv
  unfold maxLen at hcm
  clear hcell hn
  have c0 : w.cell? ⟨gn, 0, none⟩ = some (.int .i64 (a : Int)) := hr.at 0 (by simp)
  have f0 := hr.frozen 0
  clear hr
  go_enter Tryd.func81, Tryd.ntmps81
  go_wp2_with fail
  refine (get_within _ l a n _ _ rfl rfl HN.out _ HV.out hl).mono ?_
  rintro e w1 ⟨rfl, rfl⟩
  go_wp2_with fail
  go_ret
  refine ⟨rfl, ?_, gb_set (gb_refl _ _) 0 _⟩
  rw [Int.natCast_add]
  exact HR.out.store 0 _
end Go.Proofs.YtiimlanbbfhkjaaDoor






namespace Go.FL


end Go.FL

namespace Go.FL

open Go.RowKit

def cookRow (b : Int) (xs : List Nat) (j : Nat) : List Value := .int .i64 b :: ((xs.take j ++ List.replicate (5 - j) 0).map fun x : Nat => Value.int .u32 (x : Int)) ++ [.int .u16 0, .int .u16 0]
theorem cookRow_set (b : Int) (x1 x2 x3 x4 x5 : Nat) (j : Nat) (hj : j < 5) : (cookRow b [x1, x2, x3, x4, x5] j).set (j + 1) (.int .u32 ((([x1, x2, x3, x4, x5][j]'hj : Nat)) : Int)) = cookRow b [x1, x2, x3, x4, x5] (j + 1) := by
  match j, hj with
  | 0, _ => rfl
  | 1, _ => rfl
  | 2, _ => rfl
  | 3, _ => rfl
  | 4, _ => rfl
end Go.FL

namespace Go.Proofs.YtiimlanbbfhkjaaDoor

open Go.RowKit Go.FL Go.ChangeShapes

theorem cookRd_ret {a : Act} {W : World} {g : Nat} {R : Ending → World → Prop} (v0 v1 v2 v3 v4 v5 v6 v7 : Value) (er : Int) (h4 : a.tmps.getD 4 undef = .pointer (some ⟨g, 0, none⟩)) (h5 : a.tmps.getD 5 undef = .int .i64 er) (hd : a.defers = [])
    (hc : RowV W g 109 [v0, v1, v2, v3, v4, v5, v6, v7]) (hR : R (.returned (.tuple #[.agg #[v0, v1, v2, v3, v4, v5, v6, v7], .int .i64 er])) W) : bodyPost Tryd.prog Tryd.f67 R .ret a W := by
  refine bodyPost_ret (v := .tuple #[.agg #[v0, v1, v2, v3, v4, v5, v6, v7], .int .i64 er]) ?_ hd hR
  obtain ⟨c0, c1, c2, c3, c4, c5, c6, c7⟩ := RowV.eight hc
  simp only [Array.getD_eq_getD_getElem?] at h4 h5
  simp [results, Tryd.results67, go_sem, h4, h5, asAddr, c0, c1, c2, c3, c4, c5, c6, c7]

set_option maxRecDepth 100000 in
set_option maxHeartbeats 1000000 in
theorem cookRead_any (v u : Value) (key l : List UInt8) (w : World) (hv : Rd w v key) (hu : Rd w u l) (hlaid : ShaLaid w) (hk : key.length ≤ 1047000) (hl : l.length ≤ 1000000) :
    Calls Tryd.prog 67 #[v, u] w (CookRead w key l) := by
  have HV := hid hv
  have HU := hid hu
  have HK := hid hk
  have HL := hid hlaid
  obtain ⟨p, cp, rfl, hlc, hcm, hpn, hcell⟩ := hv
  obtain ⟨q, c, rfl, hlq, hcq, hqn, hcelq⟩ := hu
  unfold maxLen at hcm hcq
  clear hcell hk hlaid
  obtain ⟨W, hW⟩ : ∃ W, W = w.alloc (.cells #[.int .i64 0, .int .u32 0, .int .u32 0, .int .u32 0, .int .u32 0, .int .u32 0, .int .u16 0, .int .u16 0] 109 (0, 0)) := ⟨_, rfl⟩
  have HA := hid (show RowV W w.heap.size 109 [.int .i64 0, .int .u32 0, .int .u32 0, .int .u32 0, .int .u32 0, .int .u32 0, .int .u16 0, .int .u16 0] by rw [hW]; exact RowV.new w 109 _)
  have HW := hid (show Below w.heap.size w W by rw [hW]; exact (Below.refl _ _).alloc (Nat.le_refl _) _)
  have HE := hid hW
  have HSZ := hid (show W.heap.size = w.heap.size + 1 by rw [hW]; simp)
  clear hW
  by_cases h64 : l.length = 64
  · obtain ⟨b0, off, rfl, -⟩ := hcelq 0 (by omega)
    clear hcelq
    obtain ⟨p3, c3, hs3⟩ : ∃ p3 c3, sliced (some ⟨b0, off, none⟩) 32 l.length c 1 = .slice p3 (l.length - 32) c3 := ⟨_, _, rfl⟩
    have hsl2 : ∀ wx, (Instr.slice 25 (.slice (some ⟨b0, off, none⟩) l.length c) (some (.int .i64 32)) none none).run Tryd.prog wx = .ok (.slice p3 32 c3) wx := fun wx => by
      have hh := run_slice_from32 (P := Tryd.prog) 25 5 Tryd.underlying25 (by kernel_rfl) (some ⟨b0, off, none⟩) l.length c 32 (by omega) .i64 wx
      rw [hs3, show l.length - 32 = 32 by omega] at hh
      exact hh
    have hcut := HU.out.cut 32 l.length (by omega) (Nat.le_refl _)
    rw [hs3, List.take_of_length_le (by simp), show l.length - 32 = 32 by omega] at hcut
    have HCUT := hid hcut
    have HTK := hid (HU.out.take 32 (by omega))
    have HTL := hid (show (l.take 32).length = 32 by rw [List.length_take]; omega)
    obtain ⟨md, hmd⟩ : ∃ md, md = macSum key (l.take 32) := ⟨_, rfl⟩
    have HDL := hid (show (bytesV md).length = 32 by rw [bytesV_length, hmd, macSum_length])
    have HML := hid (show md.length = 32 by rw [hmd, macSum_length])
    have HMD := hid hmd
    have hzo := zeroOut
    clear hs3 hcut hmd
    have hb1 : (32 : Int) ≤ (c : Int) := by omega
    have hb2 : 32 ≤ c := by omega
    have heq : ((l.length : Int) != 64) = false := by simp; omega
    have H64 := hid h64
    clear h64
    go_enter Tryd.func67, Tryd.ntmps67
    go_wp2_with fail
    go_region
    rw [← HE.out]
    obtain ⟨W3, hW3⟩ : ∃ W3, W3 = (W.alloc (.cells #[.slice (some ⟨b0, off, none⟩) 32 c] 25 (0, 0))).drew := ⟨_, rfl⟩
    have g3 : Below W.heap.size W W3 := by rw [hW3]; exact ((Below.refl _ _).alloc (Nat.le_refl _) _).drew
    have HS3 := hid (show RowV W3 (w.heap.size + 1) 25 [.slice (some ⟨b0, off, none⟩) 32 c] by rw [hW3, ← HSZ.out]; exact (RowV.new W 25 _).drew)
    have HA3 := hid (HA.out.mono g3)
    have G3 := hid (gr_trans HW.out g3)
    rw [← hW3]
    clear hW3 g3 hsl2
    have s0 : W3.cell? ⟨w.heap.size + 1, 0, none⟩ = some (.slice (some ⟨b0, off, none⟩) 32 c) := HS3.out.at 0 (by simp)
    go_wp2_with fail
    refine (macOf_any _ _ key (l.take 32) _ (HV.out.mono G3.out) (HTK.out.mono G3.out) (HL.out.mono G3.out) (by have := HK.out; omega) (by rw [HTL.out]; omega)).mono ?_
    rw [← HMD.out]
    rintro e w4 ⟨rfl, hb4⟩
    have HA4 := hid (HA3.out.mono hb4)
    have HS4 := hid (HS3.out.mono hb4)
    have G4 := hid (gr_trans G3.out hb4)
    clear hb4 s0
    go_wp2_with (refine wpList_store_rowV rfl 124 (.tmp 8) (.tmp 24) rfl w4.heap.size (bytesV md) zeros32 124 rfl rfl (RowV.new w4 124 zeros32) ?hi ?ho (bytesV_oneCell md) ?_)
    case hi => rw [HDL.out]; kernel_rfl
    case ho => rw [HDL.out, zeros32_length]
    intro w5 hr5 hg5
    have HRD5 := hid (show Rd w5 (.slice (some ⟨w4.heap.size, 0, none⟩) 32 32) md by
      have := hr5.out.to_row.rd 32 32 (by rw [HML.out]; exact Nat.le_refl _) (Nat.le_refl _) (by unfold maxLen; omega)
      rwa [List.take_of_length_le (by rw [HML.out]; exact Nat.le_refl _)] at this)
    have hgr : Below w4.heap.size w4 w5 := ((Below.refl _ _).alloc (Nat.le_refl _) _).trans (gb_below (B := w4.heap.size) hg5.out (Nat.le_refl _) (by simp))
    have G5 := hid (gr_trans G4.out hgr)
    have HA5 := hid (HA4.out.mono hgr)
    have HS5 := hid (HS4.out.mono hgr)
    clear hr5 hg5 hgr hzo
    go_wp2_with fail
    refine (same_any _ _ md (l.drop 32) _ HRD5.out (HCUT.out.mono G5.out)).mono ?_
    rintro e w6 ⟨rfl, hb6⟩
    have HA6 := hid (HA5.out.mono hb6)
    have HS6 := hid (HS5.out.mono hb6)
    have G6 := hid (gr_trans G5.out hb6)
    clear hb6
    by_cases hq : md = l.drop 32
    · rw [decide_eq_true hq]
      have hl64 := H64.out
      have hn0 := numAt_lt l 0 8
      obtain ⟨x0, hx0⟩ : ∃ x0, x0 = numAt l 0 8 := ⟨_, rfl⟩
      rw [← hx0] at hn0
      have HX0 := hid hx0
      have HY0 := hid (show numAt (l.take 32) 0 8 = x0 by rw [hx0]; exact numAt_take l 0 8 32 (by omega) (by omega))
      clear hx0
      have hn1 := numAt_lt l 8 4
      obtain ⟨x1, hx1⟩ : ∃ x1, x1 = numAt l 8 4 := ⟨_, rfl⟩
      rw [← hx1] at hn1
      have HX1 := hid hx1
      have HY1 := hid (show numAt (l.take 32) 8 4 = x1 by rw [hx1]; exact numAt_take l 8 4 32 (by omega) (by omega))
      clear hx1
      have hn2 := numAt_lt l 12 4
      obtain ⟨x2, hx2⟩ : ∃ x2, x2 = numAt l 12 4 := ⟨_, rfl⟩
      rw [← hx2] at hn2
      have HX2 := hid hx2
      have HY2 := hid (show numAt (l.take 32) 12 4 = x2 by rw [hx2]; exact numAt_take l 12 4 32 (by omega) (by omega))
      clear hx2
      have hn3 := numAt_lt l 16 4
      obtain ⟨x3, hx3⟩ : ∃ x3, x3 = numAt l 16 4 := ⟨_, rfl⟩
      rw [← hx3] at hn3
      have HX3 := hid hx3
      have HY3 := hid (show numAt (l.take 32) 16 4 = x3 by rw [hx3]; exact numAt_take l 16 4 32 (by omega) (by omega))
      clear hx3
      have hn4 := numAt_lt l 20 4
      obtain ⟨x4, hx4⟩ : ∃ x4, x4 = numAt l 20 4 := ⟨_, rfl⟩
      rw [← hx4] at hn4
      have HX4 := hid hx4
      have HY4 := hid (show numAt (l.take 32) 20 4 = x4 by rw [hx4]; exact numAt_take l 20 4 32 (by omega) (by omega))
      clear hx4
      have hn5 := numAt_lt l 24 4
      obtain ⟨x5, hx5⟩ : ∃ x5, x5 = numAt l 24 4 := ⟨_, rfl⟩
      rw [← hx5] at hn5
      have HX5 := hid hx5
      have HY5 := hid (show numAt (l.take 32) 24 4 = x5 by rw [hx5]; exact numAt_take l 24 4 32 (by omega) (by omega))
      clear hx5
      have hn6 := numAt_lt l 28 2
      obtain ⟨x6, hx6⟩ : ∃ x6, x6 = numAt l 28 2 := ⟨_, rfl⟩
      rw [← hx6] at hn6
      have HX6 := hid hx6
      have HY6 := hid (show numAt (l.take 32) 28 2 = x6 by rw [hx6]; exact numAt_take l 28 2 32 (by omega) (by omega))
      clear hx6
      have hn7 := numAt_lt l 30 2
      obtain ⟨x7, hx7⟩ : ∃ x7, x7 = numAt l 30 2 := ⟨_, rfl⟩
      rw [← hx7] at hn7
      have HX7 := hid hx7
      have HY7 := hid (show numAt (l.take 32) 30 2 = x7 by rw [hx7]; exact numAt_take l 30 2 32 (by omega) (by omega))
      clear hx7
      clear hl64
      have HOF := hid (show cookOf l = ⟨bornI x0, x1, x2, x3, x4, x5, x6, x7⟩ by rw [cookOf, ← HX0.out, ← HX1.out, ← HX2.out, ← HX3.out, ← HX4.out, ← HX5.out, ← HX6.out, ← HX7.out])
      have hw64 : wrap64 (x0 : Int) = bornI x0 := by
        unfold wrap64 bornI
        split <;> omega
      obtain ⟨w7, hw7⟩ : ∃ w7, w7 = w6.alloc (.cells #[.int .i64 0] 3 (0, 0)) := ⟨_, rfl⟩
      have g7 : Below w6.heap.size w6 w7 := by rw [hw7]; exact (Below.refl _ _).alloc (Nat.le_refl _) _
      have HP7 := hid (show RowV w7 w6.heap.size 3 [.int .i64 ((0 : Nat) : Int)] by rw [hw7]; exact RowV.new w6 3 [.int .i64 0])
      have HA7 := hid (HA6.out.mono g7)
      have HS7 := hid (HS6.out.mono g7)
      have G7 := hid (gr_trans G6.out g7)
      have HE7 := hid hw7
      have hA6 : w.heap.size < w6.heap.size := HA6.out.lt
      have hS6 : w.heap.size + 1 < w6.heap.size := HS6.out.lt
      clear hw7 g7
      go_wp2_with fail
      rw [← HE7.out]
      refine (next_any _ _ _ (l.take 32) 0 8 _ rfl (by omega) _ (HS7.out.at 0 (by simp)) (HTK.out.mono G7.out) HP7.out (by rw [HTL.out]; omega) (by rw [HTL.out]; omega)).mono ?_
      rw [HY0.out]
      rintro e w8 ⟨rfl, hp8, hg8⟩
      have HP8 := hid hp8
      have HA8 := hid (HA7.out.grown hg8 (fun e => by simp at e; omega))
      have HS8 := hid (HS7.out.grown hg8 (fun e => by simp at e; omega))
      have G8 := hid (show Below w.heap.size w w8 from G7.out.trans (gb_below hg8 (Nat.le_of_lt hA6) G7.out.size))
      have hP8 : w6.heap.size < w8.heap.size := hp8.lt
      clear hp8 hg8
      obtain ⟨w9, hw9⟩ : ∃ w9, w9 = w8.alloc (.cells #[.int .i64 (bornI x0), .int .u32 0, .int .u32 0, .int .u32 0, .int .u32 0, .int .u32 0, .int .u16 0, .int .u16 0] 109 (0, 0)) := ⟨_, rfl⟩
      obtain ⟨wA, hwA⟩ : ∃ wA, wA = w9.alloc (.cells #[.pointer (some ⟨w8.heap.size, 1, none⟩), .pointer (some ⟨w8.heap.size, 2, none⟩), .pointer (some ⟨w8.heap.size, 3, none⟩), .pointer (some ⟨w8.heap.size, 4, none⟩), .pointer (some ⟨w8.heap.size, 5, none⟩)] 130 (0, 0)) := ⟨_, rfl⟩
      have s9 : w9.heap.size = w8.heap.size + 1 := by rw [hw9]; simp
      have g9 : Below w8.heap.size w8 w9 := by rw [hw9]; exact (Below.refl _ _).alloc (Nat.le_refl _) _
      have gA : Below w8.heap.size w8 wA := by rw [hwA]; exact g9.alloc (by omega) _
      have HCA := hid (show RowV wA w8.heap.size 109 (cookRow (bornI x0) [x1, x2, x3, x4, x5] 0) by rw [hwA, hw9]; exact (RowV.new w8 109 _).alloc _)
      have HTA := hid (show RowV wA (w8.heap.size + 1) 130 [.pointer (some ⟨w8.heap.size, 1, none⟩), .pointer (some ⟨w8.heap.size, 2, none⟩), .pointer (some ⟨w8.heap.size, 3, none⟩), .pointer (some ⟨w8.heap.size, 4, none⟩), .pointer (some ⟨w8.heap.size, 5, none⟩)] by rw [hwA, ← s9]; exact RowV.new w9 130 _)
      have HPA := hid (HP8.out.mono gA)
      have HAA := hid (HA8.out.mono gA)
      have HSA := hid (HS8.out.mono gA)
      have GA := hid (gr_trans G8.out gA)
      have HEA := hid (show wA = (w8.alloc (.cells #[.int .i64 (bornI x0), .int .u32 0, .int .u32 0, .int .u32 0, .int .u32 0, .int .u32 0, .int .u16 0, .int .u16 0] 109 (0, 0))).alloc (.cells #[.pointer (some ⟨w8.heap.size, 1, none⟩), .pointer (some ⟨w8.heap.size, 2, none⟩), .pointer (some ⟨w8.heap.size, 3, none⟩), .pointer (some ⟨w8.heap.size, 4, none⟩), .pointer (some ⟨w8.heap.size, 5, none⟩)] 130 (0, 0)) by rw [hwA, hw9])
      have hsA : wA.heap.size = w8.heap.size + 2 := by rw [hwA]; simp [s9]
      have hw8 := G8.out.size
      clear hw9 hwA s9 g9 gA
      obtain ⟨gC, hgC⟩ : ∃ gC, gC = w8.heap.size := ⟨_, rfl⟩
      obtain ⟨gP, hgP⟩ : ∃ gP, gP = w6.heap.size := ⟨_, rfl⟩
      have HTS := hid (show Hid (∀ j (hj : j < 5), [x1, x2, x3, x4, x5][j]'hj < 4294967296) from fun j hj => by
        match j, hj with
        | 0, _ => exact hn1
        | 1, _ => exact hn2
        | 2, _ => exact hn3
        | 3, _ => exact hn4
        | 4, _ => exact hn5)
      have HNX := hid (show ∀ j (hj : j < 5), numAt (l.take 32) (8 + 4 * j) 4 = [x1, x2, x3, x4, x5][j]'hj from fun j hj => by
        match j, hj with
        | 0, _ => exact HY1.out
        | 1, _ => exact HY2.out
        | 2, _ => exact HY3.out
        | 3, _ => exact HY4.out
        | 4, _ => exact HY5.out)
      go_wp2_with fail
      rw [hw64, ← HEA.out]
      go_loopw [13, 42] (fun o y wr => ∃ (j : Nat), j ≤ 5 ∧ y = .int .i64 (j : Int) ∧ o = o ∧ Hid (RowV wr w8.heap.size 109 (cookRow (bornI x0) [x1, x2, x3, x4, x5] j)) ∧ Hid (RowV wr w6.heap.size 3 [.int .i64 ((8 + 4 * j : Nat) : Int)]) ∧ Hid (Chg (fun k => k = w8.heap.size ∨ k = w6.heap.size) wA wr)) (fun _ y _ => 5 - (intOf y).toNat)
      case atStart => exact ⟨0, Nat.zero_le _, rfl, rfl, HCA, HPA, hid (Chg.refl _ _)⟩
      case round =>
        obtain ⟨j, hj, rfl, -, HC, HP, HG⟩ := hrel
        have GB := hid (GA.out.trans (HG.out.below (B := w.heap.size) GA.out.size (fun k hk => by omega)))
        have HSB := hid (HSA.out.chg HG.out (by omega))
        have HAB := hid (HAA.out.chg HG.out (by omega))
        by_cases hlt : j < 5
        · have hps : ([.pointer (some ⟨w8.heap.size, 1, none⟩), .pointer (some ⟨w8.heap.size, 2, none⟩), .pointer (some ⟨w8.heap.size, 3, none⟩), .pointer (some ⟨w8.heap.size, 4, none⟩), .pointer (some ⟨w8.heap.size, 5, none⟩)] : List Value)[j]'(by simpa using hlt) = .pointer (some ⟨w8.heap.size, j + 1, none⟩) := by
            match j, hlt with
            | 0, _ => rfl
            | 1, _ => rfl
            | 2, _ => rfl
            | 3, _ => rfl
            | 4, _ => rfl
          have ct := (HTA.out.chg HG.out (by omega)).at j (by simpa using hlt)
          rw [hps] at ct
          have HXJ := hid (HNX.out j hlt)
          have hxb := HTS.out.out j hlt
          have HST := hid (cookRow_set (bornI x0) x1 x2 x3 x4 x5 j hlt)
          generalize [x1, x2, x3, x4, x5][j]'hlt = xj at *
          clear hps
          go_wp2_with fail
          refine (next_any _ _ _ (l.take 32) (8 + 4 * j) 4 _ rfl (by omega) _ (HSB.out.at 0 (by simp)) (HTK.out.mono GB.out) HP.out (by rw [HTL.out]; omega) (by rw [HTL.out]; omega)).mono ?_
          rw [HXJ.out]
          rintro e wC ⟨rfl, hpC, hgC⟩
          have HPC := hid hpC
          have HCC := hid (HC.out.grown hgC (fun e => by simp at e; omega))
          have HGC := hid (HG.out.then (Chg.of_grown hgC) (fun i hi h => .inr (by simpa using h.symm)))
          have cc := HCC.out.at (j + 1) (by simp [cookRow]; omega)
          have ff := HCC.out.frozen (j + 1)
          clear hpC hgC ct
          go_wp2_with fail
          go_roundw
          case rel => exact ⟨j + 1, by omega, by go_num, trivial, hid (by rw [← HST.out]; exact HCC.out.store (j + 1) _), hid (HPC.out.other _ _ (by simp; omega)), hid (HGC.out.set _ _ (.inl (.inl rfl)))⟩
          case measure => simp [intOf]; omega
        · obtain rfl : j = 5 := by omega
          clear hlt
          have HCE := hid (show RowV wr w8.heap.size 109 [.int .i64 (bornI x0), .int .u32 (x1 : Int), .int .u32 (x2 : Int), .int .u32 (x3 : Int), .int .u32 (x4 : Int), .int .u32 (x5 : Int), .int .u16 0, .int .u16 0] from HC.out)
          go_wp2_with fail
          refine (next_any _ _ _ (l.take 32) 28 2 _ rfl (by omega) _ (HSB.out.at 0 (by simp)) (HTK.out.mono GB.out) HP.out (by rw [HTL.out]; omega) (by rw [HTL.out]; omega)).mono ?_
          rw [HY6.out]
          rintro e wD ⟨rfl, hpD, hgD⟩
          have HPD := hid hpD
          have HSD := hid (HSB.out.grown hgD (fun e => by simp at e; omega))
          have HAD := hid (HAB.out.grown hgD (fun e => by simp at e; omega))
          have HCD := hid (HCE.out.grown hgD (fun e => by simp at e; omega))
          have GD := hid (show Below w.heap.size w wD from GB.out.trans (gb_below hgD (Nat.le_of_lt hA6) GB.out.size))
          clear hpD hgD
          go_wp2_with fail
          refine (next_any _ _ _ (l.take 32) 30 2 _ rfl (by omega) _ (HSD.out.at 0 (by simp)) (HTK.out.mono GD.out) HPD.out (by rw [HTL.out]; omega) (by rw [HTL.out]; omega)).mono ?_
          rw [HY7.out]
          rintro e wE ⟨rfl, hpE, hgE⟩
          have HAE := hid (HAD.out.grown hgE (fun e => by simp at e; omega))
          have HCE2 := hid (HCD.out.grown hgE (fun e => by simp at e; omega))
          have GE := hid (show Below w.heap.size w wE from GD.out.trans (gb_below hgE (Nat.le_of_lt hA6) GD.out.size))
          clear hpE hgE
          obtain ⟨k0, k1, k2, k3, k4, k5, k6, k7⟩ := HCE2.out.eight
          have f6 := HCE2.out.frozen 6
          have f7 := HCE2.out.frozen 7
          obtain ⟨wF, hwF⟩ : ∃ wF, wF = (wE.setCell ⟨w8.heap.size, 6, none⟩ (.int .u16 (x6 : Int))).setCell ⟨w8.heap.size, 7, none⟩ (.int .u16 (x7 : Int)) := ⟨_, rfl⟩
          have HCF := hid (show RowV wF w8.heap.size 109 [.int .i64 (bornI x0), .int .u32 (x1 : Int), .int .u32 (x2 : Int), .int .u32 (x3 : Int), .int .u32 (x4 : Int), .int .u32 (x5 : Int), .int .u16 (x6 : Int), .int .u16 (x7 : Int)] by rw [hwF]; exact (HCE2.out.store 6 _).store 7 _)
          have HAF := hid (show RowV wF w.heap.size 109 [.int .i64 0, .int .u32 0, .int .u32 0, .int .u32 0, .int .u32 0, .int .u32 0, .int .u16 0, .int .u16 0] by rw [hwF]; exact (HAE.out.other _ _ (by simp; omega)).other _ _ (by simp; omega))
          have GF := hid (show Below w.heap.size w wF by rw [hwF]; exact (GE.out.setCell (by simp; omega) _).setCell (by simp; omega) _)
          have HEF := hid hwF
          clear hwF
          go_wp2_with fail
          rw [← HEF.out]
          refine (may_walk ⟨bornI x0, x1, x2, x3, x4, x5, x6, x7⟩ _).mono ?_
          rintro e we ⟨rfl, hbe⟩
          have HAe := hid (HAF.out.mono hbe)
          have HCe := hid (HCF.out.mono hbe)
          have Ge := hid (gr_trans GF.out hbe)
          clear hbe k0 k1 k2 k3 k4 k5 k6 k7 f6 f7
          obtain ⟨i0, i1, i2, i3, i4, i5, i6, i7⟩ := HCe.out.eight
          obtain ⟨j0, j1, j2, j3, j4, j5, j6, j7⟩ := HAe.out.eight
          have y0 := HAe.out.frozen 0
          have y1 := HAe.out.frozen 1
          have y2 := HAe.out.frozen 2
          have y3 := HAe.out.frozen 3
          have y4 := HAe.out.frozen 4
          have y5 := HAe.out.frozen 5
          have y6 := HAe.out.frozen 6
          have y7 := HAe.out.frozen 7
          by_cases hmay : (⟨bornI x0, x1, x2, x3, x4, x5, x6, x7⟩ : CookD).may
          · have HT := hid (show cookTells key l = (0, ⟨bornI x0, x1, x2, x3, x4, x5, x6, x7⟩) by rw [cookTells, if_neg (by rw [H64.out]; simp), ← HMD.out, if_neg (by simpa using hq), HOF.out, if_pos hmay])
            rw [decide_eq_true hmay]
            clear hmay
            go_wp2_with fail
            refine cookRd_ret (.int .i64 (bornI x0)) (.int .u32 (x1 : Int)) (.int .u32 (x2 : Int)) (.int .u32 (x3 : Int)) (.int .u32 (x4 : Int)) (.int .u32 (x5 : Int)) (.int .u16 (x6 : Int)) (.int .u16 (x7 : Int)) 0 rfl rfl rfl (HAe.out.put8 (.int .i64 (bornI x0)) (.int .u32 (x1 : Int)) (.int .u32 (x2 : Int)) (.int .u32 (x3 : Int)) (.int .u32 (x4 : Int)) (.int .u32 (x5 : Int)) (.int .u16 (x6 : Int)) (.int .u16 (x7 : Int))) ⟨by rw [HT.out]; rfl, below_put8 Ge.out (Nat.le_refl _) _ _ _ _ _ _ _ _⟩
          · have HT := hid (show cookTells key l = (7, .zero) by rw [cookTells, if_neg (by rw [H64.out]; simp), ← HMD.out, if_neg (by simpa using hq), HOF.out, if_neg hmay])
            rw [decide_eq_false hmay]
            clear hmay
            go_wp2_with fail
            refine cookRd_ret (.int .i64 0) (.int .u32 0) (.int .u32 0) (.int .u32 0) (.int .u32 0) (.int .u32 0) (.int .u16 0) (.int .u16 0) 7 rfl rfl rfl (HAe.out.put8 (.int .i64 0) (.int .u32 0) (.int .u32 0) (.int .u32 0) (.int .u32 0) (.int .u32 0) (.int .u16 0) (.int .u16 0)) ⟨by rw [HT.out]; rfl, below_put8 Ge.out (Nat.le_refl _) _ _ _ _ _ _ _ _⟩
    · have HT := hid (show cookTells key l = (10, .zero) by rw [cookTells, if_neg (by rw [H64.out]; simp), ← HMD.out, if_pos hq])
      rw [decide_eq_false hq]
      obtain ⟨j0, j1, j2, j3, j4, j5, j6, j7⟩ := HA6.out.eight
      have y0 := HA6.out.frozen 0
      have y1 := HA6.out.frozen 1
      have y2 := HA6.out.frozen 2
      have y3 := HA6.out.frozen 3
      have y4 := HA6.out.frozen 4
      have y5 := HA6.out.frozen 5
      have y6 := HA6.out.frozen 6
      have y7 := HA6.out.frozen 7
      go_wp2_with fail
      refine cookRd_ret (.int .i64 0) (.int .u32 0) (.int .u32 0) (.int .u32 0) (.int .u32 0) (.int .u32 0) (.int .u16 0) (.int .u16 0) 10 rfl rfl rfl (HA6.out.put8 (.int .i64 0) (.int .u32 0) (.int .u32 0) (.int .u32 0) (.int .u32 0) (.int .u32 0) (.int .u16 0) (.int .u16 0)) ⟨by rw [HT.out]; rfl, below_put8 G6.out (Nat.le_refl _) _ _ _ _ _ _ _ _⟩
  · have HT := hid (show cookTells key l = (7, .zero) by rw [cookTells, if_pos h64])
    have hne : ((l.length : Int) != 64) = true := by simp; omega
    clear hcelq
    go_enter Tryd.func67, Tryd.ntmps67
    go_wp2_with fail
    rw [← HE.out]
    refine cookRd_ret (.int .i64 0) (.int .u32 0) (.int .u32 0) (.int .u32 0) (.int .u32 0) (.int .u32 0) (.int .u16 0) (.int .u16 0) 7 rfl rfl rfl HA.out ⟨by rw [HT.out]; rfl, HW.out⟩
end Go.Proofs.YtiimlanbbfhkjaaDoor



namespace Go.FL

open Go.RowKit

/-- A tag and a number out of a text's sum. -/
def deriveOf (key text : List UInt8) : Nat × Nat := (if numAt (macSum key text) 0 4 = 0 then 1 else numAt (macSum key text) 0 4, numAt (macSum key text) 4 4)
def Derives (w : World) (key text : List UInt8) (e : Ending) (w' : World) : Prop :=
  e = .returned (.tuple #[.int .u32 ((deriveOf key text).1 : Int), .int .u32 ((deriveOf key text).2 : Int)]) ∧ Below w.heap.size w w'
end Go.FL

namespace Go.Proofs.YtiimlanbbfhkjaaDoor

open Go.RowKit Go.FL

set_option maxRecDepth 20000 in
set_option maxHeartbeats 1000000 in
theorem cookDerive_any (v u : Value) (key text : List UInt8) (w : World) (hv : Rd w v key) (hu : Rd w u text) (hlaid : ShaLaid w) (hk : key.length ≤ 1047000) (ht : text.length ≤ 1047000) :
    Calls Tryd.prog 65 #[v, u] w (Derives w key text) := by
  have HV := hid hv
  have HU := hid hu
  have HK := hid hk
  have HT := hid ht
  obtain ⟨p, cp, rfl, hlc, hcm, hpn, hcell⟩ := hv
  obtain ⟨q, cq, rfl, hlq, hcq, hqn, hcelq⟩ := hu
  unfold maxLen at hcm hcq
  clear hcell hcelq hk ht
  obtain ⟨md, hmd⟩ : ∃ md, md = macSum key text := ⟨_, rfl⟩
  have HDL := hid (show (bytesV md).length = 32 by rw [bytesV_length, hmd, macSum_length])
  have HML := hid (show md.length = 32 by rw [hmd, macSum_length])
  have HMD := hid hmd
  have hzo := zeroOut
  have hn0 := numAt_lt md 0 4
  have hn4 := numAt_lt md 4 4
  obtain ⟨x0, hx0⟩ : ∃ x0, x0 = numAt md 0 4 := ⟨_, rfl⟩
  obtain ⟨x4, hx4⟩ : ∃ x4, x4 = numAt md 4 4 := ⟨_, rfl⟩
  rw [← hx0] at hn0
  rw [← hx4] at hn4
  have HX0 := hid hx0
  have HX4 := hid hx4
  clear hmd hx0 hx4
  go_enter Tryd.func65, Tryd.ntmps65
  go_wp2_with fail
  refine (macOf_any _ _ key text _ HV.out HU.out hlaid (by have := HK.out; omega) (by have := HT.out; omega)).mono ?_
  rw [← HMD.out]
  rintro e w4 ⟨rfl, hb4⟩
  have G4 := hid hb4
  clear hb4
  go_wp2_with (refine wpList_store_rowV rfl 124 (.tmp 6) (.tmp 13) rfl w4.heap.size (bytesV md) zeros32 124 rfl rfl (RowV.new w4 124 zeros32) ?hi ?ho (bytesV_oneCell md) ?_)
  case hi => rw [HDL.out]; kernel_rfl
  case ho => rw [HDL.out, zeros32_length]
  intro w5 hr5 hg5
  have HRD5 := hid (show Rd w5 (.slice (some ⟨w4.heap.size, 0, none⟩) 32 32) md by
    have := hr5.out.to_row.rd 32 32 (by rw [HML.out]; exact Nat.le_refl _) (Nat.le_refl _) (by unfold maxLen; omega)
    rwa [List.take_of_length_le (by rw [HML.out]; exact Nat.le_refl _)] at this)
  have hgr : Below w4.heap.size w4 w5 := ((Below.refl _ _).alloc (Nat.le_refl _) _).trans (gb_below (B := w4.heap.size) hg5.out (Nat.le_refl _) (by simp))
  have G5 := hid (gr_trans G4.out hgr)
  clear hr5 hg5 hgr hzo
  go_wp2_with fail
  refine (get_within _ md 0 4 _ _ rfl rfl (by omega) _ HRD5.out (by rw [HML.out]; omega)).mono ?_
  rw [← HX0.out]
  rintro e w6 ⟨rfl, rfl⟩
  go_wp2_with fail
  refine (get_within _ md 4 4 _ _ rfl rfl (by omega) _ HRD5.out (by rw [HML.out]; omega)).mono ?_
  rw [← HX4.out]
  rintro e w7 ⟨rfl, rfl⟩
  have HD := hid (show deriveOf key text = (if x0 = 0 then 1 else x0, x4) by rw [deriveOf, ← HMD.out, ← HX0.out, ← HX4.out])
  by_cases hz : x0 = 0
  · subst hz
    go_wp2_with fail
    go_ret2
    exact ⟨by rw [HD.out]; rfl, G5.out⟩
  · have hmax : ¬ ((x0 : Int) < 1) := by omega
    rw [if_neg hz] at HD
    go_wp2_with fail
    go_ret2
    exact ⟨by rw [HD.out]; rfl, G5.out⟩

end Go.Proofs.YtiimlanbbfhkjaaDoor

/- The document's PutData and GetData. Conditions: what comes in reads as it should. -/
import Derived.Test.YtfiblhdejglpaaaBodRefGets
import Derived.Test.YtfiblhdejglpaaaBodRefPuts
import Derived.Test.YtfiblhdejglpaaaBodGetD
import Derived.Test.YtfiblhdejglpaaaBodRoom
import Derived.Deep.CutRange
namespace Go.FL
open Go.RowKit
/-- Data by value over a row of one's own. -/
def DtF (B e : Nat) (d : DataD) : Value → World → Prop := fun v w => ∃ s, v = d.vals s ∧ Own w B e s d.b
theorem DtF.gr (B e : Nat) (d : DataD) : Stab GrR (DtF B e d) := fun _ _ _ ⟨s, h1, h2⟩ g => ⟨s, h1, h2.mono g⟩
end Go.FL
namespace Go.Proofs.Ytfiblhdejglpaaa
open Go.RowKit Go.FL Go.ChangeShapes

set_option maxRecDepth 100000 in
set_option maxHeartbeats 8000000 in
theorem rputData_any (v : Value) (d : DataD) (hw : d.wf) (w : World) (h : DataAt w v d) (hl : d.b.length ≤ 1000000) :
    Calls Try.prog 19 #[v] w (RetChk w 5 d.chk) := by
  obtain ⟨s, rfl, hrd⟩ := h
  have HV := hid hrd
  obtain ⟨p, c, rfl, hlc, hcm, hpn, hcell⟩ := hrd
  unfold maxLen at hcm
  clear hcell
  show Calls _ _ _ _ (RetChk w 5 ⟨0, dataFlags d.un d.fi d.la, d.body⟩)
  have HBD := hid (show d.body = (((([] ++ beBytes 4 d.tsn) ++ beBytes 2 d.st) ++ beBytes 2 d.ssn) ++ beBytes 4 0) ++ d.b by simp [DataD.body])
  obtain ⟨g1, g2, g3⟩ := hw
  rw [HBD.out]
  obtain ⟨tsn, st, ssn, un, fi, la, b⟩ := d
  simp only at *
  clear HBD
  have wr1 := wrap64_nat tsn (by omega)
  have wr2 := wrap64_nat st (by omega)
  have wr3 := wrap64_nat ssn (by omega)
  obtain ⟨n, hn⟩ : ∃ n, n = b.length := ⟨_, rfl⟩
  have HN := hid hn
  rw [← hn] at HV hl hlc ⊢
  obtain ⟨bl, hbl⟩ : ∃ x, x = (((([] ++ beBytes 4 tsn) ++ beBytes 2 st) ++ beBytes 2 ssn) ++ beBytes 4 0) ++ b := ⟨_, rfl⟩
  rw [← hbl]
  have HBL := hid hbl
  clear hn hbl
  obtain ⟨F, hF⟩ : ∃ F : Nat, F = (dataFlags un fi la).toNat := ⟨_, rfl⟩
  have HF := hid hF
  obtain ⟨FZ, hFZ⟩ : ∃ F : Nat, F = 0 := ⟨_, rfl⟩
  obtain ⟨FA, hFA⟩ : ∃ F : Nat, F = (bitIf 4 un).toNat := ⟨_, rfl⟩
  obtain ⟨FB, hFB⟩ : ∃ F : Nat, F = (bitIf 4 un ||| bitIf 2 fi).toNat := ⟨_, rfl⟩
  have FAL := hid (show FZ + 4 < 256 ∧ FA < 256 by rw [hFZ, hFA]; exact ⟨by omega, UInt8.toNat_lt _⟩)
  have FBL := hid (show FA + 2 < 256 ∧ FB < 256 by rw [hFA, hFB]; exact ⟨by cases un <;> decide, UInt8.toNat_lt _⟩)
  have FL := hid (show FB + 1 < 256 ∧ F < 256 by rw [hFB, hF]; exact ⟨by cases un <;> cases fi <;> decide, UInt8.toNat_lt _⟩)
  have FAF := hid (show (if un = true then FZ + 4 else FZ) = FA by rw [hFA, hFZ]; cases un <;> rfl)
  have FBF := hid (show (if fi = true then FA + 2 else FA) = FB by rw [hFA, hFB]; cases un <;> cases fi <;> rfl)
  have FF := hid (show (if la = true then FB + 1 else FB) = F by rw [hF, hFB]; cases un <;> cases fi <;> cases la <;> rfl)
  obtain ⟨W0, hW0⟩ : ∃ W0, W0 = w.alloc (.cells #[.int .u32 (tsn : Int), .int .u16 (st : Int), .int .u16 (ssn : Int), .bool un, .bool fi, .bool la, .slice p n c] 26 (0, 0)) := ⟨_, rfl⟩
  have hs0 : W0.heap.size = w.heap.size + 1 := by rw [hW0]; simp
  obtain ⟨W1, hW1⟩ : ∃ W, W = W0.alloc (.cells #[.int .u8 0, .int .u8 0, .slice none 0 0] 28 (0, 0)) := ⟨_, rfl⟩
  have hs1 : W1.heap.size = w.heap.size + 2 := by rw [hW1]; simp [hs0]
  obtain ⟨W, hW⟩ : ∃ W, W = W1.alloc (.cells #[.int .u8 0, .int .u8 0, .slice none 0 0] 28 (0, 0)) := ⟨_, rfl⟩
  have HR0 := hid (show RowV W w.heap.size 26 [.int .u32 (tsn : Int), .int .u16 (st : Int), .int .u16 (ssn : Int), .bool un, .bool fi, .bool la, .slice p n c] by rw [hW, hW1, hW0]; exact ((RowV.new w 26 _).alloc _).alloc _)
  have HQ0 := hid (show RowV W (w.heap.size + 1) 28 [.int .u8 0, .int .u8 0, .slice none 0 0] by rw [hW, hW1, ← hs0]; exact (RowV.new W0 28 _).alloc _)
  have HC0 := hid (show RowV W (w.heap.size + 2) 28 [.int .u8 0, .int .u8 0, .slice none 0 0] by rw [hW, ← hs1]; exact RowV.new W1 28 _)
  have G0 := hid (show Below w.heap.size w W by rw [hW, hW1, hW0]; exact (((Below.refl _ _).alloc (Nat.le_refl _) _).alloc (by simp) _).alloc (by simp; omega) _)
  rw [hW1, hW0] at hW
  have HE := hid hW
  clear hW hW0 hs0 hs1 hW1 hF hFA hFB
  go_enter Try.func19, Try.ntmps19
  have HAC : Hid (RowV W (w.heap.size + 2) 28 [.int .u8 0, .int .u8 (FZ : Int), .slice none 0 0]) := by rw [hFZ]; exact HC0
  have HAR := HR0
  have HAQ := HQ0
  have HAG := G0
  clear hFZ HC0 HR0 HQ0 G0
  go_upto_if 7 with fail
  rw [← HE.out]
  go_cut [6] from 6 to 11 (fun s6 wx => s6 = .pointer (some ⟨w.heap.size, 3, none⟩) ∧ Hid (RowV wx (w.heap.size + 2) 28 [.int .u8 0, .int .u8 (FA : Int), .slice none 0 0]) ∧ Hid (RowV wx w.heap.size 26 [.int .u32 (tsn : Int), .int .u16 (st : Int), .int .u16 (ssn : Int), .bool un, .bool fi, .bool la, .slice p n c]) ∧ Hid (RowV wx (w.heap.size + 1) 28 [.int .u8 0, .int .u8 0, .slice none 0 0]) ∧ Hid (Below w.heap.size w wx))
  case first =>
    obtain ⟨c0, c1, c2⟩ := HAC.out.three
    have f1 := HAC.out.frozen 1
    cases un
    · have hF : FZ = FA := FAF.out
      go_wp2_with fail
      go_meet
      exact ⟨rfl, hF ▸ HAC, HAR, HAQ, HAG⟩
    · have hF : FZ + 4 = FA := FAF.out
      have hwr : IntKind.u8.wrap ((FZ : Int) + 4) = (FA : Int) := by rw [IntKind.wrap_u8]; have := FAL.out; omega
      clear hF
      go_wp2_with fail
      go_meet
      exact ⟨rfl, hid (HAC.out.store 1 (.int .u8 (FA : Int))), hid (HAR.out.grown (r := some (w.heap.size + 2)) (gb_set (gb_refl _ _) 1 _) (fun e => by simp at e)), hid (HAQ.out.grown (r := some (w.heap.size + 2)) (gb_set (gb_refl _ _) 1 _) (fun e => by simp at e)), hid (HAG.out.setCell (by simp; try omega) _)⟩
  case rest =>
    obtain ⟨rfl, HBC, HBR, HBQ, HBG⟩ := hcut
    clear HAC HAR HAQ HAG HE
    have k4 := HBR.out.at 4 (by simp)
    simp only [List.getElem_cons_succ, List.getElem_cons_zero] at k4
    go_upto_if 13 with fail
    clear k4
    go_cut [12] from 12 to 17 (fun s12 wx => s12 = .pointer (some ⟨w.heap.size, 4, none⟩) ∧ Hid (RowV wx (w.heap.size + 2) 28 [.int .u8 0, .int .u8 (FB : Int), .slice none 0 0]) ∧ Hid (RowV wx w.heap.size 26 [.int .u32 (tsn : Int), .int .u16 (st : Int), .int .u16 (ssn : Int), .bool un, .bool fi, .bool la, .slice p n c]) ∧ Hid (RowV wx (w.heap.size + 1) 28 [.int .u8 0, .int .u8 0, .slice none 0 0]) ∧ Hid (Below w.heap.size w wx))
    case first =>
      obtain ⟨c0, c1, c2⟩ := HBC.out.three
      have f1 := HBC.out.frozen 1
      cases fi
      · have hF : FA = FB := FBF.out
        go_wp2_with fail
        go_meet
        exact ⟨rfl, hF ▸ HBC, HBR, HBQ, HBG⟩
      · have hF : FA + 2 = FB := FBF.out
        have hwr : IntKind.u8.wrap ((FA : Int) + 2) = (FB : Int) := by rw [IntKind.wrap_u8]; have := FBL.out; omega
        clear hF
        go_wp2_with fail
        go_meet
        exact ⟨rfl, hid (HBC.out.store 1 (.int .u8 (FB : Int))), hid (HBR.out.grown (r := some (w.heap.size + 2)) (gb_set (gb_refl _ _) 1 _) (fun e => by simp at e)), hid (HBQ.out.grown (r := some (w.heap.size + 2)) (gb_set (gb_refl _ _) 1 _) (fun e => by simp at e)), hid (HBG.out.setCell (by simp; try omega) _)⟩
    case rest =>
    obtain ⟨rfl, HCC, HCR, HCQ, HCG⟩ := hcut
    clear HBC HBR HBQ HBG
    have k5 := HCR.out.at 5 (by simp)
    simp only [List.getElem_cons_succ, List.getElem_cons_zero] at k5
    go_upto_if 19 with fail
    clear k5
    go_cut [18] from 18 to 23 (fun s18 wx => s18 = .pointer (some ⟨w.heap.size, 5, none⟩) ∧ Hid (RowV wx (w.heap.size + 2) 28 [.int .u8 0, .int .u8 (F : Int), .slice none 0 0]) ∧ Hid (RowV wx w.heap.size 26 [.int .u32 (tsn : Int), .int .u16 (st : Int), .int .u16 (ssn : Int), .bool un, .bool fi, .bool la, .slice p n c]) ∧ Hid (RowV wx (w.heap.size + 1) 28 [.int .u8 0, .int .u8 0, .slice none 0 0]) ∧ Hid (Below w.heap.size w wx))
    case first =>
      obtain ⟨c0, c1, c2⟩ := HCC.out.three
      have f1 := HCC.out.frozen 1
      cases la
      · have hF : FB = F := FF.out
        go_wp2_with fail
        go_meet
        exact ⟨rfl, hF ▸ HCC, HCR, HCQ, HCG⟩
      · have hF : FB + 1 = F := FF.out
        have hwr : IntKind.u8.wrap ((FB : Int) + 1) = (F : Int) := by rw [IntKind.wrap_u8]; have := FL.out; omega
        clear hF
        go_wp2_with fail
        go_meet
        exact ⟨rfl, hid (HCC.out.store 1 (.int .u8 (F : Int))), hid (HCR.out.grown (r := some (w.heap.size + 2)) (gb_set (gb_refl _ _) 1 _) (fun e => by simp at e)), hid (HCQ.out.grown (r := some (w.heap.size + 2)) (gb_set (gb_refl _ _) 1 _) (fun e => by simp at e)), hid (HCG.out.setCell (by simp; try omega) _)⟩
    case rest =>
    obtain ⟨rfl, HC0, HR0, HQ0, G0⟩ := hcut
    clear HCC HCR HCQ HCG
    have k0 := HR0.out.at 0 (by simp)
    simp only [List.getElem_cons_succ, List.getElem_cons_zero] at k0
    go_wp2_with fail
    refine (refPut_at _ [] tsn 4 _ _ rfl rfl (by omega) _ (Rd.nil _) (by simp) (by omega)).mono ?_
    rintro e w1 ⟨v1, rfl, ho1, hb1⟩
    obtain ⟨b1, hB1⟩ : ∃ l, l = [] ++ beBytes 4 (tsn) := ⟨_, rfl⟩
    have HB1 := hid hB1
    have HL1 := hid (show b1.length = 4 by rw [hB1, List.length_append, beBytes_length]; rfl)
    rw [← hB1] at ho1
    obtain ⟨p1, c1, rfl, -, -, -, -⟩ := ho1.rd
    have HO1 := hid ho1
    have HR1 := hid (HR0.out.mono hb1)
    have HQ1 := hid (HQ0.out.mono hb1)
    have HC1 := hid (HC0.out.mono hb1)
    have G1 := hid (gr_trans G0.out hb1)
    have hsz1 := hb1.size
    rw [HL1.out] at HO1 ⊢
    clear ho1 hb1 hB1
    have k1 := HR1.out.at 1 (by simp)
    simp only [List.getElem_cons_succ, List.getElem_cons_zero] at k1
    go_wp2_with fail
    refine (refPut_at _ b1 st 2 _ _ rfl rfl (by omega) _ HO1.out.rd (by rw [HL1.out]; omega) (by omega)).mono ?_
    rintro e w2 ⟨v2, rfl, ho2, hb2⟩
    obtain ⟨b2, hB2⟩ : ∃ l, l = b1 ++ beBytes 2 (st) := ⟨_, rfl⟩
    have HB2 := hid hB2
    have HL2 := hid (show b2.length = 4 + 2 by rw [hB2, List.length_append, beBytes_length, HL1.out])
    rw [← hB2] at ho2
    obtain ⟨p2, c2, rfl, -, -, -, -⟩ := ho2.rd
    have HO2 := hid ho2
    have HR2 := hid (HR1.out.mono hb2)
    have HQ2 := hid (HQ1.out.mono hb2)
    have HC2 := hid (HC1.out.mono hb2)
    have G2 := hid (gr_trans G1.out hb2)
    have hsz2 := hb2.size
    rw [HL2.out] at HO2 ⊢
    clear ho2 hb2 hB2
    have k2 := HR2.out.at 2 (by simp)
    simp only [List.getElem_cons_succ, List.getElem_cons_zero] at k2
    go_wp2_with fail
    refine (refPut_at _ b2 ssn 2 _ _ rfl rfl (by omega) _ HO2.out.rd (by rw [HL2.out]; omega) (by omega)).mono ?_
    rintro e w3 ⟨v3, rfl, ho3, hb3⟩
    obtain ⟨b3, hB3⟩ : ∃ l, l = b2 ++ beBytes 2 (ssn) := ⟨_, rfl⟩
    have HB3 := hid hB3
    have HL3 := hid (show b3.length = 4 + 2 + 2 by rw [hB3, List.length_append, beBytes_length, HL2.out])
    rw [← hB3] at ho3
    obtain ⟨p3, c3, rfl, -, -, -, -⟩ := ho3.rd
    have HO3 := hid ho3
    have HR3 := hid (HR2.out.mono hb3)
    have HQ3 := hid (HQ2.out.mono hb3)
    have HC3 := hid (HC2.out.mono hb3)
    have G3 := hid (gr_trans G2.out hb3)
    have hsz3 := hb3.size
    rw [HL3.out] at HO3 ⊢
    clear ho3 hb3 hB3
    go_wp2_with fail
    refine (refPut_at _ b3 0 4 _ _ rfl rfl (by omega) _ HO3.out.rd (by rw [HL3.out]; omega) (by omega)).mono ?_
    rintro e w4 ⟨v4, rfl, ho4, hb4⟩
    obtain ⟨b4, hB4⟩ : ∃ l, l = b3 ++ beBytes 4 (0) := ⟨_, rfl⟩
    have HB4 := hid hB4
    have HL4 := hid (show b4.length = 4 + 2 + 2 + 4 by rw [hB4, List.length_append, beBytes_length, HL3.out])
    rw [← hB4] at ho4
    obtain ⟨p4, c4, rfl, -, -, -, -⟩ := ho4.rd
    have HO4 := hid ho4
    have HR4 := hid (HR3.out.mono hb4)
    have HQ4 := hid (HQ3.out.mono hb4)
    have HC4 := hid (HC3.out.mono hb4)
    have G4 := hid (gr_trans G3.out hb4)
    have hsz4 := hb4.size
    rw [HL4.out] at HO4 ⊢
    clear ho4 hb4 hB4
    have k6 := HR4.out.at 6 (by simp)
    simp only [List.getElem_cons_succ, List.getElem_cons_zero] at k6
    have fz := HC4.out.frozen 2
    have cz := HC4.out.at 2 (by simp)
    simp only [List.getElem_cons_succ, List.getElem_cons_zero] at cz
    clear fz cz
    go_wp2_with (at_builtin; refine wpList_append_Own rfl (.tmp 40) (.tmp 42) 24 rfl w3.heap.size 5 Try.underlying24 infoU8 _ _ b4 b rfl HO4.out rfl (HV.out.mono G4.out) (by rw [HL4.out, ← HN.out]; omega) hsz4 ?_)
    intro v8 w8 ho8 hg8
    have hq3 := HQ3.out.lt
    have hc3 := HC3.out.lt
    have HQ8 := hid (HQ4.out.grown hg8 (fun e => by have := HO4.out.ge _ e; omega))
    have HC8 := hid (HC4.out.grown hg8 (fun e => by have := HO4.out.ge _ e; omega))
    have G8 := hid (show Below w.heap.size w w8 from G4.out.grown hg8 G4.out.size (fun k hk => Nat.le_trans G3.out.size (HO4.out.ge k hk)))
    obtain ⟨p8, c8, rfl, -, -, -, -⟩ := ho8.rd
    obtain ⟨bb, hbb⟩ : ∃ x, x = b4 ++ b := ⟨_, rfl⟩
    have HBB := hid hbb
    have HO8 := hid ho8
    rw [← hbb] at HO8 ⊢
    obtain ⟨nb, hnb⟩ : ∃ n, n = bb.length := ⟨_, rfl⟩
    rw [← hnb] at HO8 ⊢
    have h8s := hg8.size
    clear ho8 hg8 hbb k6 hnb
    obtain ⟨q0, q1, q2⟩ := HQ8.out.three
    have f0 := HQ8.out.frozen 0
    have f1 := HQ8.out.frozen 1
    have f2 := HQ8.out.frozen 2
    obtain ⟨c0, c1, c2⟩ := HC8.out.three
    have z2 := HC8.out.frozen 2
    have g8 : w8.grownBy (w8.setCell ⟨w.heap.size + 2, 2, none⟩ (.slice p8 nb c8)) (some (w.heap.size + 2)) := gb_set (gb_refl _ _) 2 _
    have HO9 := hid (HO8.out.keep g8 (fun k hk e => by have := HO8.out.ge k hk; simp at e; omega))
    have HQ9 := hid (HQ8.out.grown g8 (fun e => by simp at e))
    have G9 := hid (show Below w.heap.size w (w8.setCell ⟨w.heap.size + 2, 2, none⟩ (.slice p8 nb c8)) from G8.out.setCell (by simp) _)
    clear g8
    go_wp2_with fail
    refine rputData_ret (.int .u8 0) (.int .u8 (F : Int)) _ rfl rfl (((HQ9.out.store 0 _).store 1 _).store 2 _) ⟨_, by rw [HF.out]; rfl, ?_, ((G9.out.setCell (by simp) _).setCell (by simp) _).setCell (by simp) _⟩
    show Own _ _ _ _ bl
    rw [HBL.out, ← HB1.out, ← HB2.out, ← HB3.out, ← HB4.out, ← HBB.out]
    exact (HO9.out.keep (r := some (w.heap.size + 1)) (gb_set (gb_set (gb_set (gb_refl _ _) 0 _) 1 _) 2 _) (fun k hk e => by have := HO9.out.ge k hk; simp at e; omega)).base (show w.heap.size ≤ w3.heap.size by omega)
end Go.Proofs.Ytfiblhdejglpaaa

/- What the statements' helper Apart answers: yes, where each row lies in a block of its own. Conditions: the rows lie so. -/
import Derived.Test.YtahpklciafpdaaaRows
import Derived.Test.YtahpklciafpdaaaBaseE
import Derived.BigQuiet
import Derived.Deep.QuietTactic
set_option linter.unusedSimpArgs false
set_option linter.unusedVariables false
namespace Go.Proofs.Ytahpklciafpdaaa
open Go.RowKit Go.FL

theorem infoStr : (Try.prog.info? 9).map (fun i => (i.zero, i.size, i.bytes)) = some (some (.string ByteArray.empty), 1, 16) := by kernel_rfl

theorem not8 (x : UInt8) : bits BinOp.xor IntKind.u8 (if IntKind.u8.signed = true then -1 else IntKind.u8.max) (x.toNat : Int) = ((~~~ x).toNat : Int) := by
  show bits .xor .u8 (((255 : UInt8).toNat : Nat) : Int) (x.toNat : Int) = _
  rw [bits_xor8]
  have : (255 : UInt8) ^^^ x = ~~~ x := by
    apply UInt8.toBitVec_inj.1
    rw [UInt8.toBitVec_xor, UInt8.toBitVec_not]
    exact BitVec.allOnes_xor
  rw [this]

theorem row_cell_int {w : World} {g e : Nat} {l : List UInt8} (h : Row w g e l) {j : Nat} {u : Value} (hc : w.cell? ⟨g, j, none⟩ = some u) : ∃ x, u = .int .u8 x := by
  unfold Row at h
  simp only [World.cell?, h] at hc
  simp only [Option.isSome_none, Bool.false_eq_true, if_false, List.getElem?_toArray] at hc
  obtain ⟨_, e⟩ := bytesV_get l j u hc
  exact ⟨_, e⟩

theorem whole_any (r : ARow) (w : World) (h : r.lies w 5) : Calls Try.prog 41 #[r.val] w fun e w' => e = .returned r.all ∧ w = w' := by
  obtain ⟨g, l, s⟩ := r
  obtain ⟨h1, h2, h3⟩ := h
  unfold maxLen at h1
  simp at h1
  cases g with
  | none =>
    obtain ⟨hl, hs⟩ := h2 rfl
    simp at hl hs
    subst hl hs
    clear h3 h2
    show Calls _ _ #[.slice none 0 0] _ _
    go_enter Try.func41, Try.ntmps41
    go_wp2
    go_ret
    exact ⟨rfl, rfl⟩
  | some g =>
    clear h3 h2
    show Calls _ _ #[.slice (some ⟨g, 0, none⟩) l.length (l.length + s.length)] _ _
    have e : l.length ≤ l.length + s.length := by omega
    obtain ⟨n, hn⟩ : ∃ n, l.length + s.length = n := ⟨_, rfl⟩
    rw [hn] at h1 e ⊢
    have HN := hid hn
    clear hn
    go_enter Try.func41, Try.ntmps41
    go_wp2
    go_ret
    exact ⟨by simp [ARow.all, HN.out], rfl⟩

set_option maxRecDepth 20000 in
set_option maxHeartbeats 400000 in
theorem apart_any (v : Value) (rs : List ARow) (w : World) (hv : RdV w v (rs.map ARow.val)) (hl : ∀ i (hi : i < rs.length), rs[i].lies w 5)
    (hd : ∀ i j (hi : i < rs.length) (hj : j < rs.length), i ≠ j → ∀ g, rs[i].g = some g → rs[j].g ≠ some g) (hn : rs.length ≤ 1000000) :
    Calls Try.prog 20 #[v] w fun e w' => e = .returned (.bool true) ∧ Below w.heap.size w w' := by
  obtain ⟨p, c, rfl, hlc, hcm, hpn, hcell⟩ := hv
  unfold maxLen at hcm
  have hml : (rs.map ARow.val).length = rs.length := by simp
  rw [hml] at hlc ⊢
  have HC := hid (show ∀ i (hi : i < rs.length), ∃ b off, p = some ⟨b, off, none⟩ ∧ w.cell? ⟨b, off + i, none⟩ = some rs[i].val from fun i hi => by
    obtain ⟨b, off, e, h⟩ := hcell i (by omega)
    exact ⟨b, off, e, by simpa using h⟩)
  have HL := hid hl
  have HD := hid hd
  clear hcell hl hd hml
  go_enter Try.func20, Try.ntmps20
  go_wp2_with fail
  go_loopw [3, 4] (fun fine y wr => fine = .bool true ∧ ∃ i : Nat, i ≤ rs.length ∧ y = .int .i64 i ∧ Below w.heap.size w wr) (fun _ y _ => rs.length - (intOf y).toNat)
  case atStart => exact ⟨rfl, 0, Nat.zero_le _, rfl, Below.refl _ _⟩
  case round =>
    obtain ⟨rfl, i, hi, rfl, hb⟩ := hrel
    by_cases hlt : i < rs.length
    · have HB := hid hb
      clear hb
      go_wp2_with fail
      go_loopw [5, 6] (fun o y wx => ∃ k : Nat, k ≤ rs.length ∧ y = .int .i64 k ∧ OwnV wx w.heap.size 9 o ((rs.map fun r => strOf r.l).take k) ∧ Below w.heap.size w wx) (fun _ y _ => rs.length - (intOf y).toNat)
      case atStart => exact ⟨0, Nat.zero_le _, rfl, OwnV.nil _ _ _, HB.out⟩
      case round =>
        clear HB
        obtain ⟨k, hk, rfl, ho, hb⟩ := hrel
        by_cases hlk : k < rs.length
        · obtain ⟨b, off, rfl, hc⟩ := HC.out k hlk
          have hlies := (HL.out k hlk).mono hb
          have hrd := hlies.rd
          obtain ⟨pp, cc, hval, _, _, _, hx5⟩ := hlies.rd
          clear hx5
          rw [hval] at hrd hc
          have hcv := run_convert_rd (P := Try.prog) wr 29 5 9 Try.underlying29 Try.underlying5 Try.underlying9 _ _ hrd
          obtain ⟨sb, hsb⟩ : ∃ sb, strOf rs[k].l = .string sb := ⟨_, rfl⟩
          rw [hsb] at hcv
          have hcw := cell?_of_below hb hc
          have HS := hid (show (rs.map fun r => strOf r.l).take (k + 1) = (rs.map fun r => strOf r.l).take k ++ [.string sb] by rw [List.take_succ_eq_append_getElem (by simpa using hlk), List.getElem_map, hsb])
          have HO := hid ho
          have HB := hid hb
          clear hlies hrd hval hsb ho hb hc
          generalize rs[k].l.length = rl at *
          go_wp2_with (at_builtin; refine wpList_append_OwnV rfl (.tmp 23) (.tmp 29) 64 rfl w.heap.size 9 (.string ByteArray.empty) 16 rfl Try.underlying64 infoStr _ _ ((rs.map fun r => strOf r.l).take k) [.string sb] (by simp [Value.oneCell']) (by simp) rfl (HO.out.alloc _) rfl ?hrd ?hlen ?hlen2 ?hbase ?_)
          case hrd => exact rdV_new wr 9 _ 1 _ rfl rfl (by unfold maxLen; omega)
          case hlen => simp; omega
          case hlen2 => simp; omega
          case hbase => have := HB.out.size; simp; omega
          intro v3 w3 ho3 hg3
          have HO3 := hid ho3
          have HB3 := hid ((HB.out.alloc HB.out.size (.cells #[.string sb] 9 (0, 0))).grown hg3 (by have := HB.out.size; simp; omega) HO.out.ge)
          clear ho3 hg3 HO HB hcv hcw
          go_wp2
          go_roundw
          case rel => exact ⟨k + 1, by omega, by go_num, by rw [HS.out]; exact HO3.out, HB3.out⟩
          case measure => simp [intOf]; omega
        · obtain rfl : k = rs.length := by omega
          obtain ⟨b, off, rfl, hc⟩ := HC.out i hlt
          have hlies := (HL.out i hlt).mono hb
          have hcw := cell?_of_below hb hc
          obtain ⟨r, hr⟩ : ∃ r, rs[i] = r := ⟨_, rfl⟩
          rw [hr] at hlies hcw
          have hw := whole_any r wr hlies
          rw [ARow.val_eq] at hcw hw
          rw [ARow.all_eq] at hw
          obtain ⟨N, hN⟩ : ∃ N, r.l.length + r.s.length = N := ⟨_, rfl⟩
          have hlN : r.l.length ≤ N := by omega
          have hNm : N ≤ 9223372036854775807 := by have := hlies.1; unfold maxLen at this; omega
          rw [hN] at hcw hw
          have HN := hid hN
          have HR := hid hr
          have HLI := hid hlies
          have HO := hid ho
          have HB := hid hb
          have HW := hid hw
          clear hlies hr ho hb hw hc hN
          obtain ⟨wo, rfl⟩ : ∃ wo : World, wo = wr := ⟨_, rfl⟩
          go_wp2_with fail
          refine HW.out.mono ?_
          rintro e w1 ⟨rfl, rfl⟩
          clear HW hcw
          go_wp2_with fail
          go_loopw [8] (fun y wx => ∃ n : Nat, n ≤ N ∧ y = .int .i64 n ∧ Turned wo wx 5 r (turned (r.l ++ r.s) n)) (fun y _ => N - (intOf y).toNat)
          case atStart => exact ⟨0, Nat.zero_le _, rfl, by rw [turned_zero]; exact Turned.start HLI.out⟩
          case round =>
            obtain ⟨n, hn', rfl, ht⟩ := hrel
            by_cases hln : n < N
            · obtain ⟨g, hg⟩ : ∃ g, r.g = some g := by
                cases hgc : r.g with
                | none =>
                  have h1 := HLI.out.2.1 hgc
                  have h2 := HN.out
                  rw [h1.1, h1.2] at h2
                  simp at h2
                  omega
                | some g => exact ⟨g, rfl⟩
              have hlen : n < (r.l ++ r.s).length := by have := HN.out; simp; omega
              have hcd := (ht.2 g hg).cell n (by rw [turned_length]; exact hlen)
              rw [turned_get _ _ hlen] at hcd
              have hcf := (ht.2 g hg).frozen n
              have ht2 := ht.store g hg n (~~~ (r.l ++ r.s)[n])
              rw [turned_step _ _ hlen] at ht2
              generalize (r.l ++ r.s)[n] = x at *
              have HT2 := hid ht2
              clear ht ht2
              rw [hg]
              go_wp2
              go_roundw
              case rel => exact ⟨n + 1, by omega, by go_num, by rw [← not8 x] at HT2; exact HT2.out⟩
              case measure => simp [intOf]; omega
            · obtain rfl : n = N := by omega
              have HT := hid ht
              have HB2 := HB
              have hgl : ∀ k, r.g = some k → k < w.heap.size := fun k hk => by
                have := (HL.out i hlt).2.2 k (by rw [HR.out]; exact hk)
                exact this.lt
              have HO2 := hid (HO.out.grown ht.1 hgl)
              have HC2 := hid (show ∀ k (hk : k < rs.length), k ≠ i → ∃ b2 off2, (some ⟨b, off, none⟩ : Option Addr) = some ⟨b2, off2, none⟩ ∧ wr.cell? ⟨b2, off2 + k, none⟩ = some rs[k].val from fun k hk hki => by
                obtain ⟨b2, off2, e, h⟩ := HC.out k hk
                refine ⟨b2, off2, e, ?_⟩
                have h1 := cell?_of_below HB.out h
                refine ht.1.cell h1 ?_
                intro hg
                obtain ⟨x, hx⟩ := row_cell_int (HLI.out.2.2 b2 hg.symm) h1
                rw [ARow.val_eq] at hx
                cases hx)
              have HL2 := hid (show ∀ k (hk : k < rs.length), k ≠ i → rs[k].lies wr 5 from fun k hk hki => by
                refine (((HL.out k hk).mono HB.out)).grown ht.1 (fun q hq => ?_)
                exact HD.out i k hlt hk (Ne.symm hki) q (by rw [HR.out]; exact hq))
              clear ht hgl
              go_wp2_with fail
              go_loopw [3, 9] (fun fine y wy => fine = .bool true ∧ (∃ k : Nat, k ≤ rs.length ∧ y = .int .i64 k) ∧ ∃ d, wy = wr.drewN d) (fun _ y _ => rs.length - (intOf y).toNat)
              case atStart => exact ⟨rfl, ⟨0, Nat.zero_le _, rfl⟩, 0, rfl⟩
              case round =>
                obtain ⟨rfl, ⟨k, hk', rfl⟩, d, rfl⟩ := hrel
                by_cases hk2 : k < rs.length
                · by_cases hki : k = i
                  · subst hki
                    have hd1 : ((k : Int) == (k : Int)) = true := by simp
                    go_wp2_with fail
                    go_quiet (fail)
                    go_wp2
                    go_roundw
                    case rel => exact ⟨rfl, ⟨k + 1, by omega, by go_num⟩, _, rfl⟩
                    case measure => simp [intOf]; omega
                  · have hd1 : ((k : Int) == (i : Int)) = false := by simp; omega
                    obtain ⟨b2, off2, e2, hc2⟩ := HC2.out k hk2 hki
                    simp only [Option.some.injEq, Addr.mk.injEq] at e2
                    obtain ⟨rfl, rfl, _⟩ := e2
                    have hlk := HL2.out k hk2 hki
                    have hrd := hlk.rd
                    obtain ⟨pp, cc, hval, _, _, _, hx5⟩ := hlk.rd
                    clear hx5
                    rw [hval] at hrd hc2
                    have hcv : ∀ m, (convert 29 9 (.slice pp rs[k].l.length cc)).run Try.prog (wr.drewN m) = .ok (strOf rs[k].l) (wr.drewN m) := fun m => run_convert_rd (P := Try.prog) (wr.drewN m) 29 5 9 Try.underlying29 Try.underlying5 Try.underlying9 _ _ (hrd.drewN m)
                    obtain ⟨sb, hsb⟩ : ∃ sb, strOf rs[k].l = .string sb := ⟨_, rfl⟩
                    rw [hsb] at hcv
                    have hst := HO2.out.rd
                    obtain ⟨ps, cs, hov, h1s, h2s, h3s, h4s⟩ := hst
                    have hkl : k < ((rs.map fun r => strOf r.l).take rs.length).length := by simp; omega
                    obtain ⟨bs, offs, eps, hcs⟩ := h4s k hkl
                    rw [List.getElem_take, List.getElem_map, hsb] at hcs
                    subst eps
                    rw [hov]
                    have hll : ((rs.map fun r => strOf r.l).take rs.length).length = rs.length := by simp
                    rw [hll]
                    have i1 : (0 : Int) ≤ (k : Int) := by omega
                    have i2 : (k : Int) < (rs.length : Int) := by omega
                    clear h1s h2s h3s h4s hov hkl hll hlk hrd hval hsb
                    go_wp2_with fail
                    go_quiet (fail)
                    go_wp2
                    go_roundw
                    case rel => exact ⟨rfl, ⟨k + 1, by omega, by go_num⟩, _, rfl⟩
                    case measure => simp [intOf]; omega
                · obtain rfl : k = rs.length := by omega
                  go_wp2_with fail
                  have HTD := hid (show Turned wo (wr.drewN d) 5 r (turned (r.l ++ r.s) n) from ⟨⟨HT.out.1.os, HT.out.1.tape, HT.out.1.output, HT.out.1.size, HT.out.1.block⟩, HT.out.2⟩)
                  generalize wr.drewN d = wd at *
                  go_loopw [10] (fun y wx => ∃ m : Nat, m ≤ n ∧ y = .int .i64 m ∧ Turned wo wx 5 r (turned (turned (r.l ++ r.s) n) m)) (fun y _ => n - (intOf y).toNat)
                  case atStart => exact ⟨0, Nat.zero_le _, rfl, by rw [turned_zero]; exact HTD.out⟩
                  case round =>
                    obtain ⟨m, hm', rfl, ht⟩ := hrel
                    by_cases hlm : m < n
                    · obtain ⟨g, hg⟩ : ∃ g, r.g = some g := by
                        cases hgc : r.g with
                        | none =>
                          have h1 := HLI.out.2.1 hgc
                          have h2 := HN.out
                          rw [h1.1, h1.2] at h2
                          simp at h2
                          omega
                        | some g => exact ⟨g, rfl⟩
                      have hlen : m < (turned (r.l ++ r.s) n).length := by have := HN.out; rw [turned_length]; simp; omega
                      have hcd := (ht.2 g hg).cell m (by rw [turned_length]; exact hlen)
                      rw [turned_get _ _ hlen] at hcd
                      have hcf := (ht.2 g hg).frozen m
                      have ht2 := ht.store g hg m (~~~ (turned (r.l ++ r.s) n)[m])
                      rw [turned_step _ _ hlen] at ht2
                      generalize (turned (r.l ++ r.s) n)[m] = x at *
                      have HT2 := hid ht2
                      clear ht ht2
                      rw [hg]
                      go_wp2
                      go_roundw
                      case rel => exact ⟨m + 1, by omega, by go_num, by rw [← not8 x] at HT2; exact HT2.out⟩
                      case measure => simp [intOf]; omega
                    · obtain rfl : m = n := by omega
                      have hnn : m = (r.l ++ r.s).length := by have := HN.out; simp; omega
                      have HEND := hid (show Below wo.heap.size wo wr from by
                        refine Turned.back HLI.out ?_
                        have h2 := ht
                        rw [hnn, turned_back] at h2
                        exact h2)
                      clear ht hnn
                      go_wp2
                      go_roundw
                      case rel => exact ⟨rfl, i + 1, by omega, by go_num, HB.out.trans (HEND.out.mono HB.out.size)⟩
                      case measure => simp [intOf]; omega
    · obtain rfl : i = rs.length := by omega
      go_wp2
      go_ret
      exact ⟨rfl, hb⟩

/-- The same of rows in three rooms, one above the other. -/
theorem apart3 {v v1 v2 v3 : Value} {l1 l2 l3 : List UInt8} {b1 b2 b3 : Nat} {w w1 w2 w3 : World} (hv : RdV w v [v2, v3, v1])
    (h1 : Own w1 b1 5 v1 l1) (h2 : Own w2 b2 5 v2 l2) (h3 : Own w3 b3 5 v3 l3)
    (g1 : Below w1.heap.size w1 w) (g2 : Below w2.heap.size w2 w) (g3 : Below w3.heap.size w3 w) (e1 : w1.heap.size ≤ b2) (e2 : w2.heap.size ≤ b3) (e3 : b2 ≤ w2.heap.size) :
    Calls Try.prog 20 #[v] w fun e w' => e = .returned (.bool true) ∧ Below w.heap.size w w' := by
  obtain ⟨r1, q1, _, y1, z1⟩ := h1.arow
  obtain ⟨r2, q2, _, y2, z2⟩ := h2.arow
  obtain ⟨r3, q3, _, y3, z3⟩ := h3.arow
  have f12 : r1.far r2 := far_of (B := b2) (fun g hg => Nat.lt_of_lt_of_le (z1 g hg).2 e1) (fun g hg => (z2 g hg).1)
  have f13 : r1.far r3 := far_of (B := b3) (fun g hg => Nat.lt_of_lt_of_le (z1 g hg).2 (by omega)) (fun g hg => (z3 g hg).1)
  have f23 : r2.far r3 := far_of (B := b3) (fun g hg => Nat.lt_of_lt_of_le (z2 g hg).2 e2) (fun g hg => (z3 g hg).1)
  refine apart_any v [r2, r3, r1] w (by simpa [q1, q2, q3] using hv) (rows_lie ?_) (rows_far ?_) (by simp)
  · intro r hr
    simp at hr
    rcases hr with rfl | rfl | rfl
    · exact y2.mono g2
    · exact y3.mono g3
    · exact y1.mono g1
  · simp [f23, f12.symm, f13.symm]
end Go.Proofs.Ytahpklciafpdaaa

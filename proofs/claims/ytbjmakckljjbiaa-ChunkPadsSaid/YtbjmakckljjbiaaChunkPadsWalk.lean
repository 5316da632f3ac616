/- ChunkPads: the walk of the law. Conditions: none but what the row reads. -/
import Derived.Test.YtbjmakckljjbiaaChunkWorks
import Derived.Test.YtbjmakckljjbiaaMem2
namespace Go.FL
open Go.RowKit
theorem Own.put {w : World} {base e : Nat} {v : Value} {m : List UInt8} (h : Own w base e v m) (k : Nat) (hk : k < m.length) :
    ∃ gc cap, v = .slice (some ⟨gc, 0, none⟩) m.length cap ∧ base ≤ gc ∧ w.cell? ⟨gc, k, none⟩ = some (.int .u8 (m[k].toNat : Int)) ∧ w.frozen? ⟨gc, k, none⟩ = false ∧
      ∀ b : UInt8, Own (w.setCell ⟨gc, k, none⟩ (.int .u8 (b.toNat : Int))) base e v (m.set k b) := by
  rcases h with ⟨rfl, rfl⟩ | ⟨g, sp, h1, rfl, h2, h3⟩
  · simp at hk
  · refine ⟨g, _, rfl, h1, ?_, h2.frozen k, fun b => .inr ⟨g, sp, h1, by simp, ?_, by simpa using h3⟩⟩
    · rw [h2.cell k (by simp; omega), List.getElem_append_left hk]
    · have := h2.store k b
      rwa [List.set_append, if_pos hk] at this
theorem Chk.bytes_flat (c : Chk) (h : c.b.length ≤ 65531) : ∃ z, c.bytes = [c.k, c.f] ++ (beBytes 2 (4 + c.b.length) ++ (c.b ++ List.replicate z 0)) ∧ z = roundN (4 + c.b.length) - (4 + c.b.length) := by
  refine ⟨_, ?_, rfl⟩
  rw [c.bytes_head h, Chk.head, List.append_assoc]
theorem Chk.set_kind (c : Chk) (h : c.b.length ≤ 65531) (v : UInt8) : c.bytes.set 0 v = (⟨v, c.f, c.b⟩ : Chk).bytes := by
  obtain ⟨z, h1, h2⟩ := c.bytes_flat h
  obtain ⟨z', h3, h4⟩ := Chk.bytes_flat ⟨v, c.f, c.b⟩ h
  rw [h1, h3, h4, h2]
  rfl
theorem Chk.set_flags (c : Chk) (h : c.b.length ≤ 65531) (v : UInt8) : c.bytes.set 1 v = (⟨c.k, v, c.b⟩ : Chk).bytes := by
  obtain ⟨z, h1, h2⟩ := c.bytes_flat h
  obtain ⟨z', h3, h4⟩ := Chk.bytes_flat ⟨c.k, v, c.b⟩ h
  rw [h1, h3, h4, h2]
  rfl
theorem Chk.set_body (c : Chk) (h : c.b.length ≤ 65531) (k : Nat) (h1 : 4 ≤ k) (h2 : k < 4 + c.b.length) (v : UInt8) : c.bytes.set k v = (⟨c.k, c.f, c.b.set (k - 4) v⟩ : Chk).bytes := by
  have hh : (⟨c.k, c.f, c.b.set (k - 4) v⟩ : Chk).head = c.head := by simp [Chk.head]
  rw [c.bytes_head h, Chk.bytes_head ⟨c.k, c.f, c.b.set (k - 4) v⟩ (by simpa using h), hh, List.set_append, if_neg (by rw [c.head_length]; omega), c.head_length, List.set_append, if_pos (by omega)]
  simp
theorem Chk.set_pad0 (c : Chk) (h : c.b.length ≤ 65531) (k : Nat) (h1 : 4 + c.b.length ≤ k) (h2 : k < c.bytes.length) : c.bytes.set k 0 = c.bytes := by
  have hl := c.bytes_length h
  rw [c.bytes_head h, List.set_append, if_neg (by rw [c.head_length]; omega), c.head_length, List.set_append, if_neg (by omega)]
  congr 2
  apply List.ext_getElem?
  intro i
  rw [List.getElem?_set]
  split
  · split
    · rename_i e hlt
      subst e
      simp only [List.length_replicate] at hlt
      rw [List.getElem?_replicate, if_pos (by omega)]
    · rename_i e hlt
      rw [List.getElem?_eq_none (by omega)]
  · rfl
theorem Chk.set_pad (c : Chk) (h : c.b.length ≤ 65531) (k : Nat) (h1 : 4 + c.b.length ≤ k) (h2 : k < c.bytes.length) (v : UInt8) (hv : v ≠ 0) : chkOk (c.bytes.set k v) = false := by
  have hl := c.bytes_length h
  have hlen : chkLen (c.bytes.set k v) = 4 + c.b.length := by
    have e : c.bytes.set k v = c.head ++ (c.b ++ List.replicate (roundN (4 + c.b.length) - (4 + c.b.length)) 0).set (k - 4) v := by
      rw [c.bytes_head h, List.set_append, if_neg (by rw [c.head_length]; omega), c.head_length]
    rw [e]
    exact chkLen_head c _ h
  rw [Bool.eq_false_iff]
  intro hok
  simp only [chkOk, decide_eq_true_eq] at hok
  have hp := hok.2.2.2 v ?_
  · exact hv hp
  · rw [chkPad, hlen, ← hl]
    apply List.mem_iff_getElem?.2
    refine ⟨k - (4 + c.b.length), ?_⟩
    rw [List.getElem?_take, if_pos (by omega), List.getElem?_drop, show 4 + c.b.length + (k - (4 + c.b.length)) = k by omega, List.getElem?_set, if_pos rfl, if_pos h2]
end Go.FL
namespace Go.Proofs.Ytbjmakckljjbiaa
open Go.RowKit Go.FL Go.ChangeShapes

set_option maxRecDepth 20000 in
set_option maxHeartbeats 4000000 in
theorem chunkPads_walk {w : World} {v : Value} (x : Chk) (hx : ChkAt w v x) (at_ : Int) (hat : (Lit.int .u16 at_).wf = true) (by_ : Int) (hby : (Lit.int .u8 by_).wf = true) :
    Calls Try.prog 8 #[v, .int .u16 at_, .int .u8 by_] w fun e w' => e = .returned (.bool true) ∧ Below w.heap.size w w' := by
  have ba := bounds_u16 hat
  obtain ⟨y, rfl⟩ := u8_of _ hby
  clear hat hby
  obtain ⟨n, rfl⟩ : ∃ n : Nat, at_ = (n : Int) := ⟨at_.toNat, by omega⟩
  have hyb := byte_lt y
  have HX := hid hx
  obtain ⟨s, rfl, hrd⟩ := hx
  obtain ⟨p, cp, rfl, hlc, hcm, hpn, hcell⟩ := hrd
  unfold maxLen at hcm
  clear hcell
  obtain ⟨kk, ff, b⟩ := x
  simp only at *
  have hkb := byte_lt kk
  have hfb := byte_lt ff
  obtain ⟨W, hW⟩ : ∃ W, W = w.alloc (.cells #[.int .u8 (kk.toNat : Int), .int .u8 (ff.toNat : Int), .slice p b.length cp] 24 (0, 0)) := ⟨_, rfl⟩
  have hr : RowV W w.heap.size 24 [.int .u8 (kk.toNat : Int), .int .u8 (ff.toNat : Int), .slice p b.length cp] := by rw [hW]; exact RowV.new w 24 _
  have HW := hid (show Below w.heap.size w W by rw [hW]; exact (Below.refl _ _).alloc (Nat.le_refl _) _)
  have HE := hid hW
  have HR := hid hr
  clear hW hr
  go_enter Try.func8, Try.ntmps8
  go_wp2_with fail
  rw [← HE.out]
  refine (cwrite_all _ ⟨kk, ff, b⟩ _ (HX.out.mono HW.out)).mono ?_
  rintro e w1 ⟨v1, rfl, ho1, hb1⟩
  obtain ⟨bs, hbs⟩ : ∃ bs, bs = (⟨kk, ff, b⟩ : Chk).bytes := ⟨_, rfl⟩
  rw [← hbs] at ho1
  have HBS := hid hbs
  obtain ⟨z, cc, rfl, hzc, hcc⟩ := ho1.shape
  unfold maxLen at hcc
  have HO1 := hid ho1
  have HS1 := hid hb1.size
  have G1 := hid (gr_trans HW.out hb1)
  have HR1 := hid (HR.out.mono hb1)
  have hlw : w.heap.size < W.heap.size := HR.out.lt
  clear ho1 hb1
  obtain ⟨c0, c1, c2⟩ := HR1.out.three
  by_cases hbig : 131072 < b.length ∨ bs.length = 0
  · have hcase : 131072 < b.length ∨ (b.length ≤ 131072 ∧ bs.length = 0) := by omega
    clear hbig hbs
    rcases hcase with h1 | ⟨h1, h2⟩
    · go_wp2_with fail
      refine (large_yes _ ⟨kk, ff, b⟩ _ (HX.out.mono G1.out) h1).mono ?_
      rintro e w2 ⟨rfl, hb2⟩
      go_wp2_with fail
      refine (works_any _).mono ?_
      rintro e w3 ⟨rfl, hb3⟩
      go_wp2_with fail
      go_ret
      exact ⟨rfl, gr_trans G1.out (gr_trans hb2 hb3)⟩
    · go_wp2_with fail
      refine (large_no _ ⟨kk, ff, b⟩ _ (HX.out.mono G1.out) h1).mono ?_
      rintro e w2 ⟨rfl, hb2⟩
      have h2i : (bs.length : Int) = 0 := by omega
      go_wp2_with fail
      refine (works_any _).mono ?_
      rintro e w3 ⟨rfl, hb3⟩
      go_wp2_with fail
      go_ret
      exact ⟨rfl, gr_trans G1.out (gr_trans hb2 hb3)⟩
  · have hsm : b.length ≤ 131072 := by omega
    have hpos : 0 < bs.length := by omega
    have hl : b.length ≤ 65531 := by
      by_cases h : b.length ≤ 65531
      · exact h
      · have := Chk.bytes_big ⟨kk, ff, b⟩ (by show 65531 < b.length; omega)
        rw [hbs, this] at hpos
        simp at hpos
    clear hbig hbs
    obtain ⟨k, hk⟩ : ∃ k : Nat, k = n % bs.length := ⟨_, rfl⟩
    have hkl : k < bs.length := by rw [hk]; exact Nat.mod_lt _ hpos
    have hkm : (n : Int) % (bs.length : Int) = (k : Int) := by rw [hk]; exact (Int.natCast_emod n bs.length).symm
    have hz1 : ((bs.length : Int) == 0) = false := beq_eq_false_iff_ne.2 (by omega)
    have hz2 : ¬ (bs.length : Int) = 0 := by omega
    have hblen : bs.length ≤ 65540 := by
      have := (Chk.bytes_pos ⟨kk, ff, b⟩ hl).2.1
      rw [← HBS.out] at this
      simp only at this
      omega
    clear hk
    go_wp2_with fail
    refine (large_no _ ⟨kk, ff, b⟩ _ (HX.out.mono G1.out) hsm).mono ?_
    rintro e w2 ⟨rfl, hb2⟩
    have G2 := hid (gr_trans G1.out hb2)
    have HR2 := hid (HR1.out.mono hb2)
    have HO2 := hid (HO1.out.mono hb2)
    clear hb2 c0 c1 c2
    obtain ⟨c0, c1, c2⟩ := HR2.out.three
    have hcases : (k = 2 ∨ k = 3) ∨ k = 0 ∨ k = 1 ∨ (4 ≤ k ∧ k < 4 + b.length) ∨ (4 + b.length ≤ k ∧ y = 0) ∨ (4 + b.length ≤ k ∧ y ≠ 0) := by
      by_cases hy : y = 0 <;> simp [hy] <;> omega
    rcases hcases with h23 | hrest
    · rcases h23 with rfl | rfl
      all_goals
        go_wp2_with fail
        refine (works_any _).mono ?_
        rintro e w3 ⟨rfl, hb3⟩
        go_wp2_with fail
        go_ret
        exact ⟨rfl, gr_trans G2.out hb3⟩
    · have hn2 : ¬ (k : Int) = 2 := by omega
      have hn3 : ¬ (k : Int) = 3 := by omega
      have hm2 : ((k : Int) == 2) = false := by simp; omega
      have hm3 : ((k : Int) == 3) = false := by simp; omega
      obtain ⟨gc, cp2, hv2, hgc, hcell, hfr, hput⟩ := HO2.out.put k hkl
      simp only [Value.slice.injEq, true_and] at hv2
      obtain ⟨rfl, rfl⟩ := hv2
      have hp := hput y
      obtain ⟨w3, hw3⟩ : ∃ w3, w3 = w2.setCell ⟨gc, k, none⟩ (.int .u8 (y.toNat : Int)) := ⟨_, rfl⟩
      rw [← hw3] at hp
      have HO3 := hid hp
      have G3 := hid (show Below w.heap.size w w3 by rw [hw3]; exact G2.out.setCell (p := ⟨gc, k, none⟩) (by show w.heap.size ≤ gc; omega) _)
      have HR3 := hid (show RowV w3 w.heap.size 24 [.int .u8 (kk.toNat : Int), .int .u8 (ff.toNat : Int), .slice p b.length cp] by rw [hw3]; exact HR2.out.other _ _ (by show gc ≠ w.heap.size; omega))
      have HW3 := hid hw3
      have hset : (bs.set k y).length = bs.length := List.length_set
      have HSL := hid hset
      have hkb2 : (k : Int) < (bs.length : Int) := by omega
      generalize bs[k] = x0 at *
      clear hput hp hw3 hset
      go_wp2_with fail
      rw [← HW3.out]
      clear hcell hfr c0 c1 c2
      obtain ⟨c0, c1, c2⟩ := HR3.out.three
      have hfin : (∃ cx : Chk, cx.b.length = b.length ∧ chkTells (bs.set k y) = (cx, bs.length, 0) ∧ (4 + b.length ≤ k → y = 0) ∧ (k = 0 → cx.k = y) ∧ (k = 1 → cx.f = y) ∧ (∀ h : k - 4 < cx.b.length, 4 ≤ k → cx.b[k - 4] = y)) ∨ (4 + b.length ≤ k ∧ y ≠ 0 ∧ chkOk (bs.set k y) = false) := by
        have tells : ∀ cx : Chk, cx.b.length = b.length → bs.set k y = cx.bytes → chkTells (bs.set k y) = (cx, bs.length, 0) := fun cx hcx h => by
          have h1 := chkTells_back cx [] (by omega)
          rw [List.append_nil] at h1
          rw [h, h1, ← h, List.length_set]
        rcases hrest with rfl | rfl | ⟨h1, h2⟩ | ⟨h1, rfl⟩ | ⟨h1, h2⟩
        · exact .inl ⟨⟨y, ff, b⟩, rfl, tells _ rfl (by rw [HBS.out]; exact Chk.set_kind ⟨kk, ff, b⟩ hl y), by omega, fun _ => rfl, by omega, by omega⟩
        · exact .inl ⟨⟨kk, y, b⟩, rfl, tells _ rfl (by rw [HBS.out]; exact Chk.set_flags ⟨kk, ff, b⟩ hl y), by omega, by omega, fun _ => rfl, by omega⟩
        · exact .inl ⟨⟨kk, ff, b.set (k - 4) y⟩, by simp, tells _ (by simp) (by rw [HBS.out]; exact Chk.set_body ⟨kk, ff, b⟩ hl k h1 h2 y), by omega, by omega, by omega, fun h _ => by simp⟩
        · exact .inl ⟨⟨kk, ff, b⟩, rfl, tells _ rfl (by rw [HBS.out]; exact Chk.set_pad0 ⟨kk, ff, b⟩ hl k h1 (by rw [← HBS.out]; exact hkl)), fun _ => rfl, by omega, by omega, fun h _ => by simp at h; omega⟩
        · exact .inr ⟨h1, h2, by rw [HBS.out]; exact Chk.set_pad ⟨kk, ff, b⟩ hl k h1 (by rw [← HBS.out]; exact hkl) y h2⟩
      rcases hfin with ⟨cx, hcx, ht, q0, q1, q2, q3⟩ | ⟨hge, hy, hno⟩
      · have HT := hid ht
        have Q0 := hid q0
        have Q1 := hid q1
        have Q2 := hid q2
        have Q3 := hid q3
        have hlen5 : (bs.set k y).length ≤ 140737488355320 := by rw [HSL.out]; omega
        have HL5 := hid hlen5
        clear ht q0 q1 q2 q3 hlen5
        refine (cread_good _ (bs.set k y) cx bs.length HT.out _ HO3.out.rd HL5.out).mono ?_
        rintro e w4 ⟨p4, c4, rfl, ho4, hb4⟩
        obtain ⟨k4, f4, b4⟩ := cx
        simp only at hcx ho4 ⊢
        rw [hcx] at ho4 ⊢
        have hk4b := byte_lt k4
        have hf4b := byte_lt f4
        obtain ⟨W4, hW4⟩ : ∃ W4, W4 = w4.alloc (.cells #[.int .u8 (k4.toNat : Int), .int .u8 (f4.toNat : Int), .slice p4 b.length c4] 24 (0, 0)) := ⟨_, rfl⟩
        have g44 : Below w4.heap.size w4 W4 := by rw [hW4]; exact (Below.refl _ _).alloc (Nat.le_refl _) _
        have hr4 : RowV W4 w4.heap.size 24 [.int .u8 (k4.toNat : Int), .int .u8 (f4.toNat : Int), .slice p4 b.length c4] := by rw [hW4]; exact RowV.new w4 24 _
        have G4 := hid (gr_trans G3.out (gr_trans hb4 g44))
        have HRD4 := hid ho4.rd
        have HR4lt := (HR3.out.mono hb4).lt
        have HR4 := hid (HR3.out.mono hb4)
        clear ho4 hb4 c0 c1 c2 g44 hr4
        obtain ⟨c0, c1, c2⟩ := HR4.out.three
        have hsz4 : w.heap.size < w4.heap.size := HR4lt
        subst hW4
        by_cases hge : 4 + b.length ≤ k
        · obtain rfl := Q0.out hge
          have hgi : ¬ ((k : Int) < 4 + (b.length : Int)) := by omega
          have hgi2 : 4 + (b.length : Int) ≤ (k : Int) := by omega
          go_wp2_with fail
          refine (works_any _).mono ?_
          rintro e w5 ⟨rfl, hb5⟩
          go_wp2_with fail
          go_ret
          exact ⟨rfl, gr_trans G4.out hb5⟩
        · have hgi2 : ¬ (4 + (b.length : Int) ≤ (k : Int)) := by omega
          have hk3 : k = 0 ∨ k = 1 ∨ 4 ≤ k := by omega
          rcases hk3 with rfl | rfl | h4k
          · obtain rfl := Q1.out rfl
            go_wp2_with fail
            refine (works_any _).mono ?_
            rintro e w5 ⟨rfl, hb5⟩
            go_wp2_with fail
            go_ret
            exact ⟨rfl, gr_trans G4.out hb5⟩
          · obtain rfl := Q2.out rfl
            go_wp2_with fail
            refine (works_any _).mono ?_
            rintro e w5 ⟨rfl, hb5⟩
            go_wp2_with fail
            go_ret
            exact ⟨rfl, gr_trans G4.out hb5⟩
          · have hk4 : k - 4 < b4.length := by omega
            have hq3 := Q3.out hk4 h4k
            simp only at hq3
            obtain ⟨_, _, e4, _, _, _, hcellb⟩ := HRD4.out
            simp only [Value.slice.injEq] at e4
            obtain ⟨rfl, e5, rfl⟩ := e4
            clear e5
            obtain ⟨gb, ob, rfl, hcb⟩ := hcellb (k - 4) hk4
            rw [hq3] at hcb
            have hgb : gb < w4.heap.size := World.block_lt_of_cell? w4 _ hcb
            have i0 : (0 : Int) ≤ (k : Int) - 4 := by omega
            have i1 : (k : Int) - 4 < (b.length : Int) := by omega
            clear hq3 hcx hk4
            have i2 : ((k : Int) - 4).toNat = k - 4 := by omega
            have i3 : ¬ (k : Int) < 4 := by omega
            have i4 : ((k : Int) != 0) = true := by simp; omega
            have i5 : ((k : Int) != 1) = true := by simp; omega
            clear hcellb
            go_wp2_with fail
            refine (works_any _).mono ?_
            rintro e w5 ⟨rfl, hb5⟩
            go_wp2_with fail
            go_ret
            exact ⟨rfl, gr_trans G4.out hb5⟩
      · have HNO := hid hno
        have hyz : ((y.toNat : Int) == 0) = false := by
          have : y.toNat ≠ 0 := fun h => hy (UInt8.toNat_inj.1 h)
          simp; omega
        have hlen5 : (bs.set k y).length ≤ 140737488355320 := by rw [HSL.out]; omega
        have HL5 := hid hlen5
        have hgi : ¬ ((k : Int) < 4 + (b.length : Int)) := by omega
        clear hno hlen5 hrest hy
        refine (cread_bad _ (bs.set k y) HNO.out _ HO3.out.rd HL5.out).mono ?_
        rintro e w4 ⟨p4, c4, rfl, ho4, hb4⟩
        have G4 := hid ((gr_trans G3.out hb4).alloc (gr_trans G3.out hb4).size (.cells #[.int .u8 0, .int .u8 0, .slice p4 0 c4] 24 (0, 0)))
        have HR4 := hid (HR3.out.mono hb4)
        have hs4 : w.heap.size < w4.heap.size := (HR3.out.mono hb4).lt
        clear ho4 hb4 c0 c1 c2
        obtain ⟨c0, c1, c2⟩ := HR4.out.three
        go_wp2_with fail
        refine (works_any _).mono ?_
        rintro e w5 ⟨rfl, hb5⟩
        go_wp2_with fail
        go_ret
        exact ⟨rfl, gr_trans G4.out hb5⟩
end Go.Proofs.Ytbjmakckljjbiaa

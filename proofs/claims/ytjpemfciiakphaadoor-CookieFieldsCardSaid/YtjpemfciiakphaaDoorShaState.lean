/- What a state of a sum holds behind some bytes; bytes copied into its block; a whole row read, stored, copied into. Conditions: none. No program in sight. -/
import Derived.Test.YtjpemfciiakphaaDoorShaWords
import Derived.Laws.CopyOwn
import Derived.Deep.RegionLaw
import Derived.Laws.MakeOwn
namespace Go.FL
open Go.RowKit

/-- What a state holds behind the bytes m. -/
def StOk (m : List UInt8) (bg : Bool) (s0 : List (BitVec 32)) (blk : List UInt8) : Prop :=
  blk.length = 64 ∧ s0.length = 8 ∧ bg = decide (64 ≤ m.length) ∧ (64 ≤ m.length → s0 = (shaChain m (m.length / 64)).list) ∧ blk.take (m.length % 64) = m.drop (64 * (m.length / 64))

theorem stOk_zero : StOk [] false (List.replicate 8 0#32) (List.replicate 64 0) := ⟨rfl, rfl, by decide, fun h => by simp at h, rfl⟩
theorem splice_take {α : Type} (L : List α) (off : Nat) (cs : List α) (h : off + cs.length ≤ L.length) : (splice L off cs).take (off + cs.length) = L.take off ++ cs := by
  have h1 : (L.take off).length = off := by simp; omega
  rw [splice, ← List.append_assoc]
  exact List.take_left' (by simp; omega)
theorem div_same {a b : Nat} (h : a % 64 + b < 64) : (a + b) / 64 = a / 64 ∧ (a + b) % 64 = a % 64 + b := by omega
theorem div_next {a b : Nat} (h : a % 64 + b = 64) : (a + b) / 64 = a / 64 + 1 ∧ (a + b) % 64 = 0 := by omega

theorem stOk_put {m b : List UInt8} {bg : Bool} {s0 : List (BitVec 32)} {blk : List UInt8} (h : StOk m bg s0 blk) (hb : m.length % 64 + b.length < 64) : StOk (m ++ b) bg s0 (splice blk (m.length % 64) b) := by
  obtain ⟨h1, h2, h3, h4, h5⟩ := h
  have hl : (m ++ b).length = m.length + b.length := by simp
  obtain ⟨e1, e2⟩ := div_same hb
  have hle : 64 * (m.length / 64) ≤ m.length := by omega
  refine ⟨?_, h2, ?_, ?_, ?_⟩
  · rw [length_splice _ _ _ (by omega), h1]
  · rw [h3, hl]
    have : (64 ≤ m.length) ↔ (64 ≤ m.length + b.length) := by omega
    simp [this]
  · intro h64
    rw [hl] at h64
    rw [h4 (by omega), hl, e1, shaChain_append m b _ hle]
  · rw [hl, e1, e2, splice_take _ _ _ (by omega), h5, List.drop_append_of_le_length hle]
theorem stOk_full {m b : List UInt8} {bg : Bool} {s0 : List (BitVec 32)} {blk : List UInt8} (h : StOk m bg s0 blk) (hb : m.length % 64 + b.length = 64) :
    ∃ s : Sha, ((bg = true ∧ s0 = s.list) ∨ (bg = false ∧ s = shaH)) ∧ (splice blk (m.length % 64) b).length = 64 ∧ StOk (m ++ b) true (shaBlock s (splice blk (m.length % 64) b)).list (splice blk (m.length % 64) b) := by
  obtain ⟨h1, h2, h3, h4, h5⟩ := h
  have hl : (m ++ b).length = m.length + b.length := by simp
  obtain ⟨e1, e2⟩ := div_next hb
  have hle : 64 * (m.length / 64) ≤ m.length := by omega
  have hsl : (splice blk (m.length % 64) b).length = 64 := by rw [length_splice _ _ _ (by omega), h1]
  have hblk : splice blk (m.length % 64) b = ((m ++ b).drop (64 * (m.length / 64))).take 64 := by
    have ht := splice_take blk (m.length % 64) b (by omega)
    rw [hb, h5] at ht
    have hd : (m ++ b).drop (64 * (m.length / 64)) = m.drop (64 * (m.length / 64)) ++ b := List.drop_append_of_le_length hle
    have hdl : (m.drop (64 * (m.length / 64)) ++ b).length = 64 := by simp; omega
    rw [hd, List.take_of_length_le (by omega), ← ht, List.take_of_length_le (by omega)]
  refine ⟨shaChain m (m.length / 64), ?_, hsl, hsl, rfl, ?_, ?_, ?_⟩
  · by_cases h64 : 64 ≤ m.length
    · exact .inl ⟨by simp [h3, h64], h4 h64⟩
    · refine .inr ⟨by simp [h3]; omega, ?_⟩
      rw [show m.length / 64 = 0 by omega]
      rfl
  · have : 64 ≤ m.length + b.length := by omega
    simp [hl, this]
  · intro _
    rw [hl, e1, shaChain, shaChain_append m b _ hle, ← hblk]
  · rw [hl, e2, e1, List.take_zero, List.drop_eq_nil_of_le]
    rw [hl]
    omega
/-- A state that holds whole blocks alone. -/
theorem stOk_whole {m : List UInt8} {bg : Bool} {s0 : List (BitVec 32)} {blk : List UInt8} (h : StOk m bg s0 blk) (h64 : 64 ≤ m.length) : s0 = (shaChain m (m.length / 64)).list := h.2.2.2.1 h64

/-- A state lies in block g, behind the bytes m. -/
def ShaSt (w : World) (g e : Nat) (m : List UInt8) : Prop := ∃ bg s0 blk, RowV w g e (stV bg s0 blk m.length) ∧ StOk m bg s0 blk
theorem ShaSt.mono {w w' : World} {g e : Nat} {m : List UInt8} (h : ShaSt w g e m) (hb : Below w.heap.size w w') : ShaSt w' g e m := by
  obtain ⟨bg, s0, blk, h1, h2⟩ := h
  exact ⟨bg, s0, blk, h1.mono hb, h2⟩
theorem ShaSt.grown {w w' : World} {g e : Nat} {m : List UInt8} {r : Option Nat} (h : ShaSt w g e m) (hb : w.grownBy w' r) (hg : r ≠ some g) : ShaSt w' g e m := by
  obtain ⟨bg, s0, blk, h1, h2⟩ := h
  exact ⟨bg, s0, blk, h1.grown hb hg, h2⟩
theorem ShaSt.lt {w : World} {g e : Nat} {m : List UInt8} (h : ShaSt w g e m) : g < w.heap.size := by
  obtain ⟨bg, s0, blk, h1, h2⟩ := h
  exact h1.lt

/-- The padding of a text: what Sum writes behind it. -/
def shaTail (m : List UInt8) (j : Nat) : List UInt8 := (128 :: List.replicate ((119 - m.length % 64) % 64) 0) ++ bePart 8 (8 * m.length) j
theorem shaTail_pad (m : List UInt8) : m ++ shaTail m 8 = shaPad m := by simp [shaTail, shaPad, beBytes]
theorem shaTail_succ (m : List UInt8) (j : Nat) : shaTail m (j + 1) = shaTail m j ++ [UInt8.ofNat (8 * m.length / 2 ^ (8 * (8 - 1 - j)))] := by
  rw [shaTail, bePart_succ, ← List.append_assoc]
  rfl
theorem shaTail_length (m : List UInt8) (j : Nat) : (shaTail m j).length = 1 + (119 - m.length % 64) % 64 + j := by
  simp [shaTail, bePart_length]
  omega
theorem shaSum_get (m : List UInt8) (i : Nat) (h : i < 32) : (shaSum m)[i]'(by rw [shaSum_length]; exact h) = shaByte (shaChain (shaPad m) ((m.length + 72) / 64)).list i := by
  simp [shaSum, shaBytes]
def zeros72 : List UInt8 := List.replicate 72 0
theorem pad_row (n : Nat) (h : n ≤ 64) : (zeros72.set 0 128) = (128 :: List.replicate n 0) ++ List.replicate (71 - n) 0 := by
  rw [List.cons_append, List.replicate_append_replicate, show n + (71 - n) = 71 by omega]
  rfl
theorem shaTail_own (w1 : World) (e z : Nat) (m : List UInt8) (hz : z = (119 - m.length % 64) % 64) :
    Own (w1.alloc (.cells ((bytesV zeros72).set 0 (.int .u8 128)).toArray e (0, 0))) w1.heap.size e (.slice (some ⟨w1.heap.size, 0, none⟩) (1 + z) 72) (shaTail m 0) := by
  have hl : (shaTail m 0).length = 1 + z := by rw [shaTail_length, ← hz, Nat.add_zero]
  have hz64 : z < 64 := by omega
  refine .inr ⟨w1.heap.size, List.replicate (71 - z) 0, Nat.le_refl _, ?_, ?_, ?_⟩
  · rw [hl, List.length_replicate]
    rw [show 1 + z + (71 - z) = 72 by omega]
  · have e : shaTail m 0 ++ List.replicate (71 - z) 0 = zeros72.set 0 128 := by
      rw [pad_row z (by omega), shaTail, ← hz]
      simp [bePart]
    rw [e]
    have e2 : (bytesV zeros72).set 0 (.int .u8 128) = bytesV (zeros72.set 0 128) := by simp [bytesV, List.map_set]
    rw [e2]
    exact Row.new w1 _ (zeros72.set 0 128)
  · rw [hl]; unfold maxLen; simp; omega
/-- The sums of a state behind a padded text. -/
theorem stOk_pad {m : List UInt8} {bg : Bool} {s0 : List (BitVec 32)} {blk : List UInt8} (h : StOk (shaPad m) bg s0 blk) : s0 = (shaChain (shaPad m) ((m.length + 72) / 64)).list := by
  have hl := shaPad_length m
  have h1 := stOk_whole h (by rw [hl]; omega)
  rwa [hl, Nat.mul_div_cancel_left _ (by decide)] at h1
theorem out_step (l : List UInt8) (i : Nat) (h : i < l.length) : (l.take i ++ List.replicate (l.length - i) 0).set i l[i] = l.take (i + 1) ++ List.replicate (l.length - (i + 1)) 0 := by
  obtain ⟨m, h1, h2⟩ : ∃ m, l.length - i = m + 1 ∧ l.length - (i + 1) = m := ⟨_, by omega, rfl⟩
  have h3 : (l.take i).length = i := by simp; omega
  rw [h1, h2, List.replicate_succ, List.set_append, h3, if_neg (Nat.lt_irrefl i), Nat.sub_self, List.set_cons_zero, List.take_succ_eq_append_getElem h, List.append_assoc]
  rfl
theorem out_here (l : List UInt8) (i : Nat) (h : i < l.length) : (l.take i ++ List.replicate (l.length - i) 0).length = l.length := by simp; omega
theorem bytesV_splice (l c : List UInt8) (off : Nat) : bytesV (splice l off c) = splice (bytesV l) off (bytesV c) := by
  simp [splice, bytesV]
theorem stV_splice (bg : Bool) (s0 : List (BitVec 32)) (blk c : List UInt8) (n r : Nat) (hs : s0.length = 8) (hr : r + c.length ≤ blk.length) : splice (stV bg s0 blk n) (9 + r) (bytesV c) = stV bg s0 (splice blk r c) n := by
  have e0 : (wordsV s0).length = 8 := by rw [wordsV_length, hs]
  have e1 : (bytesV blk).length = blk.length := bytesV_length blk
  have e2 : (bytesV c).length = c.length := bytesV_length c
  have hA : (Value.bool bg :: wordsV s0).length = 9 := by simp [e0]
  have hst : ∀ b n, stV bg s0 b n = (Value.bool bg :: wordsV s0) ++ (bytesV b ++ [.int .u64 (n : Int)]) := fun b n => by simp [stV]
  rw [hst, hst, bytesV_splice]
  simp only [splice]
  rw [e2, List.take_append, hA, List.drop_append, hA, List.take_of_length_le (by omega), List.drop_eq_nil_of_le (by rw [hA]; omega), Nat.add_sub_cancel_left, List.take_append_of_le_length (by omega), show 9 + r + c.length - 9 = r + c.length by omega, List.drop_append_of_le_length (by omega)]
  simp [List.append_assoc]
theorem stV_setN (bg : Bool) (s0 : List (BitVec 32)) (blk : List UInt8) (n n' : Nat) (hs : s0.length = 8) (hb : blk.length = 64) : (stV bg s0 blk n).set 73 (.int .u64 (n' : Int)) = stV bg s0 blk n' := by
  have hst : ∀ n, stV bg s0 blk n = (Value.bool bg :: (wordsV s0 ++ bytesV blk)) ++ [.int .u64 (n : Int)] := fun n => by simp [stV]
  have hA : (Value.bool bg :: (wordsV s0 ++ bytesV blk)).length = 73 := by simp [wordsV_length, bytesV_length, hs, hb]
  rw [hst, hst, List.set_append, hA, if_neg (by omega), Nat.sub_self]
  rfl
theorem stV_oneCell (bg : Bool) (s0 : List (BitVec 32)) (blk : List UInt8) (n : Nat) : ∀ v ∈ stV bg s0 blk n, v.oneCell' = true := by
  intro v hv
  simp only [stV, List.mem_cons, List.mem_append, List.not_mem_nil, or_false] at hv
  rcases hv with rfl | hv | hv | rfl
  · rfl
  · simp [wordsV] at hv
    obtain ⟨x, _, rfl⟩ := hv
    rfl
  · exact bytesV_oneCell _ v hv
  · rfl

/-- 'copy' into the midst of a row, as one step of a region that draws its order. -/
theorem step_copy_row {P : Program} {ops : Array Oper} {o : Oper} {a : Act} {w : World} {K : Act → World → Prop} {Q : Exit → Act → World → Prop} {E : Prop} (hgd : o.guard = none) (d s : Operand) (dT sT : TypeId)
    (ho : o.op = .call { callee := .builtin .copy, args := #[d, s], argTypes := #[dT, sT] }) (elem : TypeId) (hu : P.underlying dT = some (.slice elem)) (hsz : (P.info? elem).map (·.size) = some 1)
    (g off dLen dCap : Nat) (hd : a.eval d = .slice (some ⟨g, off, none⟩) dLen dCap) (v : Value) (l : List UInt8) (hs : a.eval s = v) (hv : Rd w v l) (hl : 0 < l.length) (k : Nat) (hk : k = Nat.min l.length dLen)
    (cur : List Value) (t : TypeId) (hg : RowV w g t cur) (hfit : off + k ≤ cur.length)
    (h : ∀ w', Hid (RowV w' g t (splice cur off (bytesV (l.take k)))) → Hid (w.grownBy w' (some g)) → K (a.put o.dst (goInt k)) w') :
    if Region.wanted o (yielded ops a.tmps) = true then Oper.wp P o a w K Q else E := by
  have hw : Region.wanted o (yielded ops a.tmps) = true := by simp [Region.wanted, hgd]
  rw [if_pos hw]
  obtain ⟨b, off', c, rfl, _, _, hcell⟩ := hv.at hl
  have hkl : (bytesV (l.take k)).length = k := by
    have : k ≤ l.length := by rw [hk]; exact Nat.min_le_left _ _
    rw [bytesV_length]; simp; omega
  have hrun := run_copy_row (P := P) w dT sT o.type elem g off dLen dCap ⟨b, off', none⟩ l.length c cur.toArray t (bytesV (l.take k)) hu hsz hg (by rw [hkl, hk]) (fun j u hj => by
    obtain ⟨hj', rfl⟩ := bytesV_get _ j u hj
    rw [Addr.add_lit]
    simp at hj'
    rw [hcell j (by omega)]
    simp) (by simp [hkl]; omega) (bytesV_oneCell _)
  rw [hkl] at hrun
  unfold Oper.wp
  simp [execOp, ho, resolve, invoke, builtin, hd, hs, hrun, Result.andThen]
  refine h _ ?_ ⟨rfl, rfl, rfl, by simp [World.setRow], fun i _ hi => setRow_other w g i _ (fun e => hi (by rw [e]))⟩
  show (w.setRow g _).heap[g]? = some (.cells (splice cur off (bytesV (l.take k))).toArray t (0, 0))
  rw [splice, hkl]
  exact setRow_heap w g _ _ t _ hg

/-- 'make([]byte, n, 72)'. -/
theorem run_make_u8c {P : Program} (t e : TypeId) (ht : P.underlying t = some (.slice e)) (hi : (P.info? e).map (fun i => (i.zero, i.size, i.bytes)) = some (some (.int .u8 0), 1, 1)) (kl kc : IntKind) (n : Nat) (hn : n ≤ 72) (N : Int) (hN : N = (n : Int)) (w : World) :
    (Instr.makeSlice t (.int kl N) (.int kc 72)).run P w = .ok (.slice (some ⟨w.heap.size, 0, none⟩) n 72) (w.alloc (.cells (bytesV zeros72).toArray e (0, 0))) := by
  subst hN
  obtain ⟨i, h1, h2, h3, h4⟩ := info_parts hi
  have := run_make (P := P) w t e i _ ht h1 h2 kl kc (n : Int) 72 (by omega) (by omega) (by rw [h4]; omega) (by omega)
  rw [this, h3]
  simp only [Int.toNat_natCast]
  have hz := madeCells_u8 72
  rw [show (72 : Int).toNat = 72 from rfl, hz]
  rfl
/-- A whole row stored. -/
theorem wpList_store_rowV {P : Program} {ops : Array Oper} {rest : List Oper} {o : Oper} {a : Act} {w : World} {Q : Exit → Act → World → Prop} (hgd : o.guard = none) (ty : TypeId) (x y : Operand) (ho : o.op = .store ty x y)
    (g : Nat) (cells old : List Value) (t : TypeId) (hx : a.eval x = .pointer (some ⟨g, 0, none⟩)) (hy : a.eval y = .agg cells.toArray)
    (hg : RowV w g t old) (hi : (P.info? ty).map (·.size) = some cells.length) (hold : old.length = cells.length) (h1 : ∀ v ∈ cells, v.oneCell' = true)
    (h : ∀ w', Hid (RowV w' g t cells) → Hid (w.grownBy w' (some g)) → wpList P ops Q rest (a.put o.dst undef) w') : wpList P ops Q (o :: rest) a w := by
  refine wpList_store_row hgd ty x y ho g cells.toArray hx hy t old.toArray hg (by simpa using hi) (by simpa using hold) (Array.all_eq_true_iff_forall_mem.2 (fun v hv => h1 v (by simpa using hv))) (h _ ?_ ?_)
  · exact setRow_heap w g _ _ t _ hg
  · exact ⟨rfl, rfl, rfl, by simp [World.setRow], fun i _ hi => setRow_other w g i _ (fun e => hi (by rw [e]))⟩
/-- A whole row read. -/
theorem wpList_load_rowV {P : Program} {ops : Array Oper} {rest : List Oper} {o : Oper} {a : Act} {w : World} {Q : Exit → Act → World → Prop} (hgd : o.guard = none) (ty : TypeId) (x : Operand) (ho : o.op = .load ty x)
    (g : Nat) (cells : List Value) (t : TypeId) (hx : a.eval x = .pointer (some ⟨g, 0, none⟩)) (d : TypeDesc) (hg : RowV w g t cells)
    (hu : P.underlying ty = some d) (hd : (match d with | .struct _ | .array _ _ => true | _ => false) = true) (hi : (P.info? ty).map (·.size) = some cells.length)
    (h : wpList P ops Q rest (a.put o.dst (.agg cells.toArray)) w) : wpList P ops Q (o :: rest) a w :=
  wpList_load_row hgd ty x ho g hx t cells.toArray (0, 0) d hg hu hd (by simpa using hi) h
/-- 'b[i:]'. -/
theorem run_slice_from {P : Program} (t e : TypeId) (ht : P.underlying t = some (.slice e)) (hz : (P.info? e).map (·.size) = some 1) (p : Option Addr) (n c i : Nat) (hi : i ≤ n) (k : IntKind) (w : World) :
    (Instr.slice t (.slice p n c) (some (.int k (i : Int))) none none).run P w = .ok (sliced p i n c 1) w := by
  cases hq : P.info? e with
  | none => simp [hq] at hz
  | some inf =>
    have hs : inf.size = 1 := by simpa [hq] using hz
    simp [Instr.slice, run_underlying ht, Instr.sliceBounds, run_sliceBound, sizeOf, typeInfo, hq, hs, hi, sliced]
theorem sliced_own {p : Option Addr} {i n c k : Nat} (h : (sliced p i n c 1).ownBlock = some k) : ∃ a, p = some a ∧ a.block = k := by
  unfold sliced at h
  cases p with
  | none => simp [Value.ownBlock] at h
  | some a =>
    refine ⟨a, rfl, ?_⟩
    by_cases e : c = i
    · simp [e, Value.ownBlock] at h
      exact h
    · simp only [if_neg e, Option.map_some, Value.ownBlock] at h
      have hb : (a.add (i * 1)).block = a.block := by unfold Addr.add; split <;> rfl
      rw [hb] at h
      simpa using h
end Go.FL

/- Chunks as bytes: written and read. Conditions: none. No program in sight. -/
import Derived.Test.YtfiblhdejglpaaaNumMath
namespace Go.FL

/-- A chunk: its kind, its flags, its body. -/
structure Chk where
  k : UInt8
  f : UInt8
  b : List UInt8
theorem Chk.ext' {c d : Chk} (h1 : c.k = d.k) (h2 : c.f = d.f) (h3 : c.b = d.b) : c = d := by
  cases c; cases d; simp_all
def Chk.zero : Chk := ⟨0, 0, []⟩
def Chk.head (c : Chk) : List UInt8 := [c.k, c.f] ++ beBytes 2 (4 + c.b.length)
def Chk.raw (c : Chk) : List UInt8 := c.head ++ c.b
def Chk.bytes (c : Chk) : List UInt8 := if 65531 < c.b.length then [] else padded c.raw
theorem Chk.head_length (c : Chk) : c.head.length = 4 := by simp [Chk.head, beBytes_length]
theorem Chk.raw_length (c : Chk) : c.raw.length = 4 + c.b.length := by simp [Chk.raw, Chk.head_length]
theorem Chk.bytes_length (c : Chk) (h : c.b.length ≤ 65531) : c.bytes.length = roundN (4 + c.b.length) := by
  rw [Chk.bytes, if_neg (by omega), padded_length, Chk.raw_length]
theorem Chk.bytes_pos (c : Chk) (h : c.b.length ≤ 65531) : 4 + c.b.length ≤ c.bytes.length ∧ c.bytes.length ≤ 7 + c.b.length ∧ c.bytes.length % 4 = 0 := by
  rw [c.bytes_length h]
  have := roundN_le (4 + c.b.length)
  have := roundN_lt (4 + c.b.length)
  exact ⟨by omega, by omega, roundN_mod _⟩
theorem Chk.bytes_big (c : Chk) (h : 65531 < c.b.length) : c.bytes = [] := by rw [Chk.bytes, if_pos h]

/-- What the length of a chunk says. -/
def chkLen (l : List UInt8) : Nat := beVal ((l.drop 2).take 2)
theorem chkLen_lt (l : List UInt8) : chkLen l < 65536 := by
  have h := beVal_lt ((l.drop 2).take 2)
  have h1 : ((l.drop 2).take 2).length ≤ 2 := List.length_take_le _ _
  exact Nat.lt_of_lt_of_le h (Nat.pow_le_pow_right (by decide) h1)
def chkPad (l : List UInt8) : List UInt8 := (l.drop (chkLen l)).take (roundN (chkLen l) - chkLen l)
/-- Does a chunk stand at the head of these bytes? -/
def chkOk (l : List UInt8) : Bool := decide (4 ≤ l.length ∧ 4 ≤ chkLen l ∧ roundN (chkLen l) ≤ l.length ∧ ∀ b ∈ chkPad l, b = 0)
def chkOf (l : List UInt8) : Chk := ⟨l.getD 0 0, l.getD 1 0, (l.drop 4).take (chkLen l - 4)⟩
/-- How many bytes it has. -/
def chkSize (l : List UInt8) : Nat := roundN (chkLen l)
theorem chkOf_len (l : List UInt8) (h4 : 4 ≤ chkLen l) (hl : chkLen l ≤ l.length) : (chkOf l).b.length = chkLen l - 4 := by
  simp [chkOf]
  omega
theorem chkOf_raw (l : List UInt8) (h4 : 4 ≤ chkLen l) (hl : chkLen l ≤ l.length) : (chkOf l).raw = l.take (chkLen l) := by
  have hb := chkOf_len l h4 hl
  have h2 : beBytes 2 (4 + (chkOf l).b.length) = (l.drop 2).take 2 := by
    rw [hb, show 4 + (chkLen l - 4) = chkLen l by omega]
    exact beBytes_val 2 _ (by simp; omega)
  rw [Chk.raw, Chk.head, h2]
  have h0 : [(chkOf l).k, (chkOf l).f] = l.take 2 := by
    match l, hl with
    | a :: b :: r, _ => rfl
    | [a], h => simp at h; omega
    | [], h => simp at h; omega
  have h6 : l.take 2 ++ (l.drop 2).take 2 = l.take 4 := by rw [← List.take_add]
  have h7 : l.take 4 ++ (l.drop 4).take (chkLen l - 4) = l.take (chkLen l) := by rw [← List.take_add, show 4 + (chkLen l - 4) = chkLen l by omega]
  rw [h0, h6]
  exact h7
theorem pad_all (l : List UInt8) (h : ∀ b ∈ l, b = 0) : l = List.replicate l.length 0 := List.eq_replicate_of_mem h
theorem take_more {α : Type} (l : List α) (n r : Nat) (h : n ≤ r) : l.take r = l.take n ++ (l.drop n).take (r - n) := by
  rw [← List.take_add, show n + (r - n) = r by omega]
/-- What a chunk's bytes are, if its length is within. -/
theorem chkOf_bytes (l : List UInt8) (h4 : 4 ≤ chkLen l) (hl : chkLen l ≤ l.length) : (chkOf l).bytes = l.take (chkLen l) ++ List.replicate (chkSize l - chkLen l) 0 := by
  have hlt := chkLen_lt l
  have hb := chkOf_len l h4 hl
  have hlen : (l.take (chkLen l)).length = chkLen l := by simp; omega
  rw [Chk.bytes, if_neg (by omega), padded, chkOf_raw l h4 hl, hlen]
  rfl
/-- A chunk that is read is the one whose bytes these are. -/
theorem chkOk_bytes (l : List UInt8) (h : chkOk l = true) : (chkOf l).bytes = l.take (chkSize l) ∧ chkSize l ≤ l.length ∧ (chkOf l).b.length ≤ 65531 := by
  simp only [chkOk, decide_eq_true_eq] at h
  obtain ⟨h1, h2, h3, h4⟩ := h
  have hr := roundN_le (chkLen l)
  have hlt := chkLen_lt l
  have hpl : (chkPad l).length = chkSize l - chkLen l := by
    simp only [chkPad, List.length_take, List.length_drop, chkSize]
    omega
  refine ⟨?_, h3, by rw [chkOf_len l h2 (by omega)]; omega⟩
  rw [chkOf_bytes l h2 (by omega), take_more l (chkLen l) (chkSize l) hr]
  congr 1
  have := pad_all _ h4
  rw [hpl] at this
  exact this.symm
/-- The document's way to read. -/
theorem chkOk_ref (l : List UInt8) (h1 : 4 ≤ l.length) (h2 : 4 ≤ chkLen l) (h3 : chkLen l ≤ l.length) : chkOk l = true ↔ (chkOf l).bytes.length ≤ l.length ∧ (chkOf l).bytes = l.take (chkOf l).bytes.length := by
  have hb := chkOf_bytes l h2 h3
  have hr : chkLen l ≤ chkSize l := roundN_le (chkLen l)
  have hlen : (chkOf l).bytes.length = chkSize l := by
    rw [hb]
    simp
    omega
  rw [hlen]
  constructor
  · intro h
    have := chkOk_bytes l h
    exact ⟨this.2.1, this.1⟩
  · rintro ⟨h5, h6⟩
    rw [hb, take_more l (chkLen l) (chkSize l) hr] at h6
    have h7 := List.append_cancel_left h6
    simp only [chkOk, decide_eq_true_eq]
    refine ⟨h1, h2, h5, ?_⟩
    intro b hbm
    have : chkPad l = List.replicate (chkSize l - chkLen l) 0 := h7.symm
    rw [this] at hbm
    exact (List.mem_replicate.1 hbm).2
/-- The head of a chunk's bytes, whatever stands behind. -/
theorem chkLen_head (c : Chk) (m : List UInt8) (h : c.b.length ≤ 65531) : chkLen (c.head ++ m) = 4 + c.b.length := by
  have : ((c.head ++ m).drop 2).take 2 = beBytes 2 (4 + c.b.length) := by
    rw [Chk.head, List.append_assoc]
    exact mid_of [c.k, c.f] _ m 2 2 rfl (beBytes_length _ _)
  rw [chkLen, this]
  exact beVal_of 2 _ (by omega)
theorem Chk.bytes_head (c : Chk) (h : c.b.length ≤ 65531) : c.bytes = c.head ++ (c.b ++ List.replicate (roundN (4 + c.b.length) - (4 + c.b.length)) 0) := by
  rw [Chk.bytes, if_neg (by omega), padded, Chk.raw_length, Chk.raw, List.append_assoc]
/-- A chunk that is written is read, whatever stands behind it. -/
theorem chk_back (c : Chk) (m : List UInt8) (h : c.b.length ≤ 65531) : chkOk (c.bytes ++ m) = true ∧ chkOf (c.bytes ++ m) = c ∧ chkSize (c.bytes ++ m) = c.bytes.length := by
  have hh := c.head_length
  have hlen := c.bytes_length h
  have hp := c.bytes_pos h
  have hbh := c.bytes_head h
  have hl : chkLen (c.bytes ++ m) = 4 + c.b.length := by
    rw [hbh, List.append_assoc]
    exact chkLen_head c _ h
  have hsz : chkSize (c.bytes ++ m) = c.bytes.length := by rw [chkSize, hl, hlen]
  refine ⟨?_, ?_, hsz⟩
  · simp only [chkOk, decide_eq_true_eq]
    refine ⟨by simp; omega, by omega, by rw [hl, ← hlen]; simp, ?_⟩
    have : chkPad (c.bytes ++ m) = List.replicate (roundN (4 + c.b.length) - (4 + c.b.length)) 0 := by
      rw [chkPad, hl, hbh, ← List.append_assoc, List.append_assoc (c.head ++ c.b)]
      exact mid_of (c.head ++ c.b) _ m _ _ (by simp; omega) (by simp)
    rw [this]
    intro b hb
    exact (List.mem_replicate.1 hb).2
  · have hb : (((c.bytes ++ m).drop 4).take (4 + c.b.length - 4)) = c.b := by
      rw [hbh, List.append_assoc, List.append_assoc]
      exact mid_of c.head c.b _ _ _ hh (by omega)
    have h0 : (c.bytes ++ m).getD 0 0 = c.k := by rw [hbh]; rfl
    have h1 : (c.bytes ++ m).getD 1 0 = c.f := by rw [hbh]; rfl
    apply Chk.ext'
    · exact h0
    · exact h1
    · show ((c.bytes ++ m).drop 4).take (chkLen (c.bytes ++ m) - 4) = c.b
      rw [hl, hb]
/-- A chunk that is cut is none. -/
theorem chk_cut (c : Chk) (k : Nat) (h : c.b.length ≤ 65531) (hk : k < c.bytes.length) : chkOk (c.bytes.take k) = false := by
  rw [Bool.eq_false_iff]
  intro ht
  simp only [chkOk, decide_eq_true_eq] at ht
  obtain ⟨h1, h2, h3, _⟩ := ht
  have hlen : (c.bytes.take k).length = k := by simp; omega
  rw [hlen] at h1 h3
  have hl : chkLen (c.bytes.take k) = 4 + c.b.length := by
    have e : c.bytes.take k = c.head ++ (c.b ++ List.replicate (roundN (4 + c.b.length) - (4 + c.b.length)) 0).take (k - 4) := by
      rw [c.bytes_head h, List.take_append, c.head_length, List.take_of_length_le (by rw [c.head_length]; omega)]
    rw [e]
    exact chkLen_head c _ h
  rw [hl, ← c.bytes_length h] at h3
  omega
end Go.FL

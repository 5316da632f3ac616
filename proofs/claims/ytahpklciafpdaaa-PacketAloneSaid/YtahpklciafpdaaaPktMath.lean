/- Packets as bytes: plain laws. Conditions: none. No program in sight. -/
import Derived.Test.YtahpklciafpdaaaBaseB
set_option linter.unusedSimpArgs false
set_option linter.unusedVariables false
namespace Go.FL

def aloneB (k : UInt8) : Bool := decide (k = 1) || (decide (k = 2) || decide (k = 14))
/-- May a chunk not stand among so many? -/
def wrongB (n : Nat) (c : Chk) : Bool := decide (65531 < c.b.length) || (aloneB c.k && decide (1 < n))
def mayB (cs : List Chk) : Bool := decide (0 < cs.length) && !(cs.any (wrongB cs.length))
structure Pkt where
  tag : Nat
  cs : List Chk
def Pkt.zero : Pkt := ⟨0, []⟩
def chunksB (cs : List Chk) : List UInt8 := (cs.map Chk.bytes).flatten
theorem chunksB_cons (c : Chk) (cs : List Chk) : chunksB (c :: cs) = c.bytes ++ chunksB cs := rfl
theorem chunksB_append (cs ds : List Chk) : chunksB (cs ++ ds) = chunksB cs ++ chunksB ds := by simp [chunksB]
theorem chunksB_take (cs : List Chk) (j : Nat) (h : j < cs.length) : chunksB (cs.take (j + 1)) = chunksB (cs.take j) ++ cs[j].bytes := by
  rw [List.take_succ_eq_append_getElem h, chunksB_append]
  simp [chunksB]
def pktHead (tag : Nat) : List UInt8 := beBytes 2 5000 ++ (beBytes 2 5000 ++ beBytes 4 tag)
theorem pktHead_length (tag : Nat) : (pktHead tag).length = 8 := by simp [pktHead, beBytes_length]
def Pkt.laid (p : Pkt) (s : Nat) : List UInt8 := pktHead p.tag ++ (beBytes 4 s ++ chunksB p.cs)
theorem Pkt.laid_length (p : Pkt) (s : Nat) : (p.laid s).length = 12 + (chunksB p.cs).length := by
  simp [Pkt.laid, pktHead_length, beBytes_length]
  omega
/-- Bytes with noughts where the sum stands. -/
def bareB (b : List UInt8) : List UInt8 := b.take 8 ++ ([0, 0, 0, 0] ++ b.drop 12)
def sumB (b : List UInt8) : Nat := (crcExt 0#32 (bareB b)).toNat
theorem sumB_lt (b : List UInt8) : sumB b < 4294967296 := (crcExt 0#32 (bareB b)).isLt
theorem be4_zero : beBytes 4 0 = [0, 0, 0, 0] := by decide
theorem bareB_laid (p : Pkt) (s : Nat) : bareB (p.laid s) = p.laid 0 := by
  unfold bareB Pkt.laid
  have h1 : (pktHead p.tag).length = 8 := pktHead_length _
  have h2 : (beBytes 4 s).length = 4 := beBytes_length _ _
  rw [List.take_append, List.take_of_length_le (by omega), h1, show 8 - 8 = 0 by omega, List.take_zero, List.append_nil, List.drop_append, List.drop_eq_nil_of_le (by omega), h1, List.nil_append, List.drop_append, List.drop_eq_nil_of_le (by omega), h2, be4_zero]
  simp
theorem sumB_laid (p : Pkt) (s : Nat) : sumB (p.laid s) = (crcExt 0#32 (p.laid 0)).toNat := by rw [sumB, bareB_laid]
/-- The packet's sum. -/
def Pkt.sum (p : Pkt) : Nat := (crcExt 0#32 (p.laid 0)).toNat
theorem Pkt.sum_lt (p : Pkt) : p.sum < 4294967296 := (crcExt 0#32 (p.laid 0)).isLt
def Pkt.bytes (p : Pkt) : List UInt8 := if mayB p.cs = true then p.laid p.sum else []
def sizeC (c : Chk) : Nat := 4 + roundN c.b.length
def sizesN (cs : List Chk) : Nat := (cs.map sizeC).sum
def Pkt.size (p : Pkt) : Nat := 12 + sizesN p.cs
theorem sizesN_cons (c : Chk) (cs : List Chk) : sizesN (c :: cs) = sizeC c + sizesN cs := by simp [sizesN]
theorem sizesN_append (cs ds : List Chk) : sizesN (cs ++ ds) = sizesN cs + sizesN ds := by simp [sizesN]
theorem sizesN_take (cs : List Chk) (j : Nat) (h : j < cs.length) : sizesN (cs.take (j + 1)) = sizesN (cs.take j) + sizeC cs[j] := by
  rw [List.take_succ_eq_append_getElem h, sizesN_append]
  simp [sizesN]
theorem sizeC_bytes (c : Chk) (h : c.b.length ≤ 65531) : c.bytes.length = sizeC c := by
  rw [c.bytes_length h, sizeC]
  unfold roundN
  omega
theorem chunksB_length : ∀ (cs : List Chk), (∀ c ∈ cs, c.b.length ≤ 65531) → (chunksB cs).length = sizesN cs
  | [], _ => rfl
  | c :: cs, h => by
    rw [chunksB_cons, List.length_append, sizesN_cons, sizeC_bytes c (h c (by simp)), chunksB_length cs (fun d hd => h d (by simp [hd]))]
theorem mayB_small {cs : List Chk} (h : mayB cs = true) : 0 < cs.length ∧ ∀ c ∈ cs, c.b.length ≤ 65531 := by
  unfold mayB at h
  simp only [Bool.and_eq_true, decide_eq_true_eq, Bool.not_eq_true', List.any_eq_false] at h
  refine ⟨h.1, fun c hc => ?_⟩
  have := h.2 c hc
  unfold wrongB at this
  simp at this
  exact this.1
theorem Pkt.bytes_length (p : Pkt) (h : mayB p.cs = true) : p.bytes.length = p.size := by
  rw [Pkt.bytes, if_pos h, Pkt.laid_length, chunksB_length _ (mayB_small h).2, Pkt.size]
/-- The chunks of bytes, one behind the other, as far as they are right; whether all of them are. -/
def parse : Nat → List UInt8 → List Chk × Bool
  | 0, l => ([], decide (l = []))
  | n + 1, l => if l = [] then ([], true) else if chkOk l = true then (chkOf l :: (parse n (l.drop (chkSize l))).1, (parse n (l.drop (chkSize l))).2) else ([], false)
theorem chkSize_pos (l : List UInt8) (h : chkOk l = true) : 4 ≤ chkSize l ∧ chkSize l ≤ l.length := by
  have h2 := (chkOk_bytes l h).2.1
  simp only [chkOk, decide_eq_true_eq] at h
  obtain ⟨_, h4, _, _⟩ := h
  exact ⟨Nat.le_trans h4 (roundN_le _), h2⟩
theorem parse_fuel : ∀ (n m : Nat) (l : List UInt8), l.length ≤ n → l.length ≤ m → parse n l = parse m l
  | 0, 0, _, _, _ => rfl
  | 0, m + 1, l, h, _ => by
    have : l = [] := List.length_eq_zero_iff.1 (by omega)
    subst this
    simp [parse]
  | n + 1, 0, l, _, h => by
    have : l = [] := List.length_eq_zero_iff.1 (by omega)
    subst this
    simp [parse]
  | n + 1, m + 1, l, h1, h2 => by
    unfold parse
    by_cases e : l = []
    · simp [e]
    · rw [if_neg e, if_neg e]
      by_cases k : chkOk l = true
      · rw [if_pos k, if_pos k]
        have := chkSize_pos l k
        rw [parse_fuel n m (l.drop (chkSize l)) (by rw [List.length_drop]; omega) (by rw [List.length_drop]; omega)]
      · rw [if_neg k, if_neg k]
def chunksOf (l : List UInt8) : List Chk × Bool := parse l.length l
theorem chunksOf_nil : chunksOf [] = ([], true) := rfl
theorem chunksOf_ok (l : List UInt8) (h0 : l ≠ []) (h : chkOk l = true) : chunksOf l = (chkOf l :: (chunksOf (l.drop (chkSize l))).1, (chunksOf (l.drop (chkSize l))).2) := by
  have hs := chkSize_pos l h
  have hl : 0 < l.length := List.length_pos_iff.2 h0
  obtain ⟨n, hn⟩ : ∃ n, l.length = n + 1 := ⟨l.length - 1, by omega⟩
  have e1 : chunksOf l = parse (n + 1) l := by rw [chunksOf, hn]
  have e2 : chunksOf (l.drop (chkSize l)) = parse n (l.drop (chkSize l)) := parse_fuel _ _ _ (Nat.le_refl _) (by rw [List.length_drop]; omega)
  rw [e1, e2, parse, if_neg h0, if_pos h]
theorem chunksOf_bad (l : List UInt8) (h0 : l ≠ []) (h : ¬ chkOk l = true) : chunksOf l = ([], false) := by
  have hl : 0 < l.length := List.length_pos_iff.2 h0
  obtain ⟨n, hn⟩ : ∃ n, l.length = n + 1 := ⟨l.length - 1, by omega⟩
  have e1 : chunksOf l = parse (n + 1) l := by rw [chunksOf, hn]
  rw [e1, parse, if_neg h0, if_neg h]
theorem parse_bytes : ∀ (n : Nat) (l : List UInt8), l.length ≤ n → (parse n l).2 = true → chunksB (parse n l).1 = l ∧ ∀ c ∈ (parse n l).1, c.b.length ≤ 65531
  | 0, l, h, _ => by
    have : l = [] := List.length_eq_zero_iff.1 (by omega)
    subst this
    exact ⟨rfl, fun c hc => by simp [parse] at hc⟩
  | n + 1, l, hl, h => by
    unfold parse at h ⊢
    by_cases e : l = []
    · subst e
      simp [chunksB]
    · rw [if_neg e] at h ⊢
      by_cases k : chkOk l = true
      · rw [if_pos k] at h ⊢
        have hs := chkSize_pos l k
        obtain ⟨b1, b2, b3⟩ := chkOk_bytes l k
        obtain ⟨i1, i2⟩ := parse_bytes n (l.drop (chkSize l)) (by rw [List.length_drop]; omega) h
        refine ⟨?_, fun c hc => ?_⟩
        · show chunksB (chkOf l :: _) = l
          rw [chunksB_cons, i1, b1, List.take_append_drop]
        · simp only [List.mem_cons] at hc
          rcases hc with rfl | hc
          · exact b3
          · exact i2 c hc
      · rw [if_neg k] at h
        simp at h
theorem chunksOf_bytes (l : List UInt8) (h : (chunksOf l).2 = true) : chunksB (chunksOf l).1 = l ∧ ∀ c ∈ (chunksOf l).1, c.b.length ≤ 65531 := parse_bytes _ l (Nat.le_refl _) h
theorem chunksOf_back : ∀ (cs : List Chk), (∀ c ∈ cs, c.b.length ≤ 65531) → chunksOf (chunksB cs) = (cs, true)
  | [], _ => rfl
  | c :: cs, h => by
    have hc := h c (by simp)
    obtain ⟨h1, h2, h3⟩ := chk_back c (chunksB cs) hc
    have hp := (c.bytes_pos hc).1
    have h0 : c.bytes ++ chunksB cs ≠ [] := by
      intro e
      have := congrArg List.length e
      rw [List.length_append, List.length_nil] at this
      omega
    rw [chunksB_cons, chunksOf_ok _ h0 h1, h2, h3, List.drop_left, chunksOf_back cs (fun d hd => h d (by simp [hd]))]
theorem chunksOf_len : ∀ (n : Nat) (l : List UInt8), l.length ≤ n → 4 * (parse n l).1.length ≤ l.length
  | 0, l, _ => by simp [parse]
  | n + 1, l, hl => by
    unfold parse
    by_cases e : l = []
    · subst e
      simp
    · rw [if_neg e]
      by_cases k : chkOk l = true
      · rw [if_pos k]
        have hs := chkSize_pos l k
        have := chunksOf_len n (l.drop (chkSize l)) (by rw [List.length_drop]; omega)
        rw [List.length_drop] at this
        simp only [List.length_cons]
        omega
      · rw [if_neg k]
        simp
/-- What Read tells of bytes. -/
def readP (b : List UInt8) : Pkt × Int :=
  if b.length < 12 then (.zero, 7)
  else if numAt b 8 4 = sumB b then
    if (chunksOf (b.drop 12)).2 = true ∧ (numAt b 0 2 = 5000 ∧ numAt b 2 2 = 5000) ∧ mayB (chunksOf (b.drop 12)).1 = true then (⟨numAt b 4 4, (chunksOf (b.drop 12)).1⟩, 0) else (.zero, 7)
  else (.zero, 8)
theorem numAt_laid (p : Pkt) (ht : p.tag < 4294967296) (s : Nat) (hs : s < 4294967296) : numAt (p.laid s) 0 2 = 5000 ∧ numAt (p.laid s) 2 2 = 5000 ∧ numAt (p.laid s) 4 4 = p.tag ∧ numAt (p.laid s) 8 4 = s := by
  have e : p.laid s = beBytes 2 5000 ++ (beBytes 2 5000 ++ (beBytes 4 p.tag ++ (beBytes 4 s ++ chunksB p.cs))) := by simp [Pkt.laid, pktHead]
  rw [e]
  refine ⟨?_, ?_, ?_, ?_⟩
  · have := numAt_be [] (beBytes 2 5000 ++ (beBytes 4 p.tag ++ (beBytes 4 s ++ chunksB p.cs))) 0 2 5000 rfl (by decide)
    simpa using this
  · exact numAt_be (beBytes 2 5000) _ 2 2 5000 (beBytes_length _ _) (by decide)
  · rw [← List.append_assoc]
    exact numAt_be _ _ 4 4 _ (by simp [beBytes_length]) (by omega)
  · rw [← List.append_assoc, ← List.append_assoc]
    exact numAt_be _ _ 8 4 _ (by simp [beBytes_length]) (by omega)
theorem laid_drop (p : Pkt) (s : Nat) : (p.laid s).drop 12 = chunksB p.cs := by
  have e : p.laid s = (pktHead p.tag ++ beBytes 4 s) ++ chunksB p.cs := by simp [Pkt.laid]
  have hl : (pktHead p.tag ++ beBytes 4 s).length = 12 := by simp [pktHead_length, beBytes_length]
  rw [e, List.drop_append, List.drop_eq_nil_of_le (by omega), hl]
  simp
/-- A packet that is written is read. -/
theorem readP_bytes (p : Pkt) (ht : p.tag < 4294967296) (h : mayB p.cs = true) : readP p.bytes = (p, 0) := by
  obtain ⟨n1, n2, n3, n4⟩ := numAt_laid p ht p.sum p.sum_lt
  have hl := p.laid_length p.sum
  rw [Pkt.bytes, if_pos h, readP, if_neg (by omega), n4, sumB_laid, if_pos (show p.sum = (crcExt 0#32 (p.laid 0)).toNat from rfl), laid_drop, chunksOf_back _ (mayB_small h).2, n1, n2, n3, if_pos ⟨rfl, ⟨rfl, rfl⟩, h⟩]
/-- Bytes of which a packet is read are those that are written of it. -/
theorem bytes_split (b : List UInt8) (h : 12 ≤ b.length) (p : Pkt) (hp : p.tag = numAt b 4 4) (hc : chunksB p.cs = b.drop 12) : p.laid (numAt b 8 4) = beBytes 2 5000 ++ (beBytes 2 5000 ++ ((b.drop 4).take 8 ++ b.drop 12)) := by
  have h1 := numAt_bytes b 4 4 (by omega)
  have h2 := numAt_bytes b 8 4 (by omega)
  have h3 : (b.drop 4).take 8 = (b.drop 4).take 4 ++ (b.drop 8).take 4 := by
    rw [show (8 : Nat) = 4 + 4 by rfl, List.take_add, List.drop_drop]
  rw [Pkt.laid, hc, pktHead, hp, h1, h2, h3]
  simp
theorem laid_eq (b : List UInt8) (h : 12 ≤ b.length) (p : Pkt) (hp : p.tag = numAt b 4 4) (hc : chunksB p.cs = b.drop 12) : p.laid (numAt b 8 4) = b ↔ (numAt b 0 2 = 5000 ∧ numAt b 2 2 = 5000) := by
  rw [bytes_split b h p hp hc]
  have e : b = (b.take 2) ++ ((b.drop 2).take 2 ++ ((b.drop 4).take 8 ++ b.drop 12)) := by
    have e1 : b.drop 4 = (b.drop 4).take 8 ++ b.drop 12 := by
      have := (List.take_append_drop 8 (b.drop 4)).symm
      rwa [List.drop_drop] at this
    have e2 : b.drop 2 = (b.drop 2).take 2 ++ b.drop 4 := by
      have := (List.take_append_drop 2 (b.drop 2)).symm
      rwa [List.drop_drop] at this
    rw [← e1, ← e2, List.take_append_drop]
  have n0 := numAt_bytes b 0 2 (by omega)
  have n2 := numAt_bytes b 2 2 (by omega)
  rw [List.drop_zero] at n0
  constructor
  · intro hh
    have hh' := hh.trans e
    have l1 : (beBytes 2 5000).length = 2 := beBytes_length _ _
    have l2 : (b.take 2).length = 2 := by rw [List.length_take]; omega
    have l3 : ((b.drop 2).take 2).length = 2 := by rw [List.length_take, List.length_drop]; omega
    have := List.append_inj hh' (by rw [l1, l2])
    obtain ⟨q1, q2⟩ := this
    have := List.append_inj q2 (by rw [l1, l3])
    have q3 := this.1
    have v1 : numAt b 0 2 = 5000 := by
      unfold numAt
      rw [if_pos (by omega), List.drop_zero, ← q1]
      exact beVal_of 2 5000 (by decide)
    have v2 : numAt b 2 2 = 5000 := by
      unfold numAt
      rw [if_pos (by omega), ← q3]
      exact beVal_of 2 5000 (by decide)
    exact ⟨v1, v2⟩
  · rintro ⟨v1, v2⟩
    rw [v1] at n0
    rw [v2] at n2
    conv => rhs; rw [e]
    rw [← n0, ← n2]
end Go.FL

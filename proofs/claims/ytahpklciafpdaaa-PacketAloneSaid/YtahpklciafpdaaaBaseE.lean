/- Joined: Eq, Roomy, ValRow, ApartMath, Mem2, ChunkOpen. -/
import Derived.Test.YtahpklciafpdaaaRows
import Derived.Test.YtahpklciafpdaaaBaseA
import Derived.BigQuiet
import Derived.Deep.QuietTactic
import Derived.Laws.BytesArg
import Derived.Test.YtahpklciafpdaaaBaseB
import Derived.Lib.SmallJoins
import Derived.ChangeArms
set_option linter.unusedSimpArgs false
set_option linter.unusedVariables false
namespace Go.Proofs.Ytahpklciafpdaaa
open Go.RowKit Go.FL

theorem alike_step (l m : List UInt8) (k : Nat) (hl : k < l.length) (hm : k < m.length) (u : UInt8) (h : u = 0 ↔ l.take k = m.take k) : (u ||| (l[k] ^^^ m[k])) = 0 ↔ l.take (k + 1) = m.take (k + 1) := by
  rw [or_zero, xor_zero8, h, List.take_succ_eq_append_getElem hl, List.take_succ_eq_append_getElem hm]
  constructor
  · rintro ⟨h1, h2⟩; rw [h1, h2]
  · intro h1
    have := List.append_inj h1 (by simp; omega)
    exact ⟨this.1, by simpa using this.2⟩

set_option maxHeartbeats 400000 in
theorem eqBytes_any (v u : Value) (l m : List UInt8) (w : World) (hv : Rd w v l) (hu : Rd w u m) :
    Calls Try.prog 16 #[v, u] w fun e w' => e = .returned (.bool (decide (l = m))) ∧ ∃ n, w' = w.drewN n := by
  obtain ⟨p, c, rfl, hlc, hcm, hpn, hcell⟩ := hv
  obtain ⟨p', c', rfl, hlc', hcm', hpn', hcell'⟩ := hu
  unfold maxLen at hcm hcm'
  by_cases hlen : l.length = m.length
  · have HL := hid hlen
    have hne : ((l.length : Int) != (m.length : Int)) = false := by simp [hlen]
    have hle : l.length ≤ m.length := by omega
    clear hlen
    go_enter Try.func16, Try.ntmps16
    go_wp2
    go_loopw [6, 7] (fun x i wr => ∃ (k : Nat) (u : UInt8), k ≤ l.length ∧ i = .int .i64 k ∧ x = .int .u8 (u.toNat : Int) ∧ Hid (u = 0 ↔ l.take k = m.take k) ∧ ∃ n, wr = w.drewN n) (fun _ i _ => l.length - (intOf i).toNat)
    case atStart => exact ⟨0, 0, Nat.zero_le _, rfl, rfl, by simp [Hid], 0, rfl⟩
    case round =>
      obtain ⟨k, u, hk, rfl, rfl, hu, n, rfl⟩ := hrel
      by_cases hlt : k < l.length
      · have hltm : k < m.length := by omega
        obtain ⟨b, off, rfl, hc⟩ := hcell k hlt
        obtain ⟨b', off', rfl, hc'⟩ := hcell' k hltm
        have i1 : (0 : Int) ≤ (k : Int) := by omega
        have i2 : (k : Int) < (l.length : Int) := by omega
        have i3 : (k : Int) < (m.length : Int) := by omega
        have HA := hid (alike_step l m k hlt hltm u hu.out)
        go_wp2
        go_quiet (fail)
        go_wp2
        go_roundw
        case rel => exact ⟨k + 1, _, by omega, by go_num, by rw [bits_xor8, bits_or8], HA.out, _, rfl⟩
        case measure => simp [intOf]; omega
      · obtain rfl : k = l.length := by omega
        have he : l = m ↔ u = 0 := by
          rw [hu.out, List.take_length, HL.out, List.take_length]
        by_cases h0 : u = 0
        · subst h0
          have hd : decide (l = m) = true := by simpa using he.2 rfl
          clear he hu
          go_wp2
          go_ret
          exact ⟨by rw [hd]; rfl, n, rfl⟩
        · have hd : decide (l = m) = false := by simp [he, h0]
          have hz : ((u.toNat : Int) == 0) = false := by
            have : u.toNat ≠ 0 := fun h => h0 (UInt8.toNat_inj.1 h)
            simp
            omega
          clear he hu h0
          go_wp2
          go_ret
          exact ⟨by rw [hd]; rfl, n, rfl⟩
  · have hne : ((l.length : Int) != (m.length : Int)) = true := by simp; omega
    have hd : decide (l = m) = false := by
      simp only [decide_eq_false_iff_not]
      intro h; exact hlen (by rw [h])
    clear hlen
    go_enter Try.func16, Try.ntmps16
    go_wp2
    go_ret
    exact ⟨by rw [hd]; rfl, 0, rfl⟩
end Go.Proofs.Ytahpklciafpdaaa

namespace Go.Proofs.Ytahpklciafpdaaa
open Go.RowKit Go.FL

theorem infoU8r : (Try.prog.info? 5).map (fun i => (i.zero, i.size, i.bytes)) = some (some (.int .u8 0), 1, 1) := by kernel_rfl

/-- A row that Roomy made, its marks behind it. -/
def Roomed (w : World) (base : Nat) (v : Value) (l : List UInt8) : Prop :=
  ∃ g, base ≤ g ∧ v = .slice (some ⟨g, 0, none⟩) l.length (l.length + 16) ∧ Row w g 5 (l ++ List.replicate 16 90) ∧ l.length + 16 ≤ maxLen
theorem Roomed.mono {w w' : World} {base : Nat} {v : Value} {l : List UInt8} (h : Roomed w base v l) (hb : Below w.heap.size w w') : Roomed w' base v l := by
  obtain ⟨g, h1, h2, h3, h4⟩ := h
  exact ⟨g, h1, h2, h3.mono hb, h4⟩
theorem Roomed.rd {w : World} {base : Nat} {v : Value} {l : List UInt8} (h : Roomed w base v l) : Rd w v l := by
  obtain ⟨g, h1, rfl, h3, h4⟩ := h
  have := h3.rd l.length (l.length + 16) (by simp) (by omega) h4
  simpa using this
theorem Roomed.own {w : World} {base : Nat} {v : Value} {l : List UInt8} (h : Roomed w base v l) : Own w base 5 v l := by
  obtain ⟨g, h1, rfl, h3, h4⟩ := h
  exact .inr ⟨g, List.replicate 16 90, h1, by simp, h3, by simpa using h4⟩
def RetRoomy (w : World) (l : List UInt8) (en : Ending) (w' : World) : Prop :=
  ∃ v', en = .returned v' ∧ Roomed w' w.heap.size v' l ∧ Below w.heap.size w w'

theorem marks_step (n j : Nat) (h : n + j < n + 16) : (List.replicate n (0 : UInt8) ++ (List.replicate j 90 ++ List.replicate (16 - j) 0)).set (n + j) 90 = List.replicate n 0 ++ (List.replicate (j + 1) 90 ++ List.replicate (16 - (j + 1)) 0) := by
  obtain ⟨m, h1, h2⟩ : ∃ m, 16 - j = m + 1 ∧ 16 - (j + 1) = m := ⟨_, by omega, rfl⟩
  rw [h1, h2, List.replicate_succ, List.set_append, List.length_replicate, if_neg (by omega), show n + j - n = j by omega, List.set_append, List.length_replicate, if_neg (by omega), Nat.sub_self, List.set_cons_zero]
  congr 1
  rw [List.replicate_succ', List.append_assoc]
  rfl
theorem marks_at (l : List UInt8) (j : Nat) (h : j < 16) : (l ++ List.replicate 16 (90 : UInt8))[l.length + j]'(by simp; omega) = 90 := by
  rw [List.getElem_append_right (Nat.le_add_right _ _)]
  exact List.getElem_replicate _
theorem fill_step (l m : List UInt8) (k : Nat) (h : k < l.length) : (l.take k ++ (List.replicate (l.length - k) 0 ++ m)).set k l[k] = l.take (k + 1) ++ (List.replicate (l.length - (k + 1)) 0 ++ m) := by
  obtain ⟨j, h1, h2⟩ : ∃ j, l.length - k = j + 1 ∧ l.length - (k + 1) = j := ⟨_, by omega, rfl⟩
  have h3 : (l.take k).length = k := by simp; omega
  rw [h1, h2, List.replicate_succ, List.set_append, h3, if_neg (Nat.lt_irrefl k), Nat.sub_self, List.cons_append, List.set_cons_zero, List.take_succ_eq_append_getElem h, List.append_assoc]
  rfl

set_option maxHeartbeats 400000 in
theorem roomy_any (v : Value) (l : List UInt8) (w : World) (h : Rd w v l) (hs : l.length ≤ 140737488355328) :
    Calls Try.prog 21 #[v] w (RetRoomy w l) := by
  obtain ⟨p, c, rfl, hlc, hcm, hpn, hcell⟩ := h
  unfold maxLen at hcm
  have hmk := run_make_u8 (P := Try.prog) 29 5 Try.underlying29 infoU8r .i64 .i64 (l.length + 16) (by omega)
  have ec : ((l.length + 16 : Nat) : Int) = (l.length : Int) + 16 := by omega
  rw [ec] at hmk
  clear ec
  go_enter Try.func21, Try.ntmps21
  go_wp2
  go_loopw [4] (fun i wr => ∃ j : Nat, j ≤ 16 ∧ i = .int .i64 ((l.length + j : Nat) : Int) ∧ Row wr w.heap.size 5 (List.replicate l.length 0 ++ (List.replicate j 90 ++ List.replicate (16 - j) 0)) ∧ Below w.heap.size w wr) (fun i _ => l.length + 16 - (intOf i).toNat)
  case atStart => exact ⟨0, Nat.zero_le _, rfl, by rw [show (List.replicate l.length (0 : UInt8) ++ (List.replicate 0 90 ++ List.replicate (16 - 0) 0)) = List.replicate (l.length + 16) 0 from List.replicate_append_replicate]; exact Row.new w 5 _, (Below.refl _ _).alloc (Nat.le_refl _) _⟩
  case round =>
    obtain ⟨j, hj, rfl, hrow, hb⟩ := hrel
    by_cases hlt : j < 16
    · have hcd := hrow.cell (l.length + j) (by simp; omega)
      have hcf := hrow.frozen (l.length + j)
      have HR := hid (hrow.store (l.length + j) 90)
      have HB := hid (hb.setCell (p := ⟨w.heap.size, l.length + j, none⟩) (Nat.le_refl _) (.int .u8 90))
      clear hcell hmk hrow hb
      go_wp2
      go_roundw
      case rel => exact ⟨j + 1, by omega, by go_num, by rw [← marks_step l.length j (by omega)]; exact HR.out, HB.out⟩
      case measure => simp [intOf]; omega
    · obtain rfl : j = 16 := by omega
      have hrow' : Row wr w.heap.size 5 (l.take 0 ++ (List.replicate (l.length - 0) 0 ++ List.replicate 16 90)) := by simpa using hrow
      clear hrow hmk
      go_wp2
      go_loopw [5] (fun i wr => ∃ k : Nat, k ≤ l.length ∧ i = .int .i64 k ∧ Row wr w.heap.size 5 (l.take k ++ (List.replicate (l.length - k) 0 ++ List.replicate 16 90)) ∧ Below w.heap.size w wr) (fun i _ => l.length - (intOf i).toNat)
      case atStart => exact ⟨0, Nat.zero_le _, rfl, hrow', hb⟩
      case round =>
        clear hrow' hb
        obtain ⟨k, hk, rfl, hrow, hb⟩ := hrel
        by_cases hlt : k < l.length
        · obtain ⟨b, off, rfl, hc⟩ := hcell k hlt
          have hcs := cell?_of_below hb hc
          have hcd := hrow.cell k (by simp; omega)
          have hcf := hrow.frozen k
          have HR := hid (hrow.store k l[k])
          have HB := hid (hb.setCell (p := ⟨w.heap.size, k, none⟩) (Nat.le_refl _) (.int .u8 (l[k].toNat : Int)))
          clear hcell hrow hb hc
          go_wp2
          go_roundw
          case rel => exact ⟨k + 1, by omega, by go_num, by rw [← fill_step l _ k hlt]; exact HR.out, HB.out⟩
          case measure => simp [intOf]; omega
        · obtain rfl : k = l.length := by omega
          go_wp2
          go_ret
          exact ⟨_, rfl, ⟨w.heap.size, Nat.le_refl _, rfl, by simpa using hrow, by unfold maxLen; omega⟩, hb⟩

set_option maxHeartbeats 400000 in
theorem kept_any (v u : Value) (l : List UInt8) (base : Nat) (w : World) (hv : Roomed w base v l) (hu : Rd w u l) :
    Calls Try.prog 24 #[v, u] w fun e w' => e = .returned (.bool true) ∧ ∃ n, w' = w.drewN n := by
  have hv' := hv.rd
  obtain ⟨g, _, rfl, hrow, hm⟩ := hv
  unfold maxLen at hm
  have HV := hid hv'
  clear hv'
  go_enter Try.func24, Try.ntmps24
  go_wp2_with fail
  refine (eqBytes_any _ _ l l _ HV.out hu).mono ?_
  simp only [decide_true]
  rintro e w' ⟨rfl, n, rfl⟩
  go_wp2
  go_loop [6] (fun i => ∃ j : Nat, j ≤ 16 ∧ i = .int .i64 j) (fun i => 16 - (intOf i).toNat)
  case atStart => exact ⟨0, Nat.zero_le _, rfl⟩
  case round =>
    obtain ⟨j, hj, rfl⟩ := hrel
    by_cases hlt : j < 16
    · have hc := hrow.cell (l.length + j) (by simp; omega)
      have h90 : (l ++ List.replicate 16 (90 : UInt8))[l.length + j]'(by simp; omega) = 90 :=
         marks_at l j hlt
      rw [h90] at hc
      clear h90 hrow HV
      go_wp2
      go_round
      case rel => exact ⟨j + 1, by omega, by go_num⟩
      case measure => simp [intOf]; omega
    · obtain rfl : j = 16 := by omega
      go_wp2
      go_ret
      exact ⟨rfl, n, rfl⟩

/-- The same two answers, said by what stays. -/
theorem eqBytes_gr (v u : Value) (l m : List UInt8) (w : World) (hv : Rd w v l) (hu : Rd w u m) :
    Calls Try.prog 16 #[v, u] w fun e w' => e = .returned (.bool (decide (l = m))) ∧ Below w.heap.size w w' :=
  (eqBytes_any v u l m w hv hu).mono fun e w' ⟨h1, n, h2⟩ => ⟨h1, by rw [h2]; exact gr_drewN w n⟩
theorem eqBytes_yes (v u : Value) (l : List UInt8) (w : World) (hv : Rd w v l) (hu : Rd w u l) :
    Calls Try.prog 16 #[v, u] w fun e w' => e = .returned (.bool true) ∧ Below w.heap.size w w' :=
  (eqBytes_gr v u l l w hv hu).mono fun e w' ⟨h1, h2⟩ => ⟨by rw [h1]; simp, h2⟩
theorem eqBytes_no (v u : Value) (l m : List UInt8) (w : World) (hv : Rd w v l) (hu : Rd w u m) (h : l ≠ m) :
    Calls Try.prog 16 #[v, u] w fun e w' => e = .returned (.bool false) ∧ Below w.heap.size w w' :=
  (eqBytes_gr v u l m w hv hu).mono fun e w' ⟨h1, h2⟩ => ⟨by rw [h1]; simp [h], h2⟩
theorem kept_gr (v u : Value) (l : List UInt8) (base : Nat) (w : World) (hv : Roomed w base v l) (hu : Rd w u l) :
    Calls Try.prog 24 #[v, u] w fun e w' => e = .returned (.bool true) ∧ Below w.heap.size w w' :=
  (kept_any v u l base w hv hu).mono fun e w' ⟨h1, n, h2⟩ => ⟨h1, by rw [h2]; exact gr_drewN w n⟩
end Go.Proofs.Ytahpklciafpdaaa

namespace Go.FL
open Go.RowKit

/-- The slice value v reads as the values l in the world w. -/
def RdV (w : World) (v : Value) (l : List Value) : Prop :=
  ∃ p c, v = .slice p l.length c ∧ l.length ≤ c ∧ c ≤ maxLen ∧ (p = none → c = 0) ∧
    (∀ j (_ : j < l.length), ∃ b off, p = some ⟨b, off, none⟩ ∧ w.cell? ⟨b, off + j, none⟩ = some l[j])
theorem RdV.mono {w w' : World} {v : Value} {l : List Value} (h : RdV w v l) (hb : Below w.heap.size w w') : RdV w' v l := by
  obtain ⟨p, c, h1, h2, h3, h4, h5⟩ := h
  exact ⟨p, c, h1, h2, h3, h4, fun j hj => let ⟨b, off, e, hc⟩ := h5 j hj; ⟨b, off, e, cell?_of_below hb hc⟩⟩

/-- v is a row of values of one's own, from block number base on; e: the element's type. -/
def OwnV (w : World) (base e : Nat) (v : Value) (l : List Value) : Prop :=
  (v = .slice none 0 0 ∧ l = []) ∨
  ∃ g sp, base ≤ g ∧ v = .slice (some ⟨g, 0, none⟩) l.length (l.length + List.length sp) ∧ w.heap[g]? = some (.cells (l ++ sp).toArray e (0, 0)) ∧ l.length + sp.length ≤ maxLen
theorem OwnV.nil (w : World) (base e : Nat) : OwnV w base e (.slice none 0 0) [] := .inl ⟨rfl, rfl⟩
theorem OwnV.mono {w w' : World} {base e : Nat} {v : Value} {l : List Value} (h : OwnV w base e v l) (hb : Below w.heap.size w w') : OwnV w' base e v l := by
  rcases h with ⟨rfl, rfl⟩ | ⟨g, sp, h1, rfl, hr, hm⟩
  · exact .inl ⟨rfl, rfl⟩
  · exact .inr ⟨g, sp, h1, rfl, by rw [hb.block g (Array.getElem?_eq_some_iff.1 hr).1, hr], hm⟩
theorem OwnV.alloc {w : World} {base e : Nat} {v : Value} {l : List Value} (h : OwnV w base e v l) (o : Obj) : OwnV (w.alloc o) base e v l :=
  h.mono ((Below.refl _ _).alloc (Nat.le_refl _) o)
theorem OwnV.ge {w : World} {base e : Nat} {v : Value} {l : List Value} (h : OwnV w base e v l) : ∀ k, v.ownBlock = some k → base ≤ k := by
  intro k hk
  rcases h with ⟨rfl, rfl⟩ | ⟨g, sp, h1, rfl, hr, hm⟩
  · simp [Value.ownBlock] at hk
  · simp [Value.ownBlock] at hk; omega
theorem OwnV.rd {w : World} {base e : Nat} {v : Value} {l : List Value} (h : OwnV w base e v l) : RdV w v l := by
  rcases h with ⟨rfl, rfl⟩ | ⟨g, sp, h1, rfl, hr, hm⟩
  · exact ⟨none, 0, rfl, Nat.le_refl _, Nat.zero_le _, fun _ => rfl, fun j h => by simp at h⟩
  · refine ⟨_, _, rfl, by omega, hm, by simp, fun j hj => ⟨g, 0, rfl, ?_⟩⟩
    simp [World.cell?, hr]
    rw [List.getElem?_append_left hj, List.getElem?_eq_getElem hj]
/-- It stays where other blocks change. -/
theorem OwnV.grown {w w' : World} {base e : Nat} {v : Value} {l : List Value} {r : Option Nat} (h : OwnV w base e v l) (hb : w.grownBy w' r) (hr : ∀ k, r = some k → k < base) : OwnV w' base e v l := by
  rcases h with ⟨rfl, rfl⟩ | ⟨g, sp, h1, rfl, hg, hm⟩
  · exact .inl ⟨rfl, rfl⟩
  · refine .inr ⟨g, sp, h1, rfl, ?_, hm⟩
    rw [hb.block g (Array.getElem?_eq_some_iff.1 hg).1 (fun e => by have := hr g e.symm; omega), hg]

theorem rdV_new (w : World) (e : Nat) (l : List Value) (n : Nat) (cs : Array Value) (hn : n = l.length) (hcs : cs = l.toArray) (hm : n ≤ maxLen) : RdV (w.alloc (.cells cs e (0, 0))) (.slice (some ⟨w.heap.size, 0, none⟩) n n) l := by
  subst hn hcs
  have : OwnV (w.alloc (.cells l.toArray e (0, 0))) 0 e (.slice (some ⟨w.heap.size, 0, none⟩) l.length l.length) l := .inr ⟨w.heap.size, [], Nat.zero_le _, by simp, by simpa using heap_alloc_new w _, by simpa using hm⟩
  exact this.rd

theorem zeroCells_one (z : Value) (hz : z.cells = #[z]) (n : Nat) : (Builtin.zeroCells z.cells n).toList = List.replicate n z := by
  apply List.ext_getElem?
  intro i
  simp [Builtin.zeroCells, hz, List.getElem?_replicate]
  by_cases h : i < n <;> simp [h, Nat.mod_one]

/-- 'append(v, x...)': v a row of one's own, x any values, each one cell. -/
theorem run_append_OwnV {P : Program} (w : World) (base : Nat) (t ty e : TypeId) (z : Value) (B : Nat) (hz : z.cells = #[z]) (ht : P.underlying t = some (.slice e)) (hi : (P.info? e).map (fun i => (i.zero, i.size, i.bytes)) = some (some z, 1, B))
    (v x : Value) (l m : List Value) (h1m : ∀ u ∈ m, u.oneCell' = true) (hpos : 0 < m.length) (hown : OwnV w base e v l) (hx : RdV w x m) (hlen : (l.length + m.length) * B ≤ 140737488355328) (hlen2 : l.length + m.length ≤ 140737488355328) (hbase : base ≤ w.heap.size) :
    ∃ v' w', (Builtin.append_ #[t, t] ty #[v, x]).run P w = .ok v' w' ∧ OwnV w' base e v' (l ++ m) ∧ w.grownBy w' v.ownBlock := by
  obtain ⟨i, h1, h2, h3, h4⟩ := info_parts hi
  obtain ⟨p, c, rfl, hmc, hcm, _, hcell0⟩ := hx
  obtain ⟨b, off, rfl, _⟩ := hcell0 0 hpos
  have hnews : ∀ j u, m[j]? = some u → w.cell? ((⟨b, off, none⟩ : Addr).add j) = some u := by
    intro j u hu
    obtain ⟨hj, rfl⟩ := List.getElem?_eq_some_iff.1 hu
    obtain ⟨b', off', e', hc⟩ := hcell0 j hj
    simp at e'
    obtain ⟨rfl, rfl⟩ := e'
    rw [Addr.add_lit]
    exact hc
  have hnl : m.length = m.length * i.size := by rw [h3]; omega
  have grown : ∀ (old : Nat), old < l.length + m.length → ∀ (row : Option Nat),
      OwnV (w.drew.alloc (.cells (l.toArray ++ m.toArray ++ Builtin.zeroCells z.cells (grownCap w (l.length + m.length) old e - (l.length + m.length))) e)) base e
        (.slice (some ⟨w.heap.size, 0, none⟩) (l.length + m.length) (grownCap w (l.length + m.length) old e)) (l ++ m) ∧
      w.grownBy (w.drew.alloc (.cells (l.toArray ++ m.toArray ++ Builtin.zeroCells z.cells (grownCap w (l.length + m.length) old e - (l.length + m.length))) e)) row := by
    intro old _ row
    have hge := grownCap_ge w (l.length + m.length) old e
    have hcm' : grownCap w (l.length + m.length) old e ≤ maxLen := grownCap_le_maxLen w (l.length + m.length) old e (by unfold maxLen; omega)
    refine ⟨.inr ⟨w.heap.size, List.replicate (grownCap w (l.length + m.length) old e - (l.length + m.length)) z, hbase, ?_, ?_, ?_⟩, ⟨rfl, rfl, rfl, by simp, fun k hk _ => Below.heap_alloc w.drew _ k hk⟩⟩
    · simp
      omega
    · have hcs : l.toArray ++ m.toArray ++ Builtin.zeroCells z.cells (grownCap w (l.length + m.length) old e - (l.length + m.length)) = (l ++ m ++ List.replicate (grownCap w (l.length + m.length) old e - (l.length + m.length)) z).toArray := by
        apply Array.ext'
        simp only [Array.toList_append, zeroCells_one z hz]
      rw [hcs]
      exact heap_alloc_new w.drew _
    · simp
      omega
  rcases hown with ⟨rfl, rfl⟩ | ⟨g, sp, hbg, rfl, hrow, hcap⟩
  · have hr := run_append_nil (P := P) w t ty e i z ht h1 h2 ⟨b, off, none⟩ m.length c m hnl hnews hpos (by simp at hlen2; omega) (by rw [h4]; simp at hlen; omega)
    have hgr := grown 0 (by simpa using hpos) (Value.ownBlock (.slice none 0 0))
    simp only [List.length_nil, Nat.zero_add, List.nil_append, Array.empty_append] at hgr ⊢
    exact ⟨_, _, hr, hgr.1, hgr.2⟩
  · by_cases hroom : l.length + m.length ≤ l.length + sp.length
    · have hr := run_append_room (P := P) w t ty e i ht h1 g l.length (l.length + sp.length) (l ++ sp).toArray hrow ⟨b, off, none⟩ m.length c m hnl hnews h1m hroom (by rw [h3]; simp; omega)
      refine ⟨_, _, hr, .inr ⟨g, sp.drop m.length, hbg, ?_, ?_, ?_⟩, ⟨rfl, rfl, rfl, by simp, fun k _ hk => setRow_other w g k _ (fun e => hk (by simp [Value.ownBlock, e]))⟩⟩
      · simp
        omega
      · have hcs : (List.take (l.length * i.size) (l ++ sp).toArray.toList ++ m ++ List.drop (l.length * i.size + m.length) (l ++ sp).toArray.toList) = l ++ m ++ sp.drop m.length := by
          simp only [h3, Nat.mul_one]
          rw [List.take_append_of_le_length (by omega), List.take_of_length_le (by omega), List.drop_append]
          simp
        rw [hcs]
        exact setRow_heap w g _ _ e _ hrow
      · simp
        omega
    · have holds : ∀ j u, l[j]? = some u → w.cell? ((⟨g, 0, none⟩ : Addr).add j) = some u := by
        intro j u hu
        obtain ⟨hj, rfl⟩ := List.getElem?_eq_some_iff.1 hu
        rw [Addr.add_lit, Nat.zero_add]
        simp [World.cell?, hrow, List.getElem_append_left hj, show j < l.length + sp.length by omega]
      have hr := run_append_grow (P := P) w t ty e i z ht h1 h2 ⟨g, 0, none⟩ l.length (l.length + sp.length) l (by rw [h3]; omega) holds ⟨b, off, none⟩ m.length c m hnl hnews (by omega) (by omega) (growslice_fits (by omega) (by rw [h4]; omega))
      have hgr := grown (l.length + sp.length) (by omega) (Value.ownBlock (.slice (some ⟨g, 0, none⟩) l.length (l.length + sp.length)))
      exact ⟨_, _, hr, hgr.1, hgr.2⟩

/-- The same as a step of the walk. -/
theorem wpList_append_OwnV {P : Program} {w : World} {ops : Array Oper} {rest : List Oper} {o : Oper} {a : Act} {Q : Exit → Act → World → Prop} (hgd : o.guard = none) (s x : Operand) (t : TypeId)
    (ho : o.op = .call { callee := .builtin .append, args := #[s, x], argTypes := #[t, t] })
    (base e : Nat) (z : Value) (B : Nat) (hz : z.cells = #[z]) (ht : P.underlying t = some (.slice e)) (hi : (P.info? e).map (fun i => (i.zero, i.size, i.bytes)) = some (some z, 1, B))
    (v u : Value) (l m : List Value) (h1m : ∀ u ∈ m, u.oneCell' = true) (hpos : 0 < m.length) (hs : a.eval s = v) (hown : OwnV w base e v l) (hx : a.eval x = u) (hrd : RdV w u m) (hlen : (l.length + m.length) * B ≤ 140737488355328) (hlen2 : l.length + m.length ≤ 140737488355328) (hbase : base ≤ w.heap.size)
    (h : ∀ v' w', OwnV w' base e v' (l ++ m) → w.grownBy w' v.ownBlock → wpList P ops Q rest (a.put o.dst v') w') : wpList P ops Q (o :: rest) a w := by
  refine wpList_plain hgd fun K hK => ?_
  obtain ⟨v', w', hr, h2, h3⟩ := run_append_OwnV (P := P) w base t o.type e z B hz ht hi v u l m h1m hpos hown hrd hlen hlen2 hbase
  unfold Oper.wp execOp
  simp only [ho, resolve, invoke, builtin, Sem.run_bind, Sem.run_pure, Result.andThen_ok, List.map_toArray, List.map_cons, List.map_nil, hs, hx, hr]
  exact hK _ _ (h v' w' h2 h3)
end Go.FL

namespace Go.FL
open Go.RowKit

/-- A row: its block, its bytes, the bytes of the room behind it. -/
structure ARow where
  g : Option Nat
  l : List UInt8
  s : List UInt8
def ARow.val (r : ARow) : Value := match r.g with
  | none => .slice none r.l.length (r.l.length + r.s.length)
  | some g => .slice (some ⟨g, 0, none⟩) r.l.length (r.l.length + r.s.length)
def ARow.all (r : ARow) : Value := match r.g with
  | none => .slice none (r.l.length + r.s.length) (r.l.length + r.s.length)
  | some g => .slice (some ⟨g, 0, none⟩) (r.l.length + r.s.length) (r.l.length + r.s.length)
theorem ARow.val_eq (r : ARow) : r.val = .slice (r.g.map fun g => ⟨g, 0, none⟩) r.l.length (r.l.length + r.s.length) := by
  obtain ⟨g, l, s⟩ := r
  cases g <;> rfl
theorem ARow.all_eq (r : ARow) : r.all = .slice (r.g.map fun g => ⟨g, 0, none⟩) (r.l.length + r.s.length) (r.l.length + r.s.length) := by
  obtain ⟨g, l, s⟩ := r
  cases g <;> rfl
/-- It lies so in the world w; e: the bytes' type. -/
def ARow.lies (w : World) (e : Nat) (r : ARow) : Prop :=
  r.l.length + r.s.length ≤ maxLen ∧ (r.g = none → r.l = [] ∧ r.s = []) ∧ ∀ g, r.g = some g → Row w g e (r.l ++ r.s)
theorem ARow.lies.mono {w w' : World} {e : Nat} {r : ARow} (h : r.lies w e) (hb : Below w.heap.size w w') : r.lies w' e :=
  ⟨h.1, h.2.1, fun g hg => (h.2.2 g hg).mono hb⟩
theorem ARow.lies.rd {w : World} {e : Nat} {r : ARow} (h : r.lies w e) : Rd w r.val r.l := by
  obtain ⟨g, l, s⟩ := r
  obtain ⟨h1, h2, h3⟩ := h
  cases g with
  | none =>
    obtain ⟨hl, hs⟩ := h2 rfl
    simp at hl hs
    subst hl hs
    exact Rd.nil w
  | some g =>
    have := (h3 g rfl).rd l.length (l.length + s.length) (by simp) (by omega) h1
    simpa [ARow.val] using this
theorem ARow.lies.grown {w w' : World} {e : Nat} {r : ARow} {b : Option Nat} (h : r.lies w e) (hb : w.grownBy w' b) (hr : ∀ k, b = some k → r.g ≠ some k) : r.lies w' e :=
  ⟨h.1, h.2.1, fun g hg => (h.2.2 g hg).grown hb (fun e => hr g e hg)⟩

/-- What string(b) is. -/
def strOf (l : List UInt8) : Value := .string (strOfNums (l.map fun b => (b.toNat : Int)))
theorem run_convert_rd {P : Program} (w : World) (src e dst : TypeId) (hs : P.underlying src = some (.slice e)) (he : P.underlying e = some (.int .u8)) (hd : P.underlying dst = some .string) (v : Value) (l : List UInt8) (h : Rd w v l) :
    (convert src dst v).run P w = .ok (strOf l) w := by
  obtain ⟨p, c, rfl, hlc, hcm, hpn, hcell⟩ := h
  cases p with
  | none =>
    have hl : l = [] := by
      cases l with
      | nil => rfl
      | cons x r => obtain ⟨_, _, e, _⟩ := hcell 0 (by simp); cases e
    subst hl
    exact run_convert_bytes_nil w src e hs he _ _ dst hd
  | some a =>
    by_cases h0 : l = []
    · subst h0
      rw [run_convert_bytes_string w src dst e _ _ c hs he hd]
      simp [Conv.bytesToString, loadCells, loadCellsFrom]
      rfl
    · obtain ⟨b, off, e', _⟩ := hcell 0 (List.length_pos_iff.2 h0)
      simp at e'
      subst e'
      refine run_convert_bytes_arg w src e hs he b off l.length c (l.map fun b => (b.toNat : Int)) (by simp) (fun i hi => ?_) dst hd
      obtain ⟨b', off', e', hc⟩ := hcell i hi
      simp at e'
      obtain ⟨rfl, rfl⟩ := e'
      rw [hc]
      simp [List.getD, hi]

/-- The first k bytes turned. -/
def turned (l : List UInt8) (k : Nat) : List UInt8 := (l.take k).map (~~~ ·) ++ l.drop k
theorem turned_length (l : List UInt8) (k : Nat) : (turned l k).length = l.length := by simp [turned]; omega
theorem turned_zero (l : List UInt8) : turned l 0 = l := by simp [turned]
theorem turned_get (l : List UInt8) (k : Nat) (h : k < l.length) : (turned l k)[k]'(by rw [turned_length]; exact h) = l[k] := by
  simp [turned, Nat.min_eq_left (Nat.le_of_lt h)]
theorem turned_step (l : List UInt8) (k : Nat) (h : k < l.length) : (turned l k).set k (~~~ l[k]) = turned l (k + 1) := by
  have h3 : ((l.take k).map (~~~ ·)).length = k := by simp; omega
  unfold turned
  rw [List.set_append, h3, if_neg (Nat.lt_irrefl k), Nat.sub_self, List.drop_eq_getElem_cons h, List.set_cons_zero, List.take_succ_eq_append_getElem h, List.map_append, List.append_assoc]
  rfl
theorem turned_all (l : List UInt8) : turned l l.length = l.map (~~~ ·) := by simp [turned]
theorem turned_back (l : List UInt8) : turned (turned l l.length) l.length = l := by
  rw [turned_all]
  have : l.length = (l.map (~~~ ·)).length := by simp
  rw [this, turned_all, List.map_map]
  conv => rhs; rw [← List.map_id l]
  apply List.map_congr_left
  intro x _
  simp

/-- The world w with the row's bytes turned so far; nothing else is another one. -/
def Turned (w w' : World) (e : Nat) (r : ARow) (m : List UInt8) : Prop := w.grownBy w' r.g ∧ ∀ g, r.g = some g → Row w' g e m
theorem Turned.start {w : World} {e : Nat} {r : ARow} (h : r.lies w e) : Turned w w e r (r.l ++ r.s) :=
  ⟨⟨rfl, rfl, rfl, Nat.le_refl _, fun _ _ _ => rfl⟩, h.2.2⟩
theorem Turned.back {w w' : World} {e : Nat} {r : ARow} (h : r.lies w e) (k : Turned w w' e r (r.l ++ r.s)) : Below w.heap.size w w' := by
  refine ⟨k.1.os, k.1.tape, k.1.output, k.1.size, fun i hi => ?_⟩
  by_cases hg : r.g = some i
  · have h1 := h.2.2 i hg
    have h2 := k.2 i hg
    unfold Row at h1 h2
    rw [h1, h2]
  · exact k.1.block i hi (fun e => hg e.symm)
theorem Turned.store {w w' : World} {e : Nat} {r : ARow} {m : List UInt8} (k : Turned w w' e r m) (g : Nat) (hg : r.g = some g) (j : Nat) (b : UInt8) : Turned w (w'.setCell ⟨g, j, none⟩ (.int .u8 (b.toNat : Int))) e r (m.set j b) := by
  refine ⟨⟨k.1.os, k.1.tape, k.1.output, ?_, fun i hi hne => ?_⟩, fun g' hg' => ?_⟩
  · have := k.1.size
    simpa [World.setCell] using this
  · have hne' : g ≠ i := fun e => hne (by rw [hg, e])
    have := k.1.block i hi hne
    rw [← this]
    exact Below.heap_setCell _ _ _ _ (Ne.symm hne')
  · rw [hg] at hg'
    simp at hg'
    subst hg'
    exact (k.2 g hg).store j b

/-- A row of one's own, as a row with its room. -/
theorem Own.arow {w : World} {base e : Nat} {v : Value} {l : List UInt8} (h : Own w base e v l) : ∃ r : ARow, r.val = v ∧ r.l = l ∧ r.lies w e ∧ ∀ g, r.g = some g → base ≤ g ∧ g < w.heap.size := by
  rcases h with ⟨rfl, rfl⟩ | ⟨g, sp, hb, rfl, hr, hm⟩
  · exact ⟨⟨none, [], []⟩, rfl, rfl, ⟨Nat.zero_le _, fun _ => ⟨rfl, rfl⟩, fun g hg => by cases hg⟩, fun g hg => by cases hg⟩
  · refine ⟨⟨some g, l, sp⟩, rfl, rfl, ⟨hm, fun h => (by cases h), fun g' hg => ?_⟩, fun g' hg => ?_⟩
    · cases hg
      exact hr
    · cases hg
      exact ⟨hb, hr.lt⟩
def ARow.far (r s : ARow) : Prop := ∀ g, r.g = some g → s.g ≠ some g
theorem far_of {r s : ARow} {B : Nat} (h1 : ∀ g, r.g = some g → g < B) (h2 : ∀ g, s.g = some g → B ≤ g) : r.far s := by
  intro g hr hs
  have := h1 g hr
  have := h2 g hs
  omega
theorem ARow.far.symm {r s : ARow} (h : r.far s) : s.far r := fun g hs hr => h g hr hs
theorem rows_far {rs : List ARow} (h : rs.Pairwise ARow.far) : ∀ i j (hi : i < rs.length) (hj : j < rs.length), i ≠ j → ∀ g, rs[i].g = some g → rs[j].g ≠ some g := by
  intro i j hi hj hij
  rw [List.pairwise_iff_getElem] at h
  rcases Nat.lt_or_gt_of_ne hij with h1 | h1
  · exact h i j hi hj h1
  · exact (h j i hj hi h1).symm
theorem rows_lie {rs : List ARow} {w : World} {e : Nat} (h : ∀ r ∈ rs, r.lies w e) : ∀ i (hi : i < rs.length), rs[i].lies w e := fun _ hi => h _ (List.getElem_mem hi)
theorem ARow.lies.alloc {w : World} {e : Nat} {r : ARow} (h : r.lies w e) (o : Obj) : r.lies (w.alloc o) e := h.mono ((Below.refl _ _).alloc (Nat.le_refl _) o)
theorem ARow.lies.drewN {w : World} {e : Nat} {r : ARow} (h : r.lies w e) (n : Nat) : r.lies (w.drewN n) e := h
theorem u64_nat (a : Int) (h : (Lit.int .u64 a).wf = true) : ∃ s : Nat, a = (s : Int) ∧ s < 18446744073709551616 := by
  simp [Lit.wf, IntKind.min, IntKind.max, IntKind.signed, IntKind.bits] at h
  exact ⟨a.toNat, by omega, by omega⟩
theorem Rd.form {w : World} {v : Value} {l : List UInt8} (h : Rd w v l) : ∃ p n c, v = .slice p n c := by
  obtain ⟨p, c, rfl, _⟩ := h
  exact ⟨_, _, _, rfl⟩
end Go.FL

namespace Go.FL
open Go.RowKit

theorem Own.keep {w w' : World} {base e : Nat} {v : Value} {l : List UInt8} {r : Option Nat} (h : Own w base e v l) (hb : w.grownBy w' r) (hr : ∀ k, v.ownBlock = some k → r ≠ some k) : Own w' base e v l := by
  rcases h with ⟨rfl, rfl⟩ | ⟨g, sp, h1, rfl, h2, h3⟩
  · exact .inl ⟨rfl, rfl⟩
  · exact .inr ⟨g, sp, h1, rfl, h2.grown hb (hr g rfl), h3⟩
/-- 'append(v, x...)': v a row of one's own, x any bytes. -/
theorem run_append_Own2 {P : Program} (w : World) (base : Nat) (t ty e : TypeId) (ht : P.underlying t = some (.slice e)) (hi : (P.info? e).map (fun i => (i.zero, i.size, i.bytes)) = some (some (.int .u8 0), 1, 1))
    (v x : Value) (l m : List UInt8) (hown : Own w base e v l) (hx : Rd w x m) (hlen : l.length + m.length ≤ 140737488355328) (hbase : base ≤ w.heap.size) :
    ∃ v' w', (Builtin.append_ #[t, t] ty #[v, x]).run P w = .ok v' w' ∧ Own w' base e v' (l ++ m) ∧ w.grownBy w' v.ownBlock ∧ (v'.ownBlock = v.ownBlock ∨ v'.ownBlock = some w.heap.size) := by
  obtain ⟨i, h1, h2, h3, h4⟩ := info_parts hi
  by_cases hm0 : m = []
  · subst hm0
    obtain ⟨p, c, rfl, hc, hpc⟩ := hx.empty rfl
    refine ⟨v, w, ?_, by simpa using hown, ⟨rfl, rfl, rfl, Nat.le_refl _, fun _ _ _ => rfl⟩, .inl rfl⟩
    have hle : ∃ vp vn vc, v = .slice vp vn vc ∧ vn ≤ vc := by
      rcases hown with ⟨rfl, rfl⟩ | ⟨g, sp, _, rfl, _, _⟩
      · exact ⟨none, 0, 0, rfl, Nat.le_refl _⟩
      · exact ⟨_, _, _, rfl, by omega⟩
    obtain ⟨vp, vn, vc, rfl, hle⟩ := hle
    cases p <;> cases vp <;> simp [Builtin.append_, run_underlying ht, sizeOf, typeInfo, h1, Builtin.lenOf, Builtin.firstCells, loadCells, loadCellsFrom, hle, storeCells]
  · have hpos : 0 < m.length := List.length_pos_iff.2 hm0
    obtain ⟨b, off, c, rfl, hmc, hcm, hcell⟩ := hx.at hpos
    have hnews : ∀ j u, (bytesV m)[j]? = some u → w.cell? ((⟨b, off, none⟩ : Addr).add j) = some u := by
      intro j u hu
      obtain ⟨hj, rfl⟩ := bytesV_get m j u hu
      rw [Addr.add_lit]
      exact hcell j hj
    have hnl : (bytesV m).length = m.length * i.size := by rw [bytesV_length, h3]; omega
    have grown : ∀ (old : Nat), old < l.length + m.length → ∀ (row : Option Nat),
        Own (w.drew.alloc (.cells ((bytesV l).toArray ++ (bytesV m).toArray ++ Builtin.zeroCells (Value.int .u8 0).cells (grownCap w (l.length + m.length) old e - (l.length + m.length))) e)) base e
          (.slice (some ⟨w.heap.size, 0, none⟩) (l.length + m.length) (grownCap w (l.length + m.length) old e)) (l ++ m) ∧
        w.grownBy (w.drew.alloc (.cells ((bytesV l).toArray ++ (bytesV m).toArray ++ Builtin.zeroCells (Value.int .u8 0).cells (grownCap w (l.length + m.length) old e - (l.length + m.length))) e)) row := by
      intro old _ row
      have hge := grownCap_ge w (l.length + m.length) old e
      have hcm' : grownCap w (l.length + m.length) old e ≤ maxLen := grownCap_le_maxLen w (l.length + m.length) old e (by unfold maxLen; omega)
      refine ⟨.inr ⟨w.heap.size, List.replicate (grownCap w (l.length + m.length) old e - (l.length + m.length)) 0, hbase, ?_, ?_, ?_⟩, ⟨rfl, rfl, rfl, by simp, fun k hk _ => Below.heap_alloc w.drew _ k hk⟩⟩
      · simp
        omega
      · have hcs : (bytesV l).toArray ++ (bytesV m).toArray ++ Builtin.zeroCells (Value.int .u8 0).cells (grownCap w (l.length + m.length) old e - (l.length + m.length)) = (bytesV (l ++ m ++ List.replicate (grownCap w (l.length + m.length) old e - (l.length + m.length)) 0)).toArray := by
          apply Array.ext'
          simp only [Array.toList_append, zeroCells_u8, bytesV_append]
        rw [hcs]
        exact heap_alloc_new w.drew _
      · simp
        omega
    rcases hown with ⟨rfl, rfl⟩ | ⟨g, sp, hbg, rfl, hrow, hcap⟩
    · have hr := run_append_nil (P := P) w t ty e i (.int .u8 0) ht h1 h2 ⟨b, off, none⟩ m.length c (bytesV m) hnl hnews hpos (by simp at hlen; omega) (by rw [h4]; simp at hlen; omega)
      have hgr := grown 0 (by simpa using hpos) (Value.ownBlock (.slice none 0 0))
      simp only [List.length_nil, Nat.zero_add, List.nil_append, bytesV, List.map_nil, Array.empty_append] at hgr ⊢
      exact ⟨_, _, hr, hgr.1, hgr.2, .inr rfl⟩
    · by_cases hroom : l.length + m.length ≤ l.length + sp.length
      · have hr := run_append_room (P := P) w t ty e i ht h1 g l.length (l.length + sp.length) (bytesV (l ++ sp)).toArray hrow ⟨b, off, none⟩ m.length c (bytesV m) hnl hnews (bytesV_oneCell m) hroom (by rw [h3]; simp [bytesV_length]; omega)
        refine ⟨_, _, hr, .inr ⟨g, sp.drop m.length, hbg, ?_, ?_, ?_⟩, ⟨rfl, rfl, rfl, by simp, fun k _ hk => setRow_other w g k _ (fun e => hk (by simp [Value.ownBlock, e]))⟩, .inl rfl⟩
        · simp
          omega
        · have hcs : (List.take (l.length * i.size) (bytesV (l ++ sp)).toArray.toList ++ bytesV m ++ List.drop (l.length * i.size + (bytesV m).length) (bytesV (l ++ sp)).toArray.toList) = bytesV (l ++ m ++ sp.drop m.length) := by
            simp only [h3, Nat.mul_one, bytesV_append, bytesV_length, bytesV_drop]
            have e1 : (bytesV l).length = l.length := bytesV_length l
            rw [List.take_append_of_le_length (by omega), List.take_of_length_le (by omega), List.drop_append, e1]
            simp
            omega
          rw [hcs]
          exact setRow_heap w g _ _ e _ hrow
        · simp
          omega
      · have holds : ∀ j u, (bytesV l)[j]? = some u → w.cell? ((⟨g, 0, none⟩ : Addr).add j) = some u := by
          intro j u hu
          obtain ⟨hj, rfl⟩ := bytesV_get l j u hu
          have := hrow.cell j (by simp; omega)
          rw [Addr.add_lit, Nat.zero_add, this]
          simp [hj]
        have hr := run_append_grow (P := P) w t ty e i (.int .u8 0) ht h1 h2 ⟨g, 0, none⟩ l.length (l.length + sp.length) (bytesV l) (by rw [bytesV_length, h3]; omega) holds ⟨b, off, none⟩ m.length c (bytesV m) hnl hnews (by omega) (by omega) (growslice_fits (by omega) (by rw [h4]; omega))
        have hgr := grown (l.length + sp.length) (by omega) (Value.ownBlock (.slice (some ⟨g, 0, none⟩) l.length (l.length + sp.length)))
        exact ⟨_, _, hr, hgr.1, hgr.2, .inr rfl⟩

/-- The same as a step of the walk. -/
theorem wpList_append_Own2 {P : Program} {w : World} {ops : Array Oper} {rest : List Oper} {o : Oper} {a : Act} {Q : Exit → Act → World → Prop} (hgd : o.guard = none) (s x : Operand) (t : TypeId)
    (ho : o.op = .call { callee := .builtin .append, args := #[s, x], argTypes := #[t, t] })
    (base e : Nat) (ht : P.underlying t = some (.slice e)) (hi : (P.info? e).map (fun i => (i.zero, i.size, i.bytes)) = some (some (.int .u8 0), 1, 1))
    (v u : Value) (l m : List UInt8) (hs : a.eval s = v) (hown : Own w base e v l) (hx : a.eval x = u) (hrd : Rd w u m) (hlen : l.length + m.length ≤ 140737488355328) (hbase : base ≤ w.heap.size)
    (h : ∀ v' w', Own w' base e v' (l ++ m) → w.grownBy w' v.ownBlock → (v'.ownBlock = v.ownBlock ∨ v'.ownBlock = some w.heap.size) → wpList P ops Q rest (a.put o.dst v') w') : wpList P ops Q (o :: rest) a w := by
  refine wpList_plain hgd fun K hK => ?_
  obtain ⟨v', w', hr, h2, h3, h4⟩ := run_append_Own2 (P := P) w base t o.type e ht hi v u l m hown hrd hlen hbase
  unfold Oper.wp execOp
  simp only [ho, resolve, invoke, builtin, Sem.run_bind, Sem.run_pure, Result.andThen_ok, List.map_toArray, List.map_cons, List.map_nil, hs, hx, hr]
  exact hK _ _ (h v' w' h2 h3 h4)
end Go.FL

namespace Go.FL
open Go.RowKit
/-- A chunk by value. -/
def ChkAt (W : World) (v : Value) (c : Chk) : Prop := ∃ s, v = .agg #[.int .u8 (c.k.toNat : Int), .int .u8 (c.f.toNat : Int), s] ∧ Rd W s c.b
theorem ChkAt.mono {w w' : World} {v : Value} {c : Chk} (h : ChkAt w v c) (hb : Below w.heap.size w w') : ChkAt w' v c := by
  obtain ⟨s, h1, h2⟩ := h
  exact ⟨s, h1, h2.mono hb⟩
end Go.FL
namespace Go.Proofs.Ytahpklciafpdaaa
open Go.RowKit Go.FL Go.ChangeShapes Go.WideShapes Go.ChangeAt

set_option maxRecDepth 20000 in
theorem chunk_open {H : Type} {enc : TypeId × Value → H} {W : World} {r : Reach} {b0 : Nat} {spare : Nat → Bool} {held : Bool} {v : Value} {d : DataW H} {p : List MemPlace}
    (hv : Value.okWide Try.prog W r b0 41 v) (h : DataW.Trod enc Try.prog W 0 spare held 41 v d p) : ∃ x : Chk, ChkAt W v x := by
  obtain ⟨v0, v1, v2, y0, y1, y2, n, rfl, _, _, h0, h1, h2⟩ := Joins.open_agg3 Try.underlying41 (by kernel_rfl) (by kernel_rfl) hv h
  obtain ⟨a, l, c, e0⟩ := Joins.slice_form Try.underlying29 h2
  simp at e0
  subst e0
  obtain ⟨l', hl⟩ := rd_of_trod Try.underlying29 Try.underlying5 (by kernel_rfl) ⟨n, h2⟩
  obtain ⟨n1, e1, _, w1⟩ := DataW.trod_int Try.underlying5 h0
  obtain ⟨n2, e2, _, w2⟩ := DataW.trod_int Try.underlying5 h1
  simp at e1 e2
  subst e1 e2
  obtain ⟨k, rfl⟩ := u8_of _ w1
  obtain ⟨f, rfl⟩ := u8_of _ w2
  exact ⟨⟨k, f, l'⟩, _, rfl, hl⟩
end Go.Proofs.Ytahpklciafpdaaa

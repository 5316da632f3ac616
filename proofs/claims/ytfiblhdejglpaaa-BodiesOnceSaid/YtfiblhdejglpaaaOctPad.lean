/- What octet.Pad answers. Conditions: the argument reads as bytes, of a length that memory bears. -/
import Derived.Test.YtfiblhdejglpaaaOctProg
import Derived.Test.YtfiblhdejglpaaaZeros
namespace Go.Proofs.Ytfiblhdejglpaaa
open Go.RowKit Go.FL

set_option maxRecDepth 20000 in
set_option maxHeartbeats 400000 in
theorem pad_any (v : Value) (l : List UInt8) (w : World) (h : Rd w v l) (hs : l.length ≤ 140737488355300) :
    Calls Try.prog 65 #[v] w (RetOwn w 5 (padded l)) := by
  have H := hid h
  obtain ⟨p, c, rfl, hlc, hcm, hpn, hcell⟩ := h
  unfold maxLen at hcm
  clear hcell
  have hr := roundN_le l.length
  have hr2 := roundN_lt l.length
  have HRI := hid (roundI_nat l.length (by omega))
  have HP := hid (show padded l = l ++ List.replicate (roundN l.length - l.length) 0 from rfl)
  generalize roundN l.length = r at *
  go_enter Try.func65, Try.ntmps65
  go_wp2_with fail
  refine (clone_any _ l _ H.out (by omega)).mono ?_
  rintro e w1 ⟨v1, rfl, ho1, hb1⟩
  have HO1 := hid ho1
  have HB1 := hid hb1
  clear ho1 hb1
  go_wp2_with fail
  refine (round_any _ _ (WalkArith.wf_i64 (by omega))).mono ?_
  rintro e w2 ⟨rfl, rfl⟩
  rw [HRI.out]
  go_wp2_with (at_builtin; refine wpList_append_zeros rfl (.tmp 4) (.tmp 10) 24 3 rfl w.heap.size 5 .i64 Try.underlying24 Try.underlying3 infoU8o _ l (r - l.length) rfl HO1.out _ rfl (by omega) (by omega) HB1.out.size ?_)
  intro v3 w3 ho3 hg3
  have HO3 := hid ho3
  have HB3 := hid (HB1.out.grown hg3 HB1.out.size HO1.out.ge)
  clear ho3 hg3
  go_wp2
  go_ret
  exact ⟨_, rfl, by rw [HP.out]; exact HO3.out, HB3.out⟩
end Go.Proofs.Ytfiblhdejglpaaa

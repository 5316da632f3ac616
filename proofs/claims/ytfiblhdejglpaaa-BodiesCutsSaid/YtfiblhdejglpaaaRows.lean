/-
  No cell of these rows narrows 'for every input' (looked for: loops, veiled, ifaces, maps, wideKeys, modest, calm, conditions, laid).
  DERIVED. THE GIVEN ROWS OF THIS SEAT. 9 by the template 'for every input the law returns true; each argument reads behind the call as it read before'; 0 by the template 'total and deterministic' (their statements: YtfiblhdejglpaaaTotals.lean).
  GIVEN WITH THE SEED: the statements are not yours to turn. If you find one false, say at which input.
  Laid BY PROGRAM, IN A SANDBOX (cutbox-rows.mjs): the forced cells as the released guide's own fill.sh prints them over the translation 94e25e774afabdff… (all of the seat's roots in one cut). By AI agents, Wed Nov 11 2026. No macro, syntax, notation, axiom, sorry.
-/
import Derived.Test.YtfiblhdejglpaaaChecked
import GoSem.Claim
import GoSem.ClaimJoined
import GoSem.ClaimMapViews
import Derived.JoinedTies
import Derived.KernelRfl
namespace Go.Proofs.Ytfiblhdejglpaaa
/- THE CELL 'sum', in the pinned program and in every row, IS THE sha256 OF THE DUMP (.gsa) THAT YtfiblhdejglpaaaProg.lean LOADS. Nothing in Lean hashes anything: it is a label: what it is worth is what the hold of that sum in a sandbox is worth. -/
noncomputable def Try.pinned : Pinned := { name := "ytfiblhdejglpaaa", sum := "94e25e774afabdff7c64a7f556a1c7beed077bbdb5ddb8c79efca66e36c44f0a", checked := Try.checked }
namespace Rows
def none {H : Type} : Left H := { results := [], args := [] }

/-- 'fairleadlaw09.BodiesData': WHATEVER THE INPUT: true; the input reads as it did. -/
def bodiesDataSpec : ChangeSpec := { name := "bodiesData", fn := fun _ => fun
  | [d1, d2] => { results := [.lit (.bool true)], args := [d1, d2] }
  | _ => none }
def bodiesDataRow : OpenClaim := { program := "ytfiblhdejglpaaa", sum := "94e25e774afabdff7c64a7f556a1c7beed077bbdb5ddb8c79efca66e36c44f0a", func := "fairlead/fairleadlaw09.BodiesData", spec := "bodiesData", unfollowed := true, recurses := true, apart := false }
def BodiesDataSaid : Prop := bodiesDataRow.holds Try.pinned (OpenSpec.ofChange bodiesDataSpec)

/-- ITS FALSE NEIGHBOUR: 'it returns false'. Refute it at one input. -/
def bodiesDataWrong : ChangeSpec := { name := "bodiesData", fn := fun _ => fun
  | [d1, d2] => { results := [.lit (.bool false)], args := [d1, d2] }
  | _ => none }
def BodiesDataWrongFalsely : Prop := bodiesDataRow.holds Try.pinned (OpenSpec.ofChange bodiesDataWrong)

/-- 'fairleadlaw09.BodiesSack': WHATEVER THE INPUT: true; the input reads as it did. -/
def bodiesSackSpec : ChangeSpec := { name := "bodiesSack", fn := fun _ => fun
  | [d1, d2] => { results := [.lit (.bool true)], args := [d1, d2] }
  | _ => none }
def bodiesSackRow : OpenClaim := { program := "ytfiblhdejglpaaa", sum := "94e25e774afabdff7c64a7f556a1c7beed077bbdb5ddb8c79efca66e36c44f0a", func := "fairlead/fairleadlaw09.BodiesSack", spec := "bodiesSack", unfollowed := true, recurses := true, apart := false }
def BodiesSackSaid : Prop := bodiesSackRow.holds Try.pinned (OpenSpec.ofChange bodiesSackSpec)

/-- ITS FALSE NEIGHBOUR: 'it returns false'. Refute it at one input. -/
def bodiesSackWrong : ChangeSpec := { name := "bodiesSack", fn := fun _ => fun
  | [d1, d2] => { results := [.lit (.bool false)], args := [d1, d2] }
  | _ => none }
def BodiesSackWrongFalsely : Prop := bodiesSackRow.holds Try.pinned (OpenSpec.ofChange bodiesSackWrong)

/-- 'fairleadlaw09.BodiesForward': WHATEVER THE INPUT: true; the input reads as it did. -/
def bodiesForwardSpec : ChangeSpec := { name := "bodiesForward", fn := fun _ => fun
  | [d1, d2] => { results := [.lit (.bool true)], args := [d1, d2] }
  | _ => none }
def bodiesForwardRow : OpenClaim := { program := "ytfiblhdejglpaaa", sum := "94e25e774afabdff7c64a7f556a1c7beed077bbdb5ddb8c79efca66e36c44f0a", func := "fairlead/fairleadlaw09.BodiesForward", spec := "bodiesForward", unfollowed := true, recurses := true, apart := false }
def BodiesForwardSaid : Prop := bodiesForwardRow.holds Try.pinned (OpenSpec.ofChange bodiesForwardSpec)

/-- ITS FALSE NEIGHBOUR: 'it returns false'. Refute it at one input. -/
def bodiesForwardWrong : ChangeSpec := { name := "bodiesForward", fn := fun _ => fun
  | [d1, d2] => { results := [.lit (.bool false)], args := [d1, d2] }
  | _ => none }
def BodiesForwardWrongFalsely : Prop := bodiesForwardRow.holds Try.pinned (OpenSpec.ofChange bodiesForwardWrong)

/-- 'fairleadlaw09.BodiesPlain': WHATEVER THE INPUT: true; the input reads as it did. -/
def bodiesPlainSpec : ChangeSpec := { name := "bodiesPlain", fn := fun _ => fun
  | [d1, d2] => { results := [.lit (.bool true)], args := [d1, d2] }
  | _ => none }
def bodiesPlainRow : OpenClaim := { program := "ytfiblhdejglpaaa", sum := "94e25e774afabdff7c64a7f556a1c7beed077bbdb5ddb8c79efca66e36c44f0a", func := "fairlead/fairleadlaw09.BodiesPlain", spec := "bodiesPlain", unfollowed := true, recurses := true, apart := false }
def BodiesPlainSaid : Prop := bodiesPlainRow.holds Try.pinned (OpenSpec.ofChange bodiesPlainSpec)

/-- ITS FALSE NEIGHBOUR: 'it returns false'. Refute it at one input. -/
def bodiesPlainWrong : ChangeSpec := { name := "bodiesPlain", fn := fun _ => fun
  | [d1, d2] => { results := [.lit (.bool false)], args := [d1, d2] }
  | _ => none }
def BodiesPlainWrongFalsely : Prop := bodiesPlainRow.holds Try.pinned (OpenSpec.ofChange bodiesPlainWrong)

/-- 'fairleadlaw09.BodiesSizes': WHATEVER THE INPUT: true; the input reads as it did. -/
def bodiesSizesSpec : ChangeSpec := { name := "bodiesSizes", fn := fun _ => fun
  | [d] => { results := [.lit (.bool true)], args := [d] }
  | _ => none }
def bodiesSizesRow : OpenClaim := { program := "ytfiblhdejglpaaa", sum := "94e25e774afabdff7c64a7f556a1c7beed077bbdb5ddb8c79efca66e36c44f0a", func := "fairlead/fairleadlaw09.BodiesSizes", spec := "bodiesSizes", unfollowed := true, recurses := true, apart := false }
def BodiesSizesSaid : Prop := bodiesSizesRow.holds Try.pinned (OpenSpec.ofChange bodiesSizesSpec)

/-- ITS FALSE NEIGHBOUR: 'it returns false'. Refute it at one input. -/
def bodiesSizesWrong : ChangeSpec := { name := "bodiesSizes", fn := fun _ => fun
  | [d] => { results := [.lit (.bool false)], args := [d] }
  | _ => none }
def BodiesSizesWrongFalsely : Prop := bodiesSizesRow.holds Try.pinned (OpenSpec.ofChange bodiesSizesWrong)

/-- 'fairleadlaw09.BodiesInit': WHATEVER THE INPUT: true; the input reads as it did. -/
def bodiesInitSpec : ChangeSpec := { name := "bodiesInit", fn := fun _ => fun
  | [d1, d2, d3] => { results := [.lit (.bool true)], args := [d1, d2, d3] }
  | _ => none }
def bodiesInitRow : OpenClaim := { program := "ytfiblhdejglpaaa", sum := "94e25e774afabdff7c64a7f556a1c7beed077bbdb5ddb8c79efca66e36c44f0a", func := "fairlead/fairleadlaw09.BodiesInit", spec := "bodiesInit", unfollowed := true, recurses := true, apart := false }
def BodiesInitSaid : Prop := bodiesInitRow.holds Try.pinned (OpenSpec.ofChange bodiesInitSpec)

/-- ITS FALSE NEIGHBOUR: 'it returns false'. Refute it at one input. -/
def bodiesInitWrong : ChangeSpec := { name := "bodiesInit", fn := fun _ => fun
  | [d1, d2, d3] => { results := [.lit (.bool false)], args := [d1, d2, d3] }
  | _ => none }
def BodiesInitWrongFalsely : Prop := bodiesInitRow.holds Try.pinned (OpenSpec.ofChange bodiesInitWrong)

/-- 'fairleadlaw09.BodiesBack': WHATEVER THE INPUT: true; the input reads as it did. -/
def bodiesBackSpec : ChangeSpec := { name := "bodiesBack", fn := fun _ => fun
  | [d] => { results := [.lit (.bool true)], args := [d] }
  | _ => none }
def bodiesBackRow : OpenClaim := { program := "ytfiblhdejglpaaa", sum := "94e25e774afabdff7c64a7f556a1c7beed077bbdb5ddb8c79efca66e36c44f0a", func := "fairlead/fairleadlaw09.BodiesBack", spec := "bodiesBack", unfollowed := true, recurses := true, apart := false }
def BodiesBackSaid : Prop := bodiesBackRow.holds Try.pinned (OpenSpec.ofChange bodiesBackSpec)

/-- ITS FALSE NEIGHBOUR: 'it returns false'. Refute it at one input. -/
def bodiesBackWrong : ChangeSpec := { name := "bodiesBack", fn := fun _ => fun
  | [d] => { results := [.lit (.bool false)], args := [d] }
  | _ => none }
def BodiesBackWrongFalsely : Prop := bodiesBackRow.holds Try.pinned (OpenSpec.ofChange bodiesBackWrong)

/-- 'fairleadlaw09.BodiesOnce': WHATEVER THE INPUT: true; the input reads as it did. -/
def bodiesOnceSpec : ChangeSpec := { name := "bodiesOnce", fn := fun _ => fun
  | [d] => { results := [.lit (.bool true)], args := [d] }
  | _ => none }
def bodiesOnceRow : OpenClaim := { program := "ytfiblhdejglpaaa", sum := "94e25e774afabdff7c64a7f556a1c7beed077bbdb5ddb8c79efca66e36c44f0a", func := "fairlead/fairleadlaw09.BodiesOnce", spec := "bodiesOnce", unfollowed := true, recurses := true, apart := false }
def BodiesOnceSaid : Prop := bodiesOnceRow.holds Try.pinned (OpenSpec.ofChange bodiesOnceSpec)

/-- ITS FALSE NEIGHBOUR: 'it returns false'. Refute it at one input. -/
def bodiesOnceWrong : ChangeSpec := { name := "bodiesOnce", fn := fun _ => fun
  | [d] => { results := [.lit (.bool false)], args := [d] }
  | _ => none }
def BodiesOnceWrongFalsely : Prop := bodiesOnceRow.holds Try.pinned (OpenSpec.ofChange bodiesOnceWrong)

/-- 'fairleadlaw09.BodiesCuts': WHATEVER THE INPUT: true; the input reads as it did. -/
def bodiesCutsSpec : ChangeSpec := { name := "bodiesCuts", fn := fun _ => fun
  | [d1, d2, d3] => { results := [.lit (.bool true)], args := [d1, d2, d3] }
  | _ => none }
def bodiesCutsRow : OpenClaim := { program := "ytfiblhdejglpaaa", sum := "94e25e774afabdff7c64a7f556a1c7beed077bbdb5ddb8c79efca66e36c44f0a", func := "fairlead/fairleadlaw09.BodiesCuts", spec := "bodiesCuts", unfollowed := true, recurses := true, apart := false }
def BodiesCutsSaid : Prop := bodiesCutsRow.holds Try.pinned (OpenSpec.ofChange bodiesCutsSpec)

/-- ITS FALSE NEIGHBOUR: 'it returns false'. Refute it at one input. -/
def bodiesCutsWrong : ChangeSpec := { name := "bodiesCuts", fn := fun _ => fun
  | [d1, d2, d3] => { results := [.lit (.bool false)], args := [d1, d2, d3] }
  | _ => none }
def BodiesCutsWrongFalsely : Prop := bodiesCutsRow.holds Try.pinned (OpenSpec.ofChange bodiesCutsWrong)

/- THE SECOND FORM. 'bulk': how many values and letters a reading holds, each counted each time it is reached (what is shared counts as often as it is met; a slice's spare places count too). A statement '..UptoSaid' is the law's where the arguments, and the package variables that the reading takes, are together of bulk at most 1048576: NARROWER than '..Said'. Prove '..Said' where nothing that the law and all that it calls make is longer than what came in: it says more and counts as full. Else prove '..UptoSaid'. A law counts once. -/
mutual
def uptoBulk {H : Type} : DataW H → Nat
  | .lit (.string bytes) => bytes.length + 1
  | .lit _ => 1
  | .nil => 1
  | .ptr d => uptoBulk d + 1
  | .slice elems spare => uptoBulkAll elems + uptoBulkAll spare + 1
  | .agg parts => uptoBulkAll parts + 1
  | .iface _ d => uptoBulk d + 1
  | .map entries => uptoBulkEntries entries + 1
  | .held _ => 1
def uptoBulkAll {H : Type} : List (DataW H) → Nat
  | [] => 0
  | d :: r => uptoBulk d + uptoBulkAll r
def uptoBulkEntries {H : Type} : List (Lit × DataW H) → Nat
  | [] => 0
  | x :: r => uptoBulkEntry x + uptoBulkEntries r
def uptoBulkEntry {H : Type} : Lit × DataW H → Nat
  | (.string bytes, d) => bytes.length + uptoBulk d + 1
  | (_, d) => uptoBulk d + 1
 end
def uptoSmall : (H : Type) → List (DataW H) → Bool := fun _ ds => decide (uptoBulkAll ds ≤ 1048576)
def OpenSpec.upto (s : _root_.Go.ChangeSpec) : _root_.Go.OpenSpec := { _root_.Go.OpenSpec.ofChange s with cond := some uptoSmall }

/-- 'fairleadlaw09.BodiesData', WHERE WHAT IT READS IS OF BULK AT MOST 1048576: true; the input reads as it did. -/
def bodiesDataUptoRow : OpenClaim := { program := "ytfiblhdejglpaaa", sum := "94e25e774afabdff7c64a7f556a1c7beed077bbdb5ddb8c79efca66e36c44f0a", func := "fairlead/fairleadlaw09.BodiesData", spec := "bodiesData", unfollowed := true, recurses := true, apart := false, narrowed := true }
def BodiesDataUptoSaid : Prop := bodiesDataUptoRow.holds Try.pinned (OpenSpec.upto bodiesDataSpec)

/-- 'fairleadlaw09.BodiesSack', WHERE WHAT IT READS IS OF BULK AT MOST 1048576: true; the input reads as it did. -/
def bodiesSackUptoRow : OpenClaim := { program := "ytfiblhdejglpaaa", sum := "94e25e774afabdff7c64a7f556a1c7beed077bbdb5ddb8c79efca66e36c44f0a", func := "fairlead/fairleadlaw09.BodiesSack", spec := "bodiesSack", unfollowed := true, recurses := true, apart := false, narrowed := true }
def BodiesSackUptoSaid : Prop := bodiesSackUptoRow.holds Try.pinned (OpenSpec.upto bodiesSackSpec)

/-- 'fairleadlaw09.BodiesForward', WHERE WHAT IT READS IS OF BULK AT MOST 1048576: true; the input reads as it did. -/
def bodiesForwardUptoRow : OpenClaim := { program := "ytfiblhdejglpaaa", sum := "94e25e774afabdff7c64a7f556a1c7beed077bbdb5ddb8c79efca66e36c44f0a", func := "fairlead/fairleadlaw09.BodiesForward", spec := "bodiesForward", unfollowed := true, recurses := true, apart := false, narrowed := true }
def BodiesForwardUptoSaid : Prop := bodiesForwardUptoRow.holds Try.pinned (OpenSpec.upto bodiesForwardSpec)

/-- 'fairleadlaw09.BodiesPlain', WHERE WHAT IT READS IS OF BULK AT MOST 1048576: true; the input reads as it did. -/
def bodiesPlainUptoRow : OpenClaim := { program := "ytfiblhdejglpaaa", sum := "94e25e774afabdff7c64a7f556a1c7beed077bbdb5ddb8c79efca66e36c44f0a", func := "fairlead/fairleadlaw09.BodiesPlain", spec := "bodiesPlain", unfollowed := true, recurses := true, apart := false, narrowed := true }
def BodiesPlainUptoSaid : Prop := bodiesPlainUptoRow.holds Try.pinned (OpenSpec.upto bodiesPlainSpec)

/-- 'fairleadlaw09.BodiesSizes', WHERE WHAT IT READS IS OF BULK AT MOST 1048576: true; the input reads as it did. -/
def bodiesSizesUptoRow : OpenClaim := { program := "ytfiblhdejglpaaa", sum := "94e25e774afabdff7c64a7f556a1c7beed077bbdb5ddb8c79efca66e36c44f0a", func := "fairlead/fairleadlaw09.BodiesSizes", spec := "bodiesSizes", unfollowed := true, recurses := true, apart := false, narrowed := true }
def BodiesSizesUptoSaid : Prop := bodiesSizesUptoRow.holds Try.pinned (OpenSpec.upto bodiesSizesSpec)

/-- 'fairleadlaw09.BodiesInit', WHERE WHAT IT READS IS OF BULK AT MOST 1048576: true; the input reads as it did. -/
def bodiesInitUptoRow : OpenClaim := { program := "ytfiblhdejglpaaa", sum := "94e25e774afabdff7c64a7f556a1c7beed077bbdb5ddb8c79efca66e36c44f0a", func := "fairlead/fairleadlaw09.BodiesInit", spec := "bodiesInit", unfollowed := true, recurses := true, apart := false, narrowed := true }
def BodiesInitUptoSaid : Prop := bodiesInitUptoRow.holds Try.pinned (OpenSpec.upto bodiesInitSpec)

/-- 'fairleadlaw09.BodiesBack', WHERE WHAT IT READS IS OF BULK AT MOST 1048576: true; the input reads as it did. -/
def bodiesBackUptoRow : OpenClaim := { program := "ytfiblhdejglpaaa", sum := "94e25e774afabdff7c64a7f556a1c7beed077bbdb5ddb8c79efca66e36c44f0a", func := "fairlead/fairleadlaw09.BodiesBack", spec := "bodiesBack", unfollowed := true, recurses := true, apart := false, narrowed := true }
def BodiesBackUptoSaid : Prop := bodiesBackUptoRow.holds Try.pinned (OpenSpec.upto bodiesBackSpec)

/-- 'fairleadlaw09.BodiesOnce', WHERE WHAT IT READS IS OF BULK AT MOST 1048576: true; the input reads as it did. -/
def bodiesOnceUptoRow : OpenClaim := { program := "ytfiblhdejglpaaa", sum := "94e25e774afabdff7c64a7f556a1c7beed077bbdb5ddb8c79efca66e36c44f0a", func := "fairlead/fairleadlaw09.BodiesOnce", spec := "bodiesOnce", unfollowed := true, recurses := true, apart := false, narrowed := true }
def BodiesOnceUptoSaid : Prop := bodiesOnceUptoRow.holds Try.pinned (OpenSpec.upto bodiesOnceSpec)

/-- 'fairleadlaw09.BodiesCuts', WHERE WHAT IT READS IS OF BULK AT MOST 1048576: true; the input reads as it did. -/
def bodiesCutsUptoRow : OpenClaim := { program := "ytfiblhdejglpaaa", sum := "94e25e774afabdff7c64a7f556a1c7beed077bbdb5ddb8c79efca66e36c44f0a", func := "fairlead/fairleadlaw09.BodiesCuts", spec := "bodiesCuts", unfollowed := true, recurses := true, apart := false, narrowed := true }
def BodiesCutsUptoSaid : Prop := bodiesCutsUptoRow.holds Try.pinned (OpenSpec.upto bodiesCutsSpec)

end Rows
end Go.Proofs.Ytfiblhdejglpaaa

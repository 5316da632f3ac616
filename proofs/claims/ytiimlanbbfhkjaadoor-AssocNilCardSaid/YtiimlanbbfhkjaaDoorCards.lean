/-
  DERIVED. GIVEN WITH THE SEED: THE CARDS: each row of YtiimlanbbfhkjaaDoorRows.lean that lists a variable, with what it lists TIED to the program's text (the seventh form; the later family's looks); each row that meets fmt, with fmt's text TOLD by the authors' own Lean function (tested against real Go, not proved from fmt's source: count such statements apart). THE CARD IS WHAT COUNTS. Prove the row's statement (the work); the ties are given (YtiimlanbbfhkjaaDoorTie.lean); close each card by the builder's one call (the guide's Derived/Test/ToyasCard.lean, 'card_holds'). Laid BY PROGRAM, IN A SANDBOX (cutbox-door.mjs). By AI agents, Wed Nov 11 2026. No macro, syntax, notation, axiom, sorry.
-/
import Derived.Test.YtiimlanbbfhkjaaDoorRows
import GoSem.ClaimSeven
namespace Go.Proofs.YtiimlanbbfhkjaaDoor
namespace Rows

/-- THE TIED CARD OF 'fairleadlaw25.AssocParts'. -/
def assocPartsCard : Claim7 := { stood := { row := assocPartsRow, standIns := [], harness := (true, "dcab8cd38dc4410174185835d93239dec21fee923121e1ae6a89b4179c899a1f"), looks := false }, kinds := [], alts := [], laidByText := true, laidKinds := [.data, .data], laidTests := true, laidLooks := .later }
def AssocPartsCardSaid : Prop := Claim7.holds Tryd.pinned (.plain (OpenSpec.ofChange assocPartsSpec)) assocPartsCard

/-- THE TIED CARD OF 'fairleadlaw25.AssocTags'. -/
def assocTagsCard : Claim7 := { stood := { row := assocTagsRow, standIns := [], harness := (true, "dcab8cd38dc4410174185835d93239dec21fee923121e1ae6a89b4179c899a1f"), looks := false }, kinds := [], alts := [], laidByText := true, laidKinds := [.data, .data], laidTests := true, laidLooks := .later }
def AssocTagsCardSaid : Prop := Claim7.holds Tryd.pinned (.plain (OpenSpec.ofChange assocTagsSpec)) assocTagsCard

/-- THE TIED CARD OF 'fairleadlaw25.AssocGives'. -/
def assocGivesCard : Claim7 := { stood := { row := assocGivesRow, standIns := [], harness := (true, "dcab8cd38dc4410174185835d93239dec21fee923121e1ae6a89b4179c899a1f"), looks := false }, kinds := [], alts := [], laidByText := true, laidKinds := [.data, .data], laidTests := true, laidLooks := .later }
def AssocGivesCardSaid : Prop := Claim7.holds Tryd.pinned (.plain (OpenSpec.ofChange assocGivesSpec)) assocGivesCard

/-- THE TIED CARD OF 'fairleadlaw25.AssocNil'. -/
def assocNilCard : Claim7 := { stood := { row := assocNilRow, standIns := [], harness := (true, "dcab8cd38dc4410174185835d93239dec21fee923121e1ae6a89b4179c899a1f"), looks := false }, kinds := [], alts := [], laidByText := true, laidKinds := [.data, .data], laidTests := true, laidLooks := .later }
def AssocNilCardSaid : Prop := Claim7.holds Tryd.pinned (.plain (OpenSpec.ofChange assocNilSpec)) assocNilCard

/-- THE SECOND FORM's CARD OF 'fairleadlaw25.AssocParts'. -/
def assocPartsUptoCard : Claim7 := { stood := { row := assocPartsUptoRow, standIns := [], harness := (true, "dcab8cd38dc4410174185835d93239dec21fee923121e1ae6a89b4179c899a1f"), looks := false }, kinds := [], alts := [], laidByText := true, laidKinds := [.data, .data], laidTests := true, laidLooks := .later }
def AssocPartsUptoCardSaid : Prop := Claim7.holds Tryd.pinned (.plain (OpenSpec.upto assocPartsSpec)) assocPartsUptoCard

/-- THE SECOND FORM's CARD OF 'fairleadlaw25.AssocTags'. -/
def assocTagsUptoCard : Claim7 := { stood := { row := assocTagsUptoRow, standIns := [], harness := (true, "dcab8cd38dc4410174185835d93239dec21fee923121e1ae6a89b4179c899a1f"), looks := false }, kinds := [], alts := [], laidByText := true, laidKinds := [.data, .data], laidTests := true, laidLooks := .later }
def AssocTagsUptoCardSaid : Prop := Claim7.holds Tryd.pinned (.plain (OpenSpec.upto assocTagsSpec)) assocTagsUptoCard

/-- THE SECOND FORM's CARD OF 'fairleadlaw25.AssocGives'. -/
def assocGivesUptoCard : Claim7 := { stood := { row := assocGivesUptoRow, standIns := [], harness := (true, "dcab8cd38dc4410174185835d93239dec21fee923121e1ae6a89b4179c899a1f"), looks := false }, kinds := [], alts := [], laidByText := true, laidKinds := [.data, .data], laidTests := true, laidLooks := .later }
def AssocGivesUptoCardSaid : Prop := Claim7.holds Tryd.pinned (.plain (OpenSpec.upto assocGivesSpec)) assocGivesUptoCard

/-- THE SECOND FORM's CARD OF 'fairleadlaw25.AssocNil'. -/
def assocNilUptoCard : Claim7 := { stood := { row := assocNilUptoRow, standIns := [], harness := (true, "dcab8cd38dc4410174185835d93239dec21fee923121e1ae6a89b4179c899a1f"), looks := false }, kinds := [], alts := [], laidByText := true, laidKinds := [.data, .data], laidTests := true, laidLooks := .later }
def AssocNilUptoCardSaid : Prop := Claim7.holds Tryd.pinned (.plain (OpenSpec.upto assocNilSpec)) assocNilUptoCard
end Rows
end Go.Proofs.YtiimlanbbfhkjaaDoor

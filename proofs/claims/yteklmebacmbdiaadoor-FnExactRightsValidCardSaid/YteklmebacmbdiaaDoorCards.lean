/-
  DERIVED. GIVEN WITH THE SEED: THE CARDS: each row of YteklmebacmbdiaaDoorRows.lean that lists a variable, with what it lists TIED to the program's text (the seventh form; the later family's looks); each row that meets fmt, with fmt's text TOLD by the authors' own Lean function (tested against real Go, not proved from fmt's source: count such statements apart). THE CARD IS WHAT COUNTS. Prove the row's statement (the work); the ties are given (YteklmebacmbdiaaDoorTie.lean); close each card by the builder's one call (the guide's Derived/Test/ToyasCard.lean, 'card_holds'). Laid BY PROGRAM, IN A SANDBOX (cutbox-door.mjs). By AI agents, Wed Nov 11 2026. No macro, syntax, notation, axiom, sorry.
-/
import Derived.Test.YteklmebacmbdiaaDoorRows
import GoSem.ClaimSeven
namespace Go.Proofs.YteklmebacmbdiaaDoor
namespace Rows

/-- THE TIED CARD OF 'laws.FnExactRightValid'. -/
def fnExactRightValidCard : Claim7 := { stood := { row := fnExactRightValidRow, standIns := [], harness := (true, "5b0be5a22fa9cae5a15a0619cd7531aa38b1aa0bd939c3de19e93f17107f24b3"), looks := false }, kinds := [], alts := [], laidByText := true, laidKinds := [.data, .pinned], laidTests := true, laidLooks := .later }
def FnExactRightValidCardSaid : Prop := Claim7.holds Tryd.pinned (.plain (OpenSpec.ofChange fnExactRightValidSpec)) fnExactRightValidCard

/-- THE TIED CARD OF 'laws.FnExactRightCovers'. -/
def fnExactRightCoversCard : Claim7 := { stood := { row := fnExactRightCoversRow, standIns := [], harness := (true, "5b0be5a22fa9cae5a15a0619cd7531aa38b1aa0bd939c3de19e93f17107f24b3"), looks := false }, kinds := [], alts := [], laidByText := true, laidKinds := [.data, .pinned], laidTests := true, laidLooks := .later }
def FnExactRightCoversCardSaid : Prop := Claim7.holds Tryd.pinned (.plain (OpenSpec.ofChange fnExactRightCoversSpec)) fnExactRightCoversCard

/-- THE TIED CARD OF 'laws.FnExactRightsValid'. -/
def fnExactRightsValidCard : Claim7 := { stood := { row := fnExactRightsValidRow, standIns := [], harness := (true, "5b0be5a22fa9cae5a15a0619cd7531aa38b1aa0bd939c3de19e93f17107f24b3"), looks := false }, kinds := [], alts := [], laidByText := true, laidKinds := [.data, .pinned], laidTests := true, laidLooks := .later }
def FnExactRightsValidCardSaid : Prop := Claim7.holds Tryd.pinned (.plain (OpenSpec.ofChange fnExactRightsValidSpec)) fnExactRightsValidCard

/-- THE TIED CARD OF 'laws.FnRightPart'. -/
def fnRightPartCard : Claim7 := { stood := { row := fnRightPartRow, standIns := [], harness := (true, "5b0be5a22fa9cae5a15a0619cd7531aa38b1aa0bd939c3de19e93f17107f24b3"), looks := false }, kinds := [], alts := [], laidByText := true, laidKinds := [.data, .pinned], laidTests := true, laidLooks := .later }
def FnRightPartCardSaid : Prop := Claim7.holds Tryd.pinned (.plain (OpenSpec.ofChange fnRightPartSpec)) fnRightPartCard

/-- THE TIED CARD OF 'laws.FnRightCovers'. -/
def fnRightCoversCard : Claim7 := { stood := { row := fnRightCoversRow, standIns := [], harness := (true, "5b0be5a22fa9cae5a15a0619cd7531aa38b1aa0bd939c3de19e93f17107f24b3"), looks := false }, kinds := [], alts := [], laidByText := true, laidKinds := [.data, .pinned], laidTests := true, laidLooks := .later }
def FnRightCoversCardSaid : Prop := Claim7.holds Tryd.pinned (.plain (OpenSpec.ofChange fnRightCoversSpec)) fnRightCoversCard

/-- THE SECOND FORM's CARD OF 'laws.FnExactRightValid'. -/
def fnExactRightValidUptoCard : Claim7 := { stood := { row := fnExactRightValidUptoRow, standIns := [], harness := (true, "5b0be5a22fa9cae5a15a0619cd7531aa38b1aa0bd939c3de19e93f17107f24b3"), looks := false }, kinds := [], alts := [], laidByText := true, laidKinds := [.data, .pinned], laidTests := true, laidLooks := .later }
def FnExactRightValidUptoCardSaid : Prop := Claim7.holds Tryd.pinned (.plain (OpenSpec.upto fnExactRightValidSpec)) fnExactRightValidUptoCard

/-- THE SECOND FORM's CARD OF 'laws.FnExactRightCovers'. -/
def fnExactRightCoversUptoCard : Claim7 := { stood := { row := fnExactRightCoversUptoRow, standIns := [], harness := (true, "5b0be5a22fa9cae5a15a0619cd7531aa38b1aa0bd939c3de19e93f17107f24b3"), looks := false }, kinds := [], alts := [], laidByText := true, laidKinds := [.data, .pinned], laidTests := true, laidLooks := .later }
def FnExactRightCoversUptoCardSaid : Prop := Claim7.holds Tryd.pinned (.plain (OpenSpec.upto fnExactRightCoversSpec)) fnExactRightCoversUptoCard

/-- THE SECOND FORM's CARD OF 'laws.FnExactRightsValid'. -/
def fnExactRightsValidUptoCard : Claim7 := { stood := { row := fnExactRightsValidUptoRow, standIns := [], harness := (true, "5b0be5a22fa9cae5a15a0619cd7531aa38b1aa0bd939c3de19e93f17107f24b3"), looks := false }, kinds := [], alts := [], laidByText := true, laidKinds := [.data, .pinned], laidTests := true, laidLooks := .later }
def FnExactRightsValidUptoCardSaid : Prop := Claim7.holds Tryd.pinned (.plain (OpenSpec.upto fnExactRightsValidSpec)) fnExactRightsValidUptoCard

/-- THE SECOND FORM's CARD OF 'laws.FnRightPart'. -/
def fnRightPartUptoCard : Claim7 := { stood := { row := fnRightPartUptoRow, standIns := [], harness := (true, "5b0be5a22fa9cae5a15a0619cd7531aa38b1aa0bd939c3de19e93f17107f24b3"), looks := false }, kinds := [], alts := [], laidByText := true, laidKinds := [.data, .pinned], laidTests := true, laidLooks := .later }
def FnRightPartUptoCardSaid : Prop := Claim7.holds Tryd.pinned (.plain (OpenSpec.upto fnRightPartSpec)) fnRightPartUptoCard

/-- THE SECOND FORM's CARD OF 'laws.FnRightCovers'. -/
def fnRightCoversUptoCard : Claim7 := { stood := { row := fnRightCoversUptoRow, standIns := [], harness := (true, "5b0be5a22fa9cae5a15a0619cd7531aa38b1aa0bd939c3de19e93f17107f24b3"), looks := false }, kinds := [], alts := [], laidByText := true, laidKinds := [.data, .pinned], laidTests := true, laidLooks := .later }
def FnRightCoversUptoCardSaid : Prop := Claim7.holds Tryd.pinned (.plain (OpenSpec.upto fnRightCoversSpec)) fnRightCoversUptoCard
end Rows
end Go.Proofs.YteklmebacmbdiaaDoor

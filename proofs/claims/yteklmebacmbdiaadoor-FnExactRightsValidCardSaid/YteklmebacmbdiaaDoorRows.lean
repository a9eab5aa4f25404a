/-
  NARROWER THAN 'FOR EVERY INPUT', by the rows' own cells (each row's printed sentence says how): FnExactRightValid: laid · FnExactRightCovers: laid · FnExactRightsValid: laid · FnRightPart: laid · FnRightCovers: laid.
  DERIVED. THE GIVEN ROWS OF THIS SEAT. 5 by the template 'for every input the law returns true; each argument reads behind the call as it read before'; 0 by the template 'total and deterministic' (their statements: YteklmebacmbdiaaDoorTotals.lean).
  GIVEN WITH THE SEED: the statements are not yours to turn. If you find one false, say at which input.
  Laid BY PROGRAM, IN A SANDBOX (cutbox-rows.mjs): the forced cells as the released guide's own fill.sh prints them over the translation 9d3d20545e9f3a5d… (all of the seat's roots in one cut). By AI agents, Wed Nov 11 2026. No macro, syntax, notation, axiom, sorry.
-/
import Derived.Test.YteklmebacmbdiaaDoorChecked
import GoSem.PinnedTables
import GoSem.Claim
import GoSem.ClaimJoined
import GoSem.ClaimMapViews
import Derived.JoinedTies
import Derived.KernelRfl
namespace Go.Proofs.YteklmebacmbdiaaDoor
/- THE CELL 'sum', in the pinned program and in every row, IS THE sha256 OF THE DUMP (.gsa) THAT YteklmebacmbdiaaDoorProg.lean LOADS. Nothing in Lean hashes anything: it is a label: what it is worth is what the hold of that sum in a sandbox is worth. -/
noncomputable def Tryd.pinned : Pinned := { name := "yteklmebacmbdiaadoor", sum := "9d3d20545e9f3a5d5614b2e83c3ac386423acd7cb944398a0e9982aaab5ab897", checked := Tryd.checked }
namespace Rows
def none {H : Type} : Left H := { results := [], args := [] }

/- WHAT THE LISTED PACKAGE-LEVEL VARIABLES READ AS WHEN THE CALL BEGINS. Each datum BY PROGRAM (the guide's laid-datum.mjs) off the statement by which the dump's own 'gosem.cut.vars' lays the variable. In a bare row this is a premise. The card (YteklmebacmbdiaaDoorCards.lean) ties it to the program's text. -/
def laid_unicode_utf8_acceptRanges {H : Type} : DataW H := .agg [.agg [.lit (.int .u8 128), .lit (.int .u8 191)], .agg [.lit (.int .u8 160), .lit (.int .u8 191)], .agg [.lit (.int .u8 128), .lit (.int .u8 159)], .agg [.lit (.int .u8 144), .lit (.int .u8 191)], .agg [.lit (.int .u8 128), .lit (.int .u8 143)], .agg [.lit (.int .u8 0), .lit (.int .u8 0)], .agg [.lit (.int .u8 0), .lit (.int .u8 0)], .agg [.lit (.int .u8 0), .lit (.int .u8 0)], .agg [.lit (.int .u8 0), .lit (.int .u8 0)], .agg [.lit (.int .u8 0), .lit (.int .u8 0)], .agg [.lit (.int .u8 0), .lit (.int .u8 0)], .agg [.lit (.int .u8 0), .lit (.int .u8 0)], .agg [.lit (.int .u8 0), .lit (.int .u8 0)], .agg [.lit (.int .u8 0), .lit (.int .u8 0)], .agg [.lit (.int .u8 0), .lit (.int .u8 0)], .agg [.lit (.int .u8 0), .lit (.int .u8 0)]]
/-- One of Go's own tables, pinned by name: the form's constant. -/
def laid_unicode_utf8_first : DataW Unit := Go.Pinned.utf8First

/-- 'laws.FnExactRightValid': WHATEVER THE INPUT: true; the input reads as it did. -/
def fnExactRightValidSpec : ChangeSpec := { name := "fnExactRightValid", fn := fun _ => fun
  | [d] => { results := [.lit (.bool true)], args := [d] }
  | _ => none }
def fnExactRightValidRow : OpenClaim := { program := "yteklmebacmbdiaadoor", sum := "9d3d20545e9f3a5d5614b2e83c3ac386423acd7cb944398a0e9982aaab5ab897", func := "loop.example/exopager/laws.FnExactRightValid", spec := "fnExactRightValid", inPlace := ["internal/bytealg.IndexByteString", "internal/bytealg.IndexString"], named := ["unicode/utf8.first", "unicode/utf8.acceptRanges", "internal/bytealg.MaxLen"], apart := false, laid := [("unicode/utf8.acceptRanges", laid_unicode_utf8_acceptRanges), ("unicode/utf8.first", laid_unicode_utf8_first)] }
def FnExactRightValidSaid : Prop := fnExactRightValidRow.holds Tryd.pinned (OpenSpec.ofChange fnExactRightValidSpec)

/-- ITS FALSE NEIGHBOUR: 'it returns false'. Refute it at one input. -/
def fnExactRightValidWrong : ChangeSpec := { name := "fnExactRightValid", fn := fun _ => fun
  | [d] => { results := [.lit (.bool false)], args := [d] }
  | _ => none }
def FnExactRightValidWrongFalsely : Prop := fnExactRightValidRow.holds Tryd.pinned (OpenSpec.ofChange fnExactRightValidWrong)

/-- 'laws.FnExactRightCovers': WHATEVER THE INPUT: true; the input reads as it did. -/
def fnExactRightCoversSpec : ChangeSpec := { name := "fnExactRightCovers", fn := fun _ => fun
  | [d1, d2] => { results := [.lit (.bool true)], args := [d1, d2] }
  | _ => none }
def fnExactRightCoversRow : OpenClaim := { program := "yteklmebacmbdiaadoor", sum := "9d3d20545e9f3a5d5614b2e83c3ac386423acd7cb944398a0e9982aaab5ab897", func := "loop.example/exopager/laws.FnExactRightCovers", spec := "fnExactRightCovers", inPlace := ["internal/bytealg.IndexByteString", "internal/bytealg.IndexString"], named := ["unicode/utf8.first", "unicode/utf8.acceptRanges", "internal/bytealg.MaxLen"], apart := false, laid := [("unicode/utf8.acceptRanges", laid_unicode_utf8_acceptRanges), ("unicode/utf8.first", laid_unicode_utf8_first)] }
def FnExactRightCoversSaid : Prop := fnExactRightCoversRow.holds Tryd.pinned (OpenSpec.ofChange fnExactRightCoversSpec)

/-- ITS FALSE NEIGHBOUR: 'it returns false'. Refute it at one input. -/
def fnExactRightCoversWrong : ChangeSpec := { name := "fnExactRightCovers", fn := fun _ => fun
  | [d1, d2] => { results := [.lit (.bool false)], args := [d1, d2] }
  | _ => none }
def FnExactRightCoversWrongFalsely : Prop := fnExactRightCoversRow.holds Tryd.pinned (OpenSpec.ofChange fnExactRightCoversWrong)

/-- 'laws.FnExactRightsValid': WHATEVER THE INPUT: true; the input reads as it did. -/
def fnExactRightsValidSpec : ChangeSpec := { name := "fnExactRightsValid", fn := fun _ => fun
  | [d] => { results := [.lit (.bool true)], args := [d] }
  | _ => none }
def fnExactRightsValidRow : OpenClaim := { program := "yteklmebacmbdiaadoor", sum := "9d3d20545e9f3a5d5614b2e83c3ac386423acd7cb944398a0e9982aaab5ab897", func := "loop.example/exopager/laws.FnExactRightsValid", spec := "fnExactRightsValid", inPlace := ["internal/bytealg.IndexByteString", "internal/bytealg.IndexString"], named := ["unicode/utf8.first", "unicode/utf8.acceptRanges", "internal/bytealg.MaxLen"], apart := false, laid := [("unicode/utf8.acceptRanges", laid_unicode_utf8_acceptRanges), ("unicode/utf8.first", laid_unicode_utf8_first)] }
def FnExactRightsValidSaid : Prop := fnExactRightsValidRow.holds Tryd.pinned (OpenSpec.ofChange fnExactRightsValidSpec)

/-- ITS FALSE NEIGHBOUR: 'it returns false'. Refute it at one input. -/
def fnExactRightsValidWrong : ChangeSpec := { name := "fnExactRightsValid", fn := fun _ => fun
  | [d] => { results := [.lit (.bool false)], args := [d] }
  | _ => none }
def FnExactRightsValidWrongFalsely : Prop := fnExactRightsValidRow.holds Tryd.pinned (OpenSpec.ofChange fnExactRightsValidWrong)

/-- 'laws.FnRightPart': WHATEVER THE INPUT: true; the input reads as it did. -/
def fnRightPartSpec : ChangeSpec := { name := "fnRightPart", fn := fun _ => fun
  | [d] => { results := [.lit (.bool true)], args := [d] }
  | _ => none }
def fnRightPartRow : OpenClaim := { program := "yteklmebacmbdiaadoor", sum := "9d3d20545e9f3a5d5614b2e83c3ac386423acd7cb944398a0e9982aaab5ab897", func := "loop.example/exopager/laws.FnRightPart", spec := "fnRightPart", inPlace := ["internal/bytealg.IndexByteString", "internal/bytealg.IndexString"], named := ["unicode/utf8.first", "unicode/utf8.acceptRanges", "internal/bytealg.MaxLen"], apart := false, laid := [("unicode/utf8.acceptRanges", laid_unicode_utf8_acceptRanges), ("unicode/utf8.first", laid_unicode_utf8_first)] }
def FnRightPartSaid : Prop := fnRightPartRow.holds Tryd.pinned (OpenSpec.ofChange fnRightPartSpec)

/-- ITS FALSE NEIGHBOUR: 'it returns false'. Refute it at one input. -/
def fnRightPartWrong : ChangeSpec := { name := "fnRightPart", fn := fun _ => fun
  | [d] => { results := [.lit (.bool false)], args := [d] }
  | _ => none }
def FnRightPartWrongFalsely : Prop := fnRightPartRow.holds Tryd.pinned (OpenSpec.ofChange fnRightPartWrong)

/-- 'laws.FnRightCovers': WHATEVER THE INPUT: true; the input reads as it did. -/
def fnRightCoversSpec : ChangeSpec := { name := "fnRightCovers", fn := fun _ => fun
  | [d] => { results := [.lit (.bool true)], args := [d] }
  | _ => none }
def fnRightCoversRow : OpenClaim := { program := "yteklmebacmbdiaadoor", sum := "9d3d20545e9f3a5d5614b2e83c3ac386423acd7cb944398a0e9982aaab5ab897", func := "loop.example/exopager/laws.FnRightCovers", spec := "fnRightCovers", inPlace := ["internal/bytealg.IndexByteString", "internal/bytealg.IndexString"], named := ["unicode/utf8.first", "unicode/utf8.acceptRanges", "internal/bytealg.MaxLen"], apart := false, laid := [("unicode/utf8.acceptRanges", laid_unicode_utf8_acceptRanges), ("unicode/utf8.first", laid_unicode_utf8_first)] }
def FnRightCoversSaid : Prop := fnRightCoversRow.holds Tryd.pinned (OpenSpec.ofChange fnRightCoversSpec)

/-- ITS FALSE NEIGHBOUR: 'it returns false'. Refute it at one input. -/
def fnRightCoversWrong : ChangeSpec := { name := "fnRightCovers", fn := fun _ => fun
  | [d] => { results := [.lit (.bool false)], args := [d] }
  | _ => none }
def FnRightCoversWrongFalsely : Prop := fnRightCoversRow.holds Tryd.pinned (OpenSpec.ofChange fnRightCoversWrong)

/- THE SECOND FORM. 'bulk': how many values and letters a reading holds, each counted each time it is reached (what is shared counts as often as it is met; a slice's spare places count too). A statement '..UptoSaid' is the law's where the arguments, and the package variables that the reading takes, are together of bulk at most 1048576: NARROWER than '..Said'. Prove '..Said' where nothing that the law and all that it calls make is longer than what came in: it says more and counts as full. Else prove '..UptoSaid'. A law counts once. -/
mutual
def uptoBulk {H : Type} : DataW H → Nat
  | .lit (.string bytes) => bytes.length + 1
  | .lit _ => 1
  | .nil => 1
  | .ptr d => uptoBulk d + 1
  | .slice elems spare => uptoBulkAll elems + uptoBulkAll spare + 1
  | .agg parts => uptoBulkAll parts + 1
  | .iface _ d => uptoBulk d + 1
  | .map entries => uptoBulkEntries entries + 1
  | .held _ => 1
def uptoBulkAll {H : Type} : List (DataW H) → Nat
  | [] => 0
  | d :: r => uptoBulk d + uptoBulkAll r
def uptoBulkEntries {H : Type} : List (Lit × DataW H) → Nat
  | [] => 0
  | x :: r => uptoBulkEntry x + uptoBulkEntries r
def uptoBulkEntry {H : Type} : Lit × DataW H → Nat
  | (.string bytes, d) => bytes.length + uptoBulk d + 1
  | (_, d) => uptoBulk d + 1
 end
def uptoSmall : (H : Type) → List (DataW H) → Bool := fun _ ds => decide (uptoBulkAll ds ≤ 1048576)
def OpenSpec.upto (s : _root_.Go.ChangeSpec) : _root_.Go.OpenSpec := { _root_.Go.OpenSpec.ofChange s with cond := some uptoSmall }

/-- 'laws.FnExactRightValid', WHERE WHAT IT READS IS OF BULK AT MOST 1048576: true; the input reads as it did. -/
def fnExactRightValidUptoRow : OpenClaim := { program := "yteklmebacmbdiaadoor", sum := "9d3d20545e9f3a5d5614b2e83c3ac386423acd7cb944398a0e9982aaab5ab897", func := "loop.example/exopager/laws.FnExactRightValid", spec := "fnExactRightValid", inPlace := ["internal/bytealg.IndexByteString", "internal/bytealg.IndexString"], named := ["unicode/utf8.first", "unicode/utf8.acceptRanges", "internal/bytealg.MaxLen"], apart := false, laid := [("unicode/utf8.acceptRanges", laid_unicode_utf8_acceptRanges), ("unicode/utf8.first", laid_unicode_utf8_first)], narrowed := true }
def FnExactRightValidUptoSaid : Prop := fnExactRightValidUptoRow.holds Tryd.pinned (OpenSpec.upto fnExactRightValidSpec)

/-- 'laws.FnExactRightCovers', WHERE WHAT IT READS IS OF BULK AT MOST 1048576: true; the input reads as it did. -/
def fnExactRightCoversUptoRow : OpenClaim := { program := "yteklmebacmbdiaadoor", sum := "9d3d20545e9f3a5d5614b2e83c3ac386423acd7cb944398a0e9982aaab5ab897", func := "loop.example/exopager/laws.FnExactRightCovers", spec := "fnExactRightCovers", inPlace := ["internal/bytealg.IndexByteString", "internal/bytealg.IndexString"], named := ["unicode/utf8.first", "unicode/utf8.acceptRanges", "internal/bytealg.MaxLen"], apart := false, laid := [("unicode/utf8.acceptRanges", laid_unicode_utf8_acceptRanges), ("unicode/utf8.first", laid_unicode_utf8_first)], narrowed := true }
def FnExactRightCoversUptoSaid : Prop := fnExactRightCoversUptoRow.holds Tryd.pinned (OpenSpec.upto fnExactRightCoversSpec)

/-- 'laws.FnExactRightsValid', WHERE WHAT IT READS IS OF BULK AT MOST 1048576: true; the input reads as it did. -/
def fnExactRightsValidUptoRow : OpenClaim := { program := "yteklmebacmbdiaadoor", sum := "9d3d20545e9f3a5d5614b2e83c3ac386423acd7cb944398a0e9982aaab5ab897", func := "loop.example/exopager/laws.FnExactRightsValid", spec := "fnExactRightsValid", inPlace := ["internal/bytealg.IndexByteString", "internal/bytealg.IndexString"], named := ["unicode/utf8.first", "unicode/utf8.acceptRanges", "internal/bytealg.MaxLen"], apart := false, laid := [("unicode/utf8.acceptRanges", laid_unicode_utf8_acceptRanges), ("unicode/utf8.first", laid_unicode_utf8_first)], narrowed := true }
def FnExactRightsValidUptoSaid : Prop := fnExactRightsValidUptoRow.holds Tryd.pinned (OpenSpec.upto fnExactRightsValidSpec)

/-- 'laws.FnRightPart', WHERE WHAT IT READS IS OF BULK AT MOST 1048576: true; the input reads as it did. -/
def fnRightPartUptoRow : OpenClaim := { program := "yteklmebacmbdiaadoor", sum := "9d3d20545e9f3a5d5614b2e83c3ac386423acd7cb944398a0e9982aaab5ab897", func := "loop.example/exopager/laws.FnRightPart", spec := "fnRightPart", inPlace := ["internal/bytealg.IndexByteString", "internal/bytealg.IndexString"], named := ["unicode/utf8.first", "unicode/utf8.acceptRanges", "internal/bytealg.MaxLen"], apart := false, laid := [("unicode/utf8.acceptRanges", laid_unicode_utf8_acceptRanges), ("unicode/utf8.first", laid_unicode_utf8_first)], narrowed := true }
def FnRightPartUptoSaid : Prop := fnRightPartUptoRow.holds Tryd.pinned (OpenSpec.upto fnRightPartSpec)

/-- 'laws.FnRightCovers', WHERE WHAT IT READS IS OF BULK AT MOST 1048576: true; the input reads as it did. -/
def fnRightCoversUptoRow : OpenClaim := { program := "yteklmebacmbdiaadoor", sum := "9d3d20545e9f3a5d5614b2e83c3ac386423acd7cb944398a0e9982aaab5ab897", func := "loop.example/exopager/laws.FnRightCovers", spec := "fnRightCovers", inPlace := ["internal/bytealg.IndexByteString", "internal/bytealg.IndexString"], named := ["unicode/utf8.first", "unicode/utf8.acceptRanges", "internal/bytealg.MaxLen"], apart := false, laid := [("unicode/utf8.acceptRanges", laid_unicode_utf8_acceptRanges), ("unicode/utf8.first", laid_unicode_utf8_first)], narrowed := true }
def FnRightCoversUptoSaid : Prop := fnRightCoversUptoRow.holds Tryd.pinned (OpenSpec.upto fnRightCoversSpec)

end Rows
end Go.Proofs.YteklmebacmbdiaaDoor

/-
  No cell of these rows narrows 'for every input' (looked for: loops, veiled, ifaces, maps, wideKeys, modest, calm, conditions, laid).
  DERIVED. THE GIVEN ROWS OF THIS SEAT. 2 by the template 'for every input the law returns true; each argument reads behind the call as it read before'; 0 by the template 'total and deterministic' (their statements: YtejibbgoniecaaaTotals.lean).
  GIVEN WITH THE SEED: the statements are not yours to turn. If you find one false, say at which input.
  Laid BY PROGRAM, IN A SANDBOX (cutbox-rows.mjs): the forced cells as the released guide's own fill.sh prints them over the translation 9d4fdb0c7c7bb43c… (all of the seat's roots in one cut). By AI agents, Wed Nov 11 2026. No macro, syntax, notation, axiom, sorry.
-/
import Derived.Test.YtejibbgoniecaaaChecked
import GoSem.Claim
import GoSem.ClaimJoined
import GoSem.ClaimMapViews
import Derived.JoinedTies
import Derived.KernelRfl
namespace Go.Proofs.Ytejibbgoniecaaa
/- THE CELL 'sum', in the pinned program and in every row, IS THE sha256 OF THE DUMP (.gsa) THAT YtejibbgoniecaaaProg.lean LOADS. Nothing in Lean hashes anything: it is a label: what it is worth is what the hold of that sum in a sandbox is worth. -/
noncomputable def Try.pinned : Pinned := { name := "ytejibbgoniecaaa", sum := "9d4fdb0c7c7bb43cbd3a4139e1c0aa2294eb68a3a89d6352a3974064d2a1fa0c", checked := Try.checked }
namespace Rows
def none {H : Type} : Left H := { results := [], args := [] }

/-- 'laws.FnExactWalkTables': WHATEVER THE INPUT: true; the input reads as it did. -/
def fnExactWalkTablesSpec : ChangeSpec := { name := "fnExactWalkTables", fn := fun _ => fun
  | [d1, d2] => { results := [.lit (.bool true)], args := [d1, d2] }
  | _ => none }
def fnExactWalkTablesRow : OpenClaim := { program := "ytejibbgoniecaaa", sum := "9d4fdb0c7c7bb43cbd3a4139e1c0aa2294eb68a3a89d6352a3974064d2a1fa0c", func := "loop.example/exopager/laws.FnExactWalkTables", spec := "fnExactWalkTables", unfollowed := true, recurses := true, apart := false }
def FnExactWalkTablesSaid : Prop := fnExactWalkTablesRow.holds Try.pinned (OpenSpec.ofChange fnExactWalkTablesSpec)

/-- ITS FALSE NEIGHBOUR: 'it returns false'. Refute it at one input. -/
def fnExactWalkTablesWrong : ChangeSpec := { name := "fnExactWalkTables", fn := fun _ => fun
  | [d1, d2] => { results := [.lit (.bool false)], args := [d1, d2] }
  | _ => none }
def FnExactWalkTablesWrongFalsely : Prop := fnExactWalkTablesRow.holds Try.pinned (OpenSpec.ofChange fnExactWalkTablesWrong)

/-- 'laws.FnExactWalkFrames': WHATEVER THE INPUT: true; the input reads as it did. -/
def fnExactWalkFramesSpec : ChangeSpec := { name := "fnExactWalkFrames", fn := fun _ => fun
  | [d1, d2] => { results := [.lit (.bool true)], args := [d1, d2] }
  | _ => none }
def fnExactWalkFramesRow : OpenClaim := { program := "ytejibbgoniecaaa", sum := "9d4fdb0c7c7bb43cbd3a4139e1c0aa2294eb68a3a89d6352a3974064d2a1fa0c", func := "loop.example/exopager/laws.FnExactWalkFrames", spec := "fnExactWalkFrames", unfollowed := true, recurses := true, apart := false }
def FnExactWalkFramesSaid : Prop := fnExactWalkFramesRow.holds Try.pinned (OpenSpec.ofChange fnExactWalkFramesSpec)

/-- ITS FALSE NEIGHBOUR: 'it returns false'. Refute it at one input. -/
def fnExactWalkFramesWrong : ChangeSpec := { name := "fnExactWalkFrames", fn := fun _ => fun
  | [d1, d2] => { results := [.lit (.bool false)], args := [d1, d2] }
  | _ => none }
def FnExactWalkFramesWrongFalsely : Prop := fnExactWalkFramesRow.holds Try.pinned (OpenSpec.ofChange fnExactWalkFramesWrong)

/- THE SECOND FORM. 'bulk': how many values and letters a reading holds, each counted each time it is reached (what is shared counts as often as it is met; a slice's spare places count too). A statement '..UptoSaid' is the law's where the arguments, and the package variables that the reading takes, are together of bulk at most 1048576: NARROWER than '..Said'. Prove '..Said' where nothing that the law and all that it calls make is longer than what came in: it says more and counts as full. Else prove '..UptoSaid'. A law counts once. -/
mutual
def uptoBulk {H : Type} : DataW H → Nat
  | .lit (.string bytes) => bytes.length + 1
  | .lit _ => 1
  | .nil => 1
  | .ptr d => uptoBulk d + 1
  | .slice elems spare => uptoBulkAll elems + uptoBulkAll spare + 1
  | .agg parts => uptoBulkAll parts + 1
  | .iface _ d => uptoBulk d + 1
  | .map entries => uptoBulkEntries entries + 1
  | .held _ => 1
def uptoBulkAll {H : Type} : List (DataW H) → Nat
  | [] => 0
  | d :: r => uptoBulk d + uptoBulkAll r
def uptoBulkEntries {H : Type} : List (Lit × DataW H) → Nat
  | [] => 0
  | x :: r => uptoBulkEntry x + uptoBulkEntries r
def uptoBulkEntry {H : Type} : Lit × DataW H → Nat
  | (.string bytes, d) => bytes.length + uptoBulk d + 1
  | (_, d) => uptoBulk d + 1
 end
def uptoSmall : (H : Type) → List (DataW H) → Bool := fun _ ds => decide (uptoBulkAll ds ≤ 1048576)
def OpenSpec.upto (s : _root_.Go.ChangeSpec) : _root_.Go.OpenSpec := { _root_.Go.OpenSpec.ofChange s with cond := some uptoSmall }

/-- 'laws.FnExactWalkTables', WHERE WHAT IT READS IS OF BULK AT MOST 1048576: true; the input reads as it did. -/
def fnExactWalkTablesUptoRow : OpenClaim := { program := "ytejibbgoniecaaa", sum := "9d4fdb0c7c7bb43cbd3a4139e1c0aa2294eb68a3a89d6352a3974064d2a1fa0c", func := "loop.example/exopager/laws.FnExactWalkTables", spec := "fnExactWalkTables", unfollowed := true, recurses := true, apart := false, narrowed := true }
def FnExactWalkTablesUptoSaid : Prop := fnExactWalkTablesUptoRow.holds Try.pinned (OpenSpec.upto fnExactWalkTablesSpec)

/-- 'laws.FnExactWalkFrames', WHERE WHAT IT READS IS OF BULK AT MOST 1048576: true; the input reads as it did. -/
def fnExactWalkFramesUptoRow : OpenClaim := { program := "ytejibbgoniecaaa", sum := "9d4fdb0c7c7bb43cbd3a4139e1c0aa2294eb68a3a89d6352a3974064d2a1fa0c", func := "loop.example/exopager/laws.FnExactWalkFrames", spec := "fnExactWalkFrames", unfollowed := true, recurses := true, apart := false, narrowed := true }
def FnExactWalkFramesUptoSaid : Prop := fnExactWalkFramesUptoRow.holds Try.pinned (OpenSpec.upto fnExactWalkFramesSpec)

end Rows
end Go.Proofs.Ytejibbgoniecaaa

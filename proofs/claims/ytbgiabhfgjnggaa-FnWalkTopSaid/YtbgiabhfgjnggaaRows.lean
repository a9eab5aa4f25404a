/-
  No cell of these rows narrows 'for every input' (looked for: loops, veiled, ifaces, maps, wideKeys, modest, calm, conditions, laid).
  DERIVED. THE GIVEN ROWS OF THIS SEAT. 4 by the template 'for every input the law returns true; each argument reads behind the call as it read before'; 0 by the template 'total and deterministic' (their statements: YtbgiabhfgjnggaaTotals.lean).
  GIVEN WITH THE SEED: the statements are not yours to turn. If you find one false, say at which input.
  Laid BY PROGRAM, IN A SANDBOX (cutbox-rows.mjs): the forced cells as the released guide's own fill.sh prints them over the translation 630f8e84622d8773… (all of the seat's roots in one cut). By AI agents, Wed Nov 11 2026. No macro, syntax, notation, axiom, sorry.
-/
import Derived.Test.YtbgiabhfgjnggaaChecked
import GoSem.Claim
import GoSem.ClaimJoined
import GoSem.ClaimMapViews
import Derived.JoinedTies
import Derived.KernelRfl
namespace Go.Proofs.Ytbgiabhfgjnggaa
/- THE CELL 'sum', in the pinned program and in every row, IS THE sha256 OF THE DUMP (.gsa) THAT YtbgiabhfgjnggaaProg.lean LOADS. Nothing in Lean hashes anything: it is a label: what it is worth is what the hold of that sum in a sandbox is worth. -/
noncomputable def Try.pinned : Pinned := { name := "ytbgiabhfgjnggaa", sum := "630f8e84622d8773b572c4d09a8e3dd631795daceae97fe10e21f5a234c90837", checked := Try.checked }
namespace Rows
def none {H : Type} : Left H := { results := [], args := [] }

/-- 'laws.FnWalk': WHATEVER THE INPUT: true; the input reads as it did. -/
def fnWalkSpec : ChangeSpec := { name := "fnWalk", fn := fun _ => fun
  | [d] => { results := [.lit (.bool true)], args := [d] }
  | _ => none }
def fnWalkRow : OpenClaim := { program := "ytbgiabhfgjnggaa", sum := "630f8e84622d8773b572c4d09a8e3dd631795daceae97fe10e21f5a234c90837", func := "loop.example/exopager/laws.FnWalk", spec := "fnWalk", unfollowed := true, recurses := true, apart := false }
def FnWalkSaid : Prop := fnWalkRow.holds Try.pinned (OpenSpec.ofChange fnWalkSpec)

/-- ITS FALSE NEIGHBOUR: 'it returns false'. Refute it at one input. -/
def fnWalkWrong : ChangeSpec := { name := "fnWalk", fn := fun _ => fun
  | [d] => { results := [.lit (.bool false)], args := [d] }
  | _ => none }
def FnWalkWrongFalsely : Prop := fnWalkRow.holds Try.pinned (OpenSpec.ofChange fnWalkWrong)

/-- 'laws.FnWalkInvalid': WHATEVER THE INPUT: true; the input reads as it did. -/
def fnWalkInvalidSpec : ChangeSpec := { name := "fnWalkInvalid", fn := fun _ => fun
  | [d] => { results := [.lit (.bool true)], args := [d] }
  | _ => none }
def fnWalkInvalidRow : OpenClaim := { program := "ytbgiabhfgjnggaa", sum := "630f8e84622d8773b572c4d09a8e3dd631795daceae97fe10e21f5a234c90837", func := "loop.example/exopager/laws.FnWalkInvalid", spec := "fnWalkInvalid", unfollowed := true, recurses := true, apart := false }
def FnWalkInvalidSaid : Prop := fnWalkInvalidRow.holds Try.pinned (OpenSpec.ofChange fnWalkInvalidSpec)

/-- ITS FALSE NEIGHBOUR: 'it returns false'. Refute it at one input. -/
def fnWalkInvalidWrong : ChangeSpec := { name := "fnWalkInvalid", fn := fun _ => fun
  | [d] => { results := [.lit (.bool false)], args := [d] }
  | _ => none }
def FnWalkInvalidWrongFalsely : Prop := fnWalkInvalidRow.holds Try.pinned (OpenSpec.ofChange fnWalkInvalidWrong)

/-- 'laws.FnWalkPage': WHATEVER THE INPUT: true; the input reads as it did. -/
def fnWalkPageSpec : ChangeSpec := { name := "fnWalkPage", fn := fun _ => fun
  | [d] => { results := [.lit (.bool true)], args := [d] }
  | _ => none }
def fnWalkPageRow : OpenClaim := { program := "ytbgiabhfgjnggaa", sum := "630f8e84622d8773b572c4d09a8e3dd631795daceae97fe10e21f5a234c90837", func := "loop.example/exopager/laws.FnWalkPage", spec := "fnWalkPage", unfollowed := true, recurses := true, apart := false }
def FnWalkPageSaid : Prop := fnWalkPageRow.holds Try.pinned (OpenSpec.ofChange fnWalkPageSpec)

/-- ITS FALSE NEIGHBOUR: 'it returns false'. Refute it at one input. -/
def fnWalkPageWrong : ChangeSpec := { name := "fnWalkPage", fn := fun _ => fun
  | [d] => { results := [.lit (.bool false)], args := [d] }
  | _ => none }
def FnWalkPageWrongFalsely : Prop := fnWalkPageRow.holds Try.pinned (OpenSpec.ofChange fnWalkPageWrong)

/-- 'laws.FnWalkTop': WHATEVER THE INPUT: true; the input reads as it did. -/
def fnWalkTopSpec : ChangeSpec := { name := "fnWalkTop", fn := fun _ => fun
  | [d] => { results := [.lit (.bool true)], args := [d] }
  | _ => none }
def fnWalkTopRow : OpenClaim := { program := "ytbgiabhfgjnggaa", sum := "630f8e84622d8773b572c4d09a8e3dd631795daceae97fe10e21f5a234c90837", func := "loop.example/exopager/laws.FnWalkTop", spec := "fnWalkTop", unfollowed := true, recurses := true, apart := false }
def FnWalkTopSaid : Prop := fnWalkTopRow.holds Try.pinned (OpenSpec.ofChange fnWalkTopSpec)

/-- ITS FALSE NEIGHBOUR: 'it returns false'. Refute it at one input. -/
def fnWalkTopWrong : ChangeSpec := { name := "fnWalkTop", fn := fun _ => fun
  | [d] => { results := [.lit (.bool false)], args := [d] }
  | _ => none }
def FnWalkTopWrongFalsely : Prop := fnWalkTopRow.holds Try.pinned (OpenSpec.ofChange fnWalkTopWrong)

/- THE SECOND FORM. 'bulk': how many values and letters a reading holds, each counted each time it is reached (what is shared counts as often as it is met; a slice's spare places count too). A statement '..UptoSaid' is the law's where the arguments, and the package variables that the reading takes, are together of bulk at most 1048576: NARROWER than '..Said'. Prove '..Said' where nothing that the law and all that it calls make is longer than what came in: it says more and counts as full. Else prove '..UptoSaid'. A law counts once. -/
mutual
def uptoBulk {H : Type} : DataW H → Nat
  | .lit (.string bytes) => bytes.length + 1
  | .lit _ => 1
  | .nil => 1
  | .ptr d => uptoBulk d + 1
  | .slice elems spare => uptoBulkAll elems + uptoBulkAll spare + 1
  | .agg parts => uptoBulkAll parts + 1
  | .iface _ d => uptoBulk d + 1
  | .map entries => uptoBulkEntries entries + 1
  | .held _ => 1
def uptoBulkAll {H : Type} : List (DataW H) → Nat
  | [] => 0
  | d :: r => uptoBulk d + uptoBulkAll r
def uptoBulkEntries {H : Type} : List (Lit × DataW H) → Nat
  | [] => 0
  | x :: r => uptoBulkEntry x + uptoBulkEntries r
def uptoBulkEntry {H : Type} : Lit × DataW H → Nat
  | (.string bytes, d) => bytes.length + uptoBulk d + 1
  | (_, d) => uptoBulk d + 1
 end
def uptoSmall : (H : Type) → List (DataW H) → Bool := fun _ ds => decide (uptoBulkAll ds ≤ 1048576)
def OpenSpec.upto (s : _root_.Go.ChangeSpec) : _root_.Go.OpenSpec := { _root_.Go.OpenSpec.ofChange s with cond := some uptoSmall }

/-- 'laws.FnWalk', WHERE WHAT IT READS IS OF BULK AT MOST 1048576: true; the input reads as it did. -/
def fnWalkUptoRow : OpenClaim := { program := "ytbgiabhfgjnggaa", sum := "630f8e84622d8773b572c4d09a8e3dd631795daceae97fe10e21f5a234c90837", func := "loop.example/exopager/laws.FnWalk", spec := "fnWalk", unfollowed := true, recurses := true, apart := false, narrowed := true }
def FnWalkUptoSaid : Prop := fnWalkUptoRow.holds Try.pinned (OpenSpec.upto fnWalkSpec)

/-- 'laws.FnWalkInvalid', WHERE WHAT IT READS IS OF BULK AT MOST 1048576: true; the input reads as it did. -/
def fnWalkInvalidUptoRow : OpenClaim := { program := "ytbgiabhfgjnggaa", sum := "630f8e84622d8773b572c4d09a8e3dd631795daceae97fe10e21f5a234c90837", func := "loop.example/exopager/laws.FnWalkInvalid", spec := "fnWalkInvalid", unfollowed := true, recurses := true, apart := false, narrowed := true }
def FnWalkInvalidUptoSaid : Prop := fnWalkInvalidUptoRow.holds Try.pinned (OpenSpec.upto fnWalkInvalidSpec)

/-- 'laws.FnWalkPage', WHERE WHAT IT READS IS OF BULK AT MOST 1048576: true; the input reads as it did. -/
def fnWalkPageUptoRow : OpenClaim := { program := "ytbgiabhfgjnggaa", sum := "630f8e84622d8773b572c4d09a8e3dd631795daceae97fe10e21f5a234c90837", func := "loop.example/exopager/laws.FnWalkPage", spec := "fnWalkPage", unfollowed := true, recurses := true, apart := false, narrowed := true }
def FnWalkPageUptoSaid : Prop := fnWalkPageUptoRow.holds Try.pinned (OpenSpec.upto fnWalkPageSpec)

/-- 'laws.FnWalkTop', WHERE WHAT IT READS IS OF BULK AT MOST 1048576: true; the input reads as it did. -/
def fnWalkTopUptoRow : OpenClaim := { program := "ytbgiabhfgjnggaa", sum := "630f8e84622d8773b572c4d09a8e3dd631795daceae97fe10e21f5a234c90837", func := "loop.example/exopager/laws.FnWalkTop", spec := "fnWalkTop", unfollowed := true, recurses := true, apart := false, narrowed := true }
def FnWalkTopUptoSaid : Prop := fnWalkTopUptoRow.holds Try.pinned (OpenSpec.upto fnWalkTopSpec)

end Rows
end Go.Proofs.Ytbgiabhfgjnggaa

/-
  No cell of these rows narrows 'for every input' (looked for: loops, veiled, ifaces, maps, wideKeys, modest, calm, conditions, laid).
  DERIVED. THE GIVEN ROWS OF THIS SEAT. 6 by the template 'for every input the law returns true; each argument reads behind the call as it read before'; 0 by the template 'total and deterministic' (their statements: YtjocofpdbcpdhaaTotals.lean).
  GIVEN WITH THE SEED: the statements are not yours to turn. If you find one false, say at which input.
  Laid BY PROGRAM, IN A SANDBOX (cutbox-rows.mjs): the forced cells as the released guide's own fill.sh prints them over the translation 400ca0a3a7d5e825… (all of the seat's roots in one cut). By AI agents, Wed Nov 11 2026. No macro, syntax, notation, axiom, sorry.
-/
import Derived.Test.YtjocofpdbcpdhaaChecked
import GoSem.Claim
import GoSem.ClaimJoined
import GoSem.ClaimMapViews
import Derived.JoinedTies
import Derived.KernelRfl
namespace Go.Proofs.Ytjocofpdbcpdhaa
/- THE CELL 'sum', in the pinned program and in every row, IS THE sha256 OF THE DUMP (.gsa) THAT YtjocofpdbcpdhaaProg.lean LOADS. Nothing in Lean hashes anything: it is a label: what it is worth is what the hold of that sum in a sandbox is worth. -/
noncomputable def Try.pinned : Pinned := { name := "ytjocofpdbcpdhaa", sum := "400ca0a3a7d5e82562d13f2040cca2b496842faf33ea8f3cb4de43430e3b02a2", checked := Try.checked }
namespace Rows
def none {H : Type} : Left H := { results := [], args := [] }

/-- 'laws.FnExactMemoryValid': WHATEVER THE INPUT: true; the input reads as it did. -/
def fnExactMemoryValidSpec : ChangeSpec := { name := "fnExactMemoryValid", fn := fun _ => fun
  | [d] => { results := [.lit (.bool true)], args := [d] }
  | _ => none }
def fnExactMemoryValidRow : OpenClaim := { program := "ytjocofpdbcpdhaa", sum := "400ca0a3a7d5e82562d13f2040cca2b496842faf33ea8f3cb4de43430e3b02a2", func := "loop.example/exopager/laws.FnExactMemoryValid", spec := "fnExactMemoryValid", unfollowed := true, recurses := true, apart := false }
def FnExactMemoryValidSaid : Prop := fnExactMemoryValidRow.holds Try.pinned (OpenSpec.ofChange fnExactMemoryValidSpec)

/-- ITS FALSE NEIGHBOUR: 'it returns false'. Refute it at one input. -/
def fnExactMemoryValidWrong : ChangeSpec := { name := "fnExactMemoryValid", fn := fun _ => fun
  | [d] => { results := [.lit (.bool false)], args := [d] }
  | _ => none }
def FnExactMemoryValidWrongFalsely : Prop := fnExactMemoryValidRow.holds Try.pinned (OpenSpec.ofChange fnExactMemoryValidWrong)

/-- 'laws.FnExactMemoryGet': WHATEVER THE INPUT: true; the input reads as it did. -/
def fnExactMemoryGetSpec : ChangeSpec := { name := "fnExactMemoryGet", fn := fun _ => fun
  | [d1, d2, d3] => { results := [.lit (.bool true)], args := [d1, d2, d3] }
  | _ => none }
def fnExactMemoryGetRow : OpenClaim := { program := "ytjocofpdbcpdhaa", sum := "400ca0a3a7d5e82562d13f2040cca2b496842faf33ea8f3cb4de43430e3b02a2", func := "loop.example/exopager/laws.FnExactMemoryGet", spec := "fnExactMemoryGet", unfollowed := true, recurses := true, apart := false }
def FnExactMemoryGetSaid : Prop := fnExactMemoryGetRow.holds Try.pinned (OpenSpec.ofChange fnExactMemoryGetSpec)

/-- ITS FALSE NEIGHBOUR: 'it returns false'. Refute it at one input. -/
def fnExactMemoryGetWrong : ChangeSpec := { name := "fnExactMemoryGet", fn := fun _ => fun
  | [d1, d2, d3] => { results := [.lit (.bool false)], args := [d1, d2, d3] }
  | _ => none }
def FnExactMemoryGetWrongFalsely : Prop := fnExactMemoryGetRow.holds Try.pinned (OpenSpec.ofChange fnExactMemoryGetWrong)

/-- 'laws.FnExactMemoryPut': WHATEVER THE INPUT: true; the input reads as it did. -/
def fnExactMemoryPutSpec : ChangeSpec := { name := "fnExactMemoryPut", fn := fun _ => fun
  | [d1, d2, d3, d4] => { results := [.lit (.bool true)], args := [d1, d2, d3, d4] }
  | _ => none }
def fnExactMemoryPutRow : OpenClaim := { program := "ytjocofpdbcpdhaa", sum := "400ca0a3a7d5e82562d13f2040cca2b496842faf33ea8f3cb4de43430e3b02a2", func := "loop.example/exopager/laws.FnExactMemoryPut", spec := "fnExactMemoryPut", unfollowed := true, recurses := true, apart := false }
def FnExactMemoryPutSaid : Prop := fnExactMemoryPutRow.holds Try.pinned (OpenSpec.ofChange fnExactMemoryPutSpec)

/-- ITS FALSE NEIGHBOUR: 'it returns false'. Refute it at one input. -/
def fnExactMemoryPutWrong : ChangeSpec := { name := "fnExactMemoryPut", fn := fun _ => fun
  | [d1, d2, d3, d4] => { results := [.lit (.bool false)], args := [d1, d2, d3, d4] }
  | _ => none }
def FnExactMemoryPutWrongFalsely : Prop := fnExactMemoryPutRow.holds Try.pinned (OpenSpec.ofChange fnExactMemoryPutWrong)

/-- 'laws.FnExactMemoryCopy': WHATEVER THE INPUT: true; the input reads as it did. -/
def fnExactMemoryCopySpec : ChangeSpec := { name := "fnExactMemoryCopy", fn := fun _ => fun
  | [d1, d2, d3] => { results := [.lit (.bool true)], args := [d1, d2, d3] }
  | _ => none }
def fnExactMemoryCopyRow : OpenClaim := { program := "ytjocofpdbcpdhaa", sum := "400ca0a3a7d5e82562d13f2040cca2b496842faf33ea8f3cb4de43430e3b02a2", func := "loop.example/exopager/laws.FnExactMemoryCopy", spec := "fnExactMemoryCopy", unfollowed := true, recurses := true, apart := false }
def FnExactMemoryCopySaid : Prop := fnExactMemoryCopyRow.holds Try.pinned (OpenSpec.ofChange fnExactMemoryCopySpec)

/-- ITS FALSE NEIGHBOUR: 'it returns false'. Refute it at one input. -/
def fnExactMemoryCopyWrong : ChangeSpec := { name := "fnExactMemoryCopy", fn := fun _ => fun
  | [d1, d2, d3] => { results := [.lit (.bool false)], args := [d1, d2, d3] }
  | _ => none }
def FnExactMemoryCopyWrongFalsely : Prop := fnExactMemoryCopyRow.holds Try.pinned (OpenSpec.ofChange fnExactMemoryCopyWrong)

/-- 'laws.FnExactMemoryClear': WHATEVER THE INPUT: true; the input reads as it did. -/
def fnExactMemoryClearSpec : ChangeSpec := { name := "fnExactMemoryClear", fn := fun _ => fun
  | [d1, d2] => { results := [.lit (.bool true)], args := [d1, d2] }
  | _ => none }
def fnExactMemoryClearRow : OpenClaim := { program := "ytjocofpdbcpdhaa", sum := "400ca0a3a7d5e82562d13f2040cca2b496842faf33ea8f3cb4de43430e3b02a2", func := "loop.example/exopager/laws.FnExactMemoryClear", spec := "fnExactMemoryClear", unfollowed := true, recurses := true, apart := false }
def FnExactMemoryClearSaid : Prop := fnExactMemoryClearRow.holds Try.pinned (OpenSpec.ofChange fnExactMemoryClearSpec)

/-- ITS FALSE NEIGHBOUR: 'it returns false'. Refute it at one input. -/
def fnExactMemoryClearWrong : ChangeSpec := { name := "fnExactMemoryClear", fn := fun _ => fun
  | [d1, d2] => { results := [.lit (.bool false)], args := [d1, d2] }
  | _ => none }
def FnExactMemoryClearWrongFalsely : Prop := fnExactMemoryClearRow.holds Try.pinned (OpenSpec.ofChange fnExactMemoryClearWrong)

/-- 'laws.FnExactWalk': WHATEVER THE INPUT: true; the input reads as it did. -/
def fnExactWalkSpec : ChangeSpec := { name := "fnExactWalk", fn := fun _ => fun
  | [d1, d2, d3] => { results := [.lit (.bool true)], args := [d1, d2, d3] }
  | _ => none }
def fnExactWalkRow : OpenClaim := { program := "ytjocofpdbcpdhaa", sum := "400ca0a3a7d5e82562d13f2040cca2b496842faf33ea8f3cb4de43430e3b02a2", func := "loop.example/exopager/laws.FnExactWalk", spec := "fnExactWalk", unfollowed := true, recurses := true, apart := false }
def FnExactWalkSaid : Prop := fnExactWalkRow.holds Try.pinned (OpenSpec.ofChange fnExactWalkSpec)

/-- ITS FALSE NEIGHBOUR: 'it returns false'. Refute it at one input. -/
def fnExactWalkWrong : ChangeSpec := { name := "fnExactWalk", fn := fun _ => fun
  | [d1, d2, d3] => { results := [.lit (.bool false)], args := [d1, d2, d3] }
  | _ => none }
def FnExactWalkWrongFalsely : Prop := fnExactWalkRow.holds Try.pinned (OpenSpec.ofChange fnExactWalkWrong)

/- THE SECOND FORM. 'bulk': how many values and letters a reading holds, each counted each time it is reached (what is shared counts as often as it is met; a slice's spare places count too). A statement '..UptoSaid' is the law's where the arguments, and the package variables that the reading takes, are together of bulk at most 1048576: NARROWER than '..Said'. Prove '..Said' where nothing that the law and all that it calls make is longer than what came in: it says more and counts as full. Else prove '..UptoSaid'. A law counts once. -/
mutual
def uptoBulk {H : Type} : DataW H → Nat
  | .lit (.string bytes) => bytes.length + 1
  | .lit _ => 1
  | .nil => 1
  | .ptr d => uptoBulk d + 1
  | .slice elems spare => uptoBulkAll elems + uptoBulkAll spare + 1
  | .agg parts => uptoBulkAll parts + 1
  | .iface _ d => uptoBulk d + 1
  | .map entries => uptoBulkEntries entries + 1
  | .held _ => 1
def uptoBulkAll {H : Type} : List (DataW H) → Nat
  | [] => 0
  | d :: r => uptoBulk d + uptoBulkAll r
def uptoBulkEntries {H : Type} : List (Lit × DataW H) → Nat
  | [] => 0
  | x :: r => uptoBulkEntry x + uptoBulkEntries r
def uptoBulkEntry {H : Type} : Lit × DataW H → Nat
  | (.string bytes, d) => bytes.length + uptoBulk d + 1
  | (_, d) => uptoBulk d + 1
 end
def uptoSmall : (H : Type) → List (DataW H) → Bool := fun _ ds => decide (uptoBulkAll ds ≤ 1048576)
def OpenSpec.upto (s : _root_.Go.ChangeSpec) : _root_.Go.OpenSpec := { _root_.Go.OpenSpec.ofChange s with cond := some uptoSmall }

/-- 'laws.FnExactMemoryValid', WHERE WHAT IT READS IS OF BULK AT MOST 1048576: true; the input reads as it did. -/
def fnExactMemoryValidUptoRow : OpenClaim := { program := "ytjocofpdbcpdhaa", sum := "400ca0a3a7d5e82562d13f2040cca2b496842faf33ea8f3cb4de43430e3b02a2", func := "loop.example/exopager/laws.FnExactMemoryValid", spec := "fnExactMemoryValid", unfollowed := true, recurses := true, apart := false, narrowed := true }
def FnExactMemoryValidUptoSaid : Prop := fnExactMemoryValidUptoRow.holds Try.pinned (OpenSpec.upto fnExactMemoryValidSpec)

/-- 'laws.FnExactMemoryGet', WHERE WHAT IT READS IS OF BULK AT MOST 1048576: true; the input reads as it did. -/
def fnExactMemoryGetUptoRow : OpenClaim := { program := "ytjocofpdbcpdhaa", sum := "400ca0a3a7d5e82562d13f2040cca2b496842faf33ea8f3cb4de43430e3b02a2", func := "loop.example/exopager/laws.FnExactMemoryGet", spec := "fnExactMemoryGet", unfollowed := true, recurses := true, apart := false, narrowed := true }
def FnExactMemoryGetUptoSaid : Prop := fnExactMemoryGetUptoRow.holds Try.pinned (OpenSpec.upto fnExactMemoryGetSpec)

/-- 'laws.FnExactMemoryPut', WHERE WHAT IT READS IS OF BULK AT MOST 1048576: true; the input reads as it did. -/
def fnExactMemoryPutUptoRow : OpenClaim := { program := "ytjocofpdbcpdhaa", sum := "400ca0a3a7d5e82562d13f2040cca2b496842faf33ea8f3cb4de43430e3b02a2", func := "loop.example/exopager/laws.FnExactMemoryPut", spec := "fnExactMemoryPut", unfollowed := true, recurses := true, apart := false, narrowed := true }
def FnExactMemoryPutUptoSaid : Prop := fnExactMemoryPutUptoRow.holds Try.pinned (OpenSpec.upto fnExactMemoryPutSpec)

/-- 'laws.FnExactMemoryCopy', WHERE WHAT IT READS IS OF BULK AT MOST 1048576: true; the input reads as it did. -/
def fnExactMemoryCopyUptoRow : OpenClaim := { program := "ytjocofpdbcpdhaa", sum := "400ca0a3a7d5e82562d13f2040cca2b496842faf33ea8f3cb4de43430e3b02a2", func := "loop.example/exopager/laws.FnExactMemoryCopy", spec := "fnExactMemoryCopy", unfollowed := true, recurses := true, apart := false, narrowed := true }
def FnExactMemoryCopyUptoSaid : Prop := fnExactMemoryCopyUptoRow.holds Try.pinned (OpenSpec.upto fnExactMemoryCopySpec)

/-- 'laws.FnExactMemoryClear', WHERE WHAT IT READS IS OF BULK AT MOST 1048576: true; the input reads as it did. -/
def fnExactMemoryClearUptoRow : OpenClaim := { program := "ytjocofpdbcpdhaa", sum := "400ca0a3a7d5e82562d13f2040cca2b496842faf33ea8f3cb4de43430e3b02a2", func := "loop.example/exopager/laws.FnExactMemoryClear", spec := "fnExactMemoryClear", unfollowed := true, recurses := true, apart := false, narrowed := true }
def FnExactMemoryClearUptoSaid : Prop := fnExactMemoryClearUptoRow.holds Try.pinned (OpenSpec.upto fnExactMemoryClearSpec)

/-- 'laws.FnExactWalk', WHERE WHAT IT READS IS OF BULK AT MOST 1048576: true; the input reads as it did. -/
def fnExactWalkUptoRow : OpenClaim := { program := "ytjocofpdbcpdhaa", sum := "400ca0a3a7d5e82562d13f2040cca2b496842faf33ea8f3cb4de43430e3b02a2", func := "loop.example/exopager/laws.FnExactWalk", spec := "fnExactWalk", unfollowed := true, recurses := true, apart := false, narrowed := true }
def FnExactWalkUptoSaid : Prop := fnExactWalkUptoRow.holds Try.pinned (OpenSpec.upto fnExactWalkSpec)

end Rows
end Go.Proofs.Ytjocofpdbcpdhaa

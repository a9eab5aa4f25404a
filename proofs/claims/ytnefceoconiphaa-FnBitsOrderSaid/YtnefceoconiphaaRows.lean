/-
  No cell of these rows narrows 'for every input' (looked for: loops, veiled, ifaces, maps, wideKeys, modest, calm, conditions, laid).
  DERIVED. THE GIVEN ROWS OF THIS SEAT. 13 by the template 'for every input the law returns true; each argument reads behind the call as it read before'; 0 by the template 'total and deterministic' (their statements: YtnefceoconiphaaTotals.lean).
  GIVEN WITH THE SEED: the statements are not yours to turn. If you find one false, say at which input.
  Laid BY PROGRAM, IN A SANDBOX (cutbox-rows.mjs): the forced cells as the released guide's own fill.sh prints them over the translation 730624037d0cf19b… (all of the seat's roots in one cut). By AI agents, Wed Nov 11 2026. No macro, syntax, notation, axiom, sorry.
-/
import Derived.Test.YtnefceoconiphaaChecked
import GoSem.Claim
import GoSem.ClaimJoined
import GoSem.ClaimMapViews
import Derived.JoinedTies
import Derived.KernelRfl
namespace Go.Proofs.Ytnefceoconiphaa
/- THE CELL 'sum', in the pinned program and in every row, IS THE sha256 OF THE DUMP (.gsa) THAT YtnefceoconiphaaProg.lean LOADS. Nothing in Lean hashes anything: it is a label: what it is worth is what the hold of that sum in a sandbox is worth. -/
noncomputable def Try.pinned : Pinned := { name := "ytnefceoconiphaa", sum := "730624037d0cf19b48bcdd0e719d9be3371e59fd50a46321c33ddfb97abf3b9d", checked := Try.checked }
namespace Rows
def none {H : Type} : Left H := { results := [], args := [] }

/-- 'laws.FnExactBitsHas': WHATEVER THE INPUT: true; the input reads as it did. -/
def fnExactBitsHasSpec : ChangeSpec := { name := "fnExactBitsHas", fn := fun _ => fun
  | [d1, d2] => { results := [.lit (.bool true)], args := [d1, d2] }
  | _ => none }
def fnExactBitsHasRow : OpenClaim := { program := "ytnefceoconiphaa", sum := "730624037d0cf19b48bcdd0e719d9be3371e59fd50a46321c33ddfb97abf3b9d", func := "loop.example/exopager/laws.FnExactBitsHas", spec := "fnExactBitsHas", apart := false }
def FnExactBitsHasSaid : Prop := fnExactBitsHasRow.holds Try.pinned (OpenSpec.ofChange fnExactBitsHasSpec)

/-- ITS FALSE NEIGHBOUR: 'it returns false'. Refute it at one input. -/
def fnExactBitsHasWrong : ChangeSpec := { name := "fnExactBitsHas", fn := fun _ => fun
  | [d1, d2] => { results := [.lit (.bool false)], args := [d1, d2] }
  | _ => none }
def FnExactBitsHasWrongFalsely : Prop := fnExactBitsHasRow.holds Try.pinned (OpenSpec.ofChange fnExactBitsHasWrong)

/-- 'laws.FnExactBitsJoin': WHATEVER THE INPUT: true; the input reads as it did. -/
def fnExactBitsJoinSpec : ChangeSpec := { name := "fnExactBitsJoin", fn := fun _ => fun
  | [d1, d2] => { results := [.lit (.bool true)], args := [d1, d2] }
  | _ => none }
def fnExactBitsJoinRow : OpenClaim := { program := "ytnefceoconiphaa", sum := "730624037d0cf19b48bcdd0e719d9be3371e59fd50a46321c33ddfb97abf3b9d", func := "loop.example/exopager/laws.FnExactBitsJoin", spec := "fnExactBitsJoin", apart := false }
def FnExactBitsJoinSaid : Prop := fnExactBitsJoinRow.holds Try.pinned (OpenSpec.ofChange fnExactBitsJoinSpec)

/-- ITS FALSE NEIGHBOUR: 'it returns false'. Refute it at one input. -/
def fnExactBitsJoinWrong : ChangeSpec := { name := "fnExactBitsJoin", fn := fun _ => fun
  | [d1, d2] => { results := [.lit (.bool false)], args := [d1, d2] }
  | _ => none }
def FnExactBitsJoinWrongFalsely : Prop := fnExactBitsJoinRow.holds Try.pinned (OpenSpec.ofChange fnExactBitsJoinWrong)

/-- 'laws.FnExactBitsWithout': WHATEVER THE INPUT: true; the input reads as it did. -/
def fnExactBitsWithoutSpec : ChangeSpec := { name := "fnExactBitsWithout", fn := fun _ => fun
  | [d1, d2] => { results := [.lit (.bool true)], args := [d1, d2] }
  | _ => none }
def fnExactBitsWithoutRow : OpenClaim := { program := "ytnefceoconiphaa", sum := "730624037d0cf19b48bcdd0e719d9be3371e59fd50a46321c33ddfb97abf3b9d", func := "loop.example/exopager/laws.FnExactBitsWithout", spec := "fnExactBitsWithout", apart := false }
def FnExactBitsWithoutSaid : Prop := fnExactBitsWithoutRow.holds Try.pinned (OpenSpec.ofChange fnExactBitsWithoutSpec)

/-- ITS FALSE NEIGHBOUR: 'it returns false'. Refute it at one input. -/
def fnExactBitsWithoutWrong : ChangeSpec := { name := "fnExactBitsWithout", fn := fun _ => fun
  | [d1, d2] => { results := [.lit (.bool false)], args := [d1, d2] }
  | _ => none }
def FnExactBitsWithoutWrongFalsely : Prop := fnExactBitsWithoutRow.holds Try.pinned (OpenSpec.ofChange fnExactBitsWithoutWrong)

/-- 'laws.FnExactBitsOf': WHATEVER THE INPUT: true; the input reads as it did. -/
def fnExactBitsOfSpec : ChangeSpec := { name := "fnExactBitsOf", fn := fun _ => fun
  | [d] => { results := [.lit (.bool true)], args := [d] }
  | _ => none }
def fnExactBitsOfRow : OpenClaim := { program := "ytnefceoconiphaa", sum := "730624037d0cf19b48bcdd0e719d9be3371e59fd50a46321c33ddfb97abf3b9d", func := "loop.example/exopager/laws.FnExactBitsOf", spec := "fnExactBitsOf", apart := false }
def FnExactBitsOfSaid : Prop := fnExactBitsOfRow.holds Try.pinned (OpenSpec.ofChange fnExactBitsOfSpec)

/-- ITS FALSE NEIGHBOUR: 'it returns false'. Refute it at one input. -/
def fnExactBitsOfWrong : ChangeSpec := { name := "fnExactBitsOf", fn := fun _ => fun
  | [d] => { results := [.lit (.bool false)], args := [d] }
  | _ => none }
def FnExactBitsOfWrongFalsely : Prop := fnExactBitsOfRow.holds Try.pinned (OpenSpec.ofChange fnExactBitsOfWrong)

/-- 'laws.FnExactBitsList': WHATEVER THE INPUT: true; the input reads as it did. -/
def fnExactBitsListSpec : ChangeSpec := { name := "fnExactBitsList", fn := fun _ => fun
  | [d] => { results := [.lit (.bool true)], args := [d] }
  | _ => none }
def fnExactBitsListRow : OpenClaim := { program := "ytnefceoconiphaa", sum := "730624037d0cf19b48bcdd0e719d9be3371e59fd50a46321c33ddfb97abf3b9d", func := "loop.example/exopager/laws.FnExactBitsList", spec := "fnExactBitsList", apart := false }
def FnExactBitsListSaid : Prop := fnExactBitsListRow.holds Try.pinned (OpenSpec.ofChange fnExactBitsListSpec)

/-- ITS FALSE NEIGHBOUR: 'it returns false'. Refute it at one input. -/
def fnExactBitsListWrong : ChangeSpec := { name := "fnExactBitsList", fn := fun _ => fun
  | [d] => { results := [.lit (.bool false)], args := [d] }
  | _ => none }
def FnExactBitsListWrongFalsely : Prop := fnExactBitsListRow.holds Try.pinned (OpenSpec.ofChange fnExactBitsListWrong)

/-- 'laws.FnBitsJoin': WHATEVER THE INPUT: true; the input reads as it did. -/
def fnBitsJoinSpec : ChangeSpec := { name := "fnBitsJoin", fn := fun _ => fun
  | [d] => { results := [.lit (.bool true)], args := [d] }
  | _ => none }
def fnBitsJoinRow : OpenClaim := { program := "ytnefceoconiphaa", sum := "730624037d0cf19b48bcdd0e719d9be3371e59fd50a46321c33ddfb97abf3b9d", func := "loop.example/exopager/laws.FnBitsJoin", spec := "fnBitsJoin", apart := false }
def FnBitsJoinSaid : Prop := fnBitsJoinRow.holds Try.pinned (OpenSpec.ofChange fnBitsJoinSpec)

/-- ITS FALSE NEIGHBOUR: 'it returns false'. Refute it at one input. -/
def fnBitsJoinWrong : ChangeSpec := { name := "fnBitsJoin", fn := fun _ => fun
  | [d] => { results := [.lit (.bool false)], args := [d] }
  | _ => none }
def FnBitsJoinWrongFalsely : Prop := fnBitsJoinRow.holds Try.pinned (OpenSpec.ofChange fnBitsJoinWrong)

/-- 'laws.FnBitsHas': WHATEVER THE INPUT: true; the input reads as it did. -/
def fnBitsHasSpec : ChangeSpec := { name := "fnBitsHas", fn := fun _ => fun
  | [d] => { results := [.lit (.bool true)], args := [d] }
  | _ => none }
def fnBitsHasRow : OpenClaim := { program := "ytnefceoconiphaa", sum := "730624037d0cf19b48bcdd0e719d9be3371e59fd50a46321c33ddfb97abf3b9d", func := "loop.example/exopager/laws.FnBitsHas", spec := "fnBitsHas", apart := false }
def FnBitsHasSaid : Prop := fnBitsHasRow.holds Try.pinned (OpenSpec.ofChange fnBitsHasSpec)

/-- ITS FALSE NEIGHBOUR: 'it returns false'. Refute it at one input. -/
def fnBitsHasWrong : ChangeSpec := { name := "fnBitsHas", fn := fun _ => fun
  | [d] => { results := [.lit (.bool false)], args := [d] }
  | _ => none }
def FnBitsHasWrongFalsely : Prop := fnBitsHasRow.holds Try.pinned (OpenSpec.ofChange fnBitsHasWrong)

/-- 'laws.FnBitsWithout': WHATEVER THE INPUT: true; the input reads as it did. -/
def fnBitsWithoutSpec : ChangeSpec := { name := "fnBitsWithout", fn := fun _ => fun
  | [d] => { results := [.lit (.bool true)], args := [d] }
  | _ => none }
def fnBitsWithoutRow : OpenClaim := { program := "ytnefceoconiphaa", sum := "730624037d0cf19b48bcdd0e719d9be3371e59fd50a46321c33ddfb97abf3b9d", func := "loop.example/exopager/laws.FnBitsWithout", spec := "fnBitsWithout", apart := false }
def FnBitsWithoutSaid : Prop := fnBitsWithoutRow.holds Try.pinned (OpenSpec.ofChange fnBitsWithoutSpec)

/-- ITS FALSE NEIGHBOUR: 'it returns false'. Refute it at one input. -/
def fnBitsWithoutWrong : ChangeSpec := { name := "fnBitsWithout", fn := fun _ => fun
  | [d] => { results := [.lit (.bool false)], args := [d] }
  | _ => none }
def FnBitsWithoutWrongFalsely : Prop := fnBitsWithoutRow.holds Try.pinned (OpenSpec.ofChange fnBitsWithoutWrong)

/-- 'laws.FnBitsParts': WHATEVER THE INPUT: true; the input reads as it did. -/
def fnBitsPartsSpec : ChangeSpec := { name := "fnBitsParts", fn := fun _ => fun
  | [d] => { results := [.lit (.bool true)], args := [d] }
  | _ => none }
def fnBitsPartsRow : OpenClaim := { program := "ytnefceoconiphaa", sum := "730624037d0cf19b48bcdd0e719d9be3371e59fd50a46321c33ddfb97abf3b9d", func := "loop.example/exopager/laws.FnBitsParts", spec := "fnBitsParts", apart := false }
def FnBitsPartsSaid : Prop := fnBitsPartsRow.holds Try.pinned (OpenSpec.ofChange fnBitsPartsSpec)

/-- ITS FALSE NEIGHBOUR: 'it returns false'. Refute it at one input. -/
def fnBitsPartsWrong : ChangeSpec := { name := "fnBitsParts", fn := fun _ => fun
  | [d] => { results := [.lit (.bool false)], args := [d] }
  | _ => none }
def FnBitsPartsWrongFalsely : Prop := fnBitsPartsRow.holds Try.pinned (OpenSpec.ofChange fnBitsPartsWrong)

/-- 'laws.FnBitsOrder': WHATEVER THE INPUT: true; the input reads as it did. -/
def fnBitsOrderSpec : ChangeSpec := { name := "fnBitsOrder", fn := fun _ => fun
  | [d] => { results := [.lit (.bool true)], args := [d] }
  | _ => none }
def fnBitsOrderRow : OpenClaim := { program := "ytnefceoconiphaa", sum := "730624037d0cf19b48bcdd0e719d9be3371e59fd50a46321c33ddfb97abf3b9d", func := "loop.example/exopager/laws.FnBitsOrder", spec := "fnBitsOrder", apart := false }
def FnBitsOrderSaid : Prop := fnBitsOrderRow.holds Try.pinned (OpenSpec.ofChange fnBitsOrderSpec)

/-- ITS FALSE NEIGHBOUR: 'it returns false'. Refute it at one input. -/
def fnBitsOrderWrong : ChangeSpec := { name := "fnBitsOrder", fn := fun _ => fun
  | [d] => { results := [.lit (.bool false)], args := [d] }
  | _ => none }
def FnBitsOrderWrongFalsely : Prop := fnBitsOrderRow.holds Try.pinned (OpenSpec.ofChange fnBitsOrderWrong)

/-- 'laws.FnBitsList': WHATEVER THE INPUT: true; the input reads as it did. -/
def fnBitsListSpec : ChangeSpec := { name := "fnBitsList", fn := fun _ => fun
  | [d] => { results := [.lit (.bool true)], args := [d] }
  | _ => none }
def fnBitsListRow : OpenClaim := { program := "ytnefceoconiphaa", sum := "730624037d0cf19b48bcdd0e719d9be3371e59fd50a46321c33ddfb97abf3b9d", func := "loop.example/exopager/laws.FnBitsList", spec := "fnBitsList", apart := false }
def FnBitsListSaid : Prop := fnBitsListRow.holds Try.pinned (OpenSpec.ofChange fnBitsListSpec)

/-- ITS FALSE NEIGHBOUR: 'it returns false'. Refute it at one input. -/
def fnBitsListWrong : ChangeSpec := { name := "fnBitsList", fn := fun _ => fun
  | [d] => { results := [.lit (.bool false)], args := [d] }
  | _ => none }
def FnBitsListWrongFalsely : Prop := fnBitsListRow.holds Try.pinned (OpenSpec.ofChange fnBitsListWrong)

/-- 'laws.FnBitsNone': WHATEVER THE INPUT: true; the input reads as it did. -/
def fnBitsNoneSpec : ChangeSpec := { name := "fnBitsNone", fn := fun _ => fun
  | [d] => { results := [.lit (.bool true)], args := [d] }
  | _ => none }
def fnBitsNoneRow : OpenClaim := { program := "ytnefceoconiphaa", sum := "730624037d0cf19b48bcdd0e719d9be3371e59fd50a46321c33ddfb97abf3b9d", func := "loop.example/exopager/laws.FnBitsNone", spec := "fnBitsNone", apart := false }
def FnBitsNoneSaid : Prop := fnBitsNoneRow.holds Try.pinned (OpenSpec.ofChange fnBitsNoneSpec)

/-- ITS FALSE NEIGHBOUR: 'it returns false'. Refute it at one input. -/
def fnBitsNoneWrong : ChangeSpec := { name := "fnBitsNone", fn := fun _ => fun
  | [d] => { results := [.lit (.bool false)], args := [d] }
  | _ => none }
def FnBitsNoneWrongFalsely : Prop := fnBitsNoneRow.holds Try.pinned (OpenSpec.ofChange fnBitsNoneWrong)

/-- 'laws.FnBits': WHATEVER THE INPUT: true; the input reads as it did. -/
def fnBitsSpec : ChangeSpec := { name := "fnBits", fn := fun _ => fun
  | [d] => { results := [.lit (.bool true)], args := [d] }
  | _ => none }
def fnBitsRow : OpenClaim := { program := "ytnefceoconiphaa", sum := "730624037d0cf19b48bcdd0e719d9be3371e59fd50a46321c33ddfb97abf3b9d", func := "loop.example/exopager/laws.FnBits", spec := "fnBits", apart := false }
def FnBitsSaid : Prop := fnBitsRow.holds Try.pinned (OpenSpec.ofChange fnBitsSpec)

/-- ITS FALSE NEIGHBOUR: 'it returns false'. Refute it at one input. -/
def fnBitsWrong : ChangeSpec := { name := "fnBits", fn := fun _ => fun
  | [d] => { results := [.lit (.bool false)], args := [d] }
  | _ => none }
def FnBitsWrongFalsely : Prop := fnBitsRow.holds Try.pinned (OpenSpec.ofChange fnBitsWrong)

/- THE SECOND FORM. 'bulk': how many values and letters a reading holds, each counted each time it is reached (what is shared counts as often as it is met; a slice's spare places count too). A statement '..UptoSaid' is the law's where the arguments, and the package variables that the reading takes, are together of bulk at most 1048576: NARROWER than '..Said'. Prove '..Said' where nothing that the law and all that it calls make is longer than what came in: it says more and counts as full. Else prove '..UptoSaid'. A law counts once. -/
mutual
def uptoBulk {H : Type} : DataW H → Nat
  | .lit (.string bytes) => bytes.length + 1
  | .lit _ => 1
  | .nil => 1
  | .ptr d => uptoBulk d + 1
  | .slice elems spare => uptoBulkAll elems + uptoBulkAll spare + 1
  | .agg parts => uptoBulkAll parts + 1
  | .iface _ d => uptoBulk d + 1
  | .map entries => uptoBulkEntries entries + 1
  | .held _ => 1
def uptoBulkAll {H : Type} : List (DataW H) → Nat
  | [] => 0
  | d :: r => uptoBulk d + uptoBulkAll r
def uptoBulkEntries {H : Type} : List (Lit × DataW H) → Nat
  | [] => 0
  | x :: r => uptoBulkEntry x + uptoBulkEntries r
def uptoBulkEntry {H : Type} : Lit × DataW H → Nat
  | (.string bytes, d) => bytes.length + uptoBulk d + 1
  | (_, d) => uptoBulk d + 1
 end
def uptoSmall : (H : Type) → List (DataW H) → Bool := fun _ ds => decide (uptoBulkAll ds ≤ 1048576)
def OpenSpec.upto (s : _root_.Go.ChangeSpec) : _root_.Go.OpenSpec := { _root_.Go.OpenSpec.ofChange s with cond := some uptoSmall }

/-- 'laws.FnExactBitsHas', WHERE WHAT IT READS IS OF BULK AT MOST 1048576: true; the input reads as it did. -/
def fnExactBitsHasUptoRow : OpenClaim := { program := "ytnefceoconiphaa", sum := "730624037d0cf19b48bcdd0e719d9be3371e59fd50a46321c33ddfb97abf3b9d", func := "loop.example/exopager/laws.FnExactBitsHas", spec := "fnExactBitsHas", apart := false, narrowed := true }
def FnExactBitsHasUptoSaid : Prop := fnExactBitsHasUptoRow.holds Try.pinned (OpenSpec.upto fnExactBitsHasSpec)

/-- 'laws.FnExactBitsJoin', WHERE WHAT IT READS IS OF BULK AT MOST 1048576: true; the input reads as it did. -/
def fnExactBitsJoinUptoRow : OpenClaim := { program := "ytnefceoconiphaa", sum := "730624037d0cf19b48bcdd0e719d9be3371e59fd50a46321c33ddfb97abf3b9d", func := "loop.example/exopager/laws.FnExactBitsJoin", spec := "fnExactBitsJoin", apart := false, narrowed := true }
def FnExactBitsJoinUptoSaid : Prop := fnExactBitsJoinUptoRow.holds Try.pinned (OpenSpec.upto fnExactBitsJoinSpec)

/-- 'laws.FnExactBitsWithout', WHERE WHAT IT READS IS OF BULK AT MOST 1048576: true; the input reads as it did. -/
def fnExactBitsWithoutUptoRow : OpenClaim := { program := "ytnefceoconiphaa", sum := "730624037d0cf19b48bcdd0e719d9be3371e59fd50a46321c33ddfb97abf3b9d", func := "loop.example/exopager/laws.FnExactBitsWithout", spec := "fnExactBitsWithout", apart := false, narrowed := true }
def FnExactBitsWithoutUptoSaid : Prop := fnExactBitsWithoutUptoRow.holds Try.pinned (OpenSpec.upto fnExactBitsWithoutSpec)

/-- 'laws.FnExactBitsOf', WHERE WHAT IT READS IS OF BULK AT MOST 1048576: true; the input reads as it did. -/
def fnExactBitsOfUptoRow : OpenClaim := { program := "ytnefceoconiphaa", sum := "730624037d0cf19b48bcdd0e719d9be3371e59fd50a46321c33ddfb97abf3b9d", func := "loop.example/exopager/laws.FnExactBitsOf", spec := "fnExactBitsOf", apart := false, narrowed := true }
def FnExactBitsOfUptoSaid : Prop := fnExactBitsOfUptoRow.holds Try.pinned (OpenSpec.upto fnExactBitsOfSpec)

/-- 'laws.FnExactBitsList', WHERE WHAT IT READS IS OF BULK AT MOST 1048576: true; the input reads as it did. -/
def fnExactBitsListUptoRow : OpenClaim := { program := "ytnefceoconiphaa", sum := "730624037d0cf19b48bcdd0e719d9be3371e59fd50a46321c33ddfb97abf3b9d", func := "loop.example/exopager/laws.FnExactBitsList", spec := "fnExactBitsList", apart := false, narrowed := true }
def FnExactBitsListUptoSaid : Prop := fnExactBitsListUptoRow.holds Try.pinned (OpenSpec.upto fnExactBitsListSpec)

/-- 'laws.FnBitsJoin', WHERE WHAT IT READS IS OF BULK AT MOST 1048576: true; the input reads as it did. -/
def fnBitsJoinUptoRow : OpenClaim := { program := "ytnefceoconiphaa", sum := "730624037d0cf19b48bcdd0e719d9be3371e59fd50a46321c33ddfb97abf3b9d", func := "loop.example/exopager/laws.FnBitsJoin", spec := "fnBitsJoin", apart := false, narrowed := true }
def FnBitsJoinUptoSaid : Prop := fnBitsJoinUptoRow.holds Try.pinned (OpenSpec.upto fnBitsJoinSpec)

/-- 'laws.FnBitsHas', WHERE WHAT IT READS IS OF BULK AT MOST 1048576: true; the input reads as it did. -/
def fnBitsHasUptoRow : OpenClaim := { program := "ytnefceoconiphaa", sum := "730624037d0cf19b48bcdd0e719d9be3371e59fd50a46321c33ddfb97abf3b9d", func := "loop.example/exopager/laws.FnBitsHas", spec := "fnBitsHas", apart := false, narrowed := true }
def FnBitsHasUptoSaid : Prop := fnBitsHasUptoRow.holds Try.pinned (OpenSpec.upto fnBitsHasSpec)

/-- 'laws.FnBitsWithout', WHERE WHAT IT READS IS OF BULK AT MOST 1048576: true; the input reads as it did. -/
def fnBitsWithoutUptoRow : OpenClaim := { program := "ytnefceoconiphaa", sum := "730624037d0cf19b48bcdd0e719d9be3371e59fd50a46321c33ddfb97abf3b9d", func := "loop.example/exopager/laws.FnBitsWithout", spec := "fnBitsWithout", apart := false, narrowed := true }
def FnBitsWithoutUptoSaid : Prop := fnBitsWithoutUptoRow.holds Try.pinned (OpenSpec.upto fnBitsWithoutSpec)

/-- 'laws.FnBitsParts', WHERE WHAT IT READS IS OF BULK AT MOST 1048576: true; the input reads as it did. -/
def fnBitsPartsUptoRow : OpenClaim := { program := "ytnefceoconiphaa", sum := "730624037d0cf19b48bcdd0e719d9be3371e59fd50a46321c33ddfb97abf3b9d", func := "loop.example/exopager/laws.FnBitsParts", spec := "fnBitsParts", apart := false, narrowed := true }
def FnBitsPartsUptoSaid : Prop := fnBitsPartsUptoRow.holds Try.pinned (OpenSpec.upto fnBitsPartsSpec)

/-- 'laws.FnBitsOrder', WHERE WHAT IT READS IS OF BULK AT MOST 1048576: true; the input reads as it did. -/
def fnBitsOrderUptoRow : OpenClaim := { program := "ytnefceoconiphaa", sum := "730624037d0cf19b48bcdd0e719d9be3371e59fd50a46321c33ddfb97abf3b9d", func := "loop.example/exopager/laws.FnBitsOrder", spec := "fnBitsOrder", apart := false, narrowed := true }
def FnBitsOrderUptoSaid : Prop := fnBitsOrderUptoRow.holds Try.pinned (OpenSpec.upto fnBitsOrderSpec)

/-- 'laws.FnBitsList', WHERE WHAT IT READS IS OF BULK AT MOST 1048576: true; the input reads as it did. -/
def fnBitsListUptoRow : OpenClaim := { program := "ytnefceoconiphaa", sum := "730624037d0cf19b48bcdd0e719d9be3371e59fd50a46321c33ddfb97abf3b9d", func := "loop.example/exopager/laws.FnBitsList", spec := "fnBitsList", apart := false, narrowed := true }
def FnBitsListUptoSaid : Prop := fnBitsListUptoRow.holds Try.pinned (OpenSpec.upto fnBitsListSpec)

/-- 'laws.FnBitsNone', WHERE WHAT IT READS IS OF BULK AT MOST 1048576: true; the input reads as it did. -/
def fnBitsNoneUptoRow : OpenClaim := { program := "ytnefceoconiphaa", sum := "730624037d0cf19b48bcdd0e719d9be3371e59fd50a46321c33ddfb97abf3b9d", func := "loop.example/exopager/laws.FnBitsNone", spec := "fnBitsNone", apart := false, narrowed := true }
def FnBitsNoneUptoSaid : Prop := fnBitsNoneUptoRow.holds Try.pinned (OpenSpec.upto fnBitsNoneSpec)

/-- 'laws.FnBits', WHERE WHAT IT READS IS OF BULK AT MOST 1048576: true; the input reads as it did. -/
def fnBitsUptoRow : OpenClaim := { program := "ytnefceoconiphaa", sum := "730624037d0cf19b48bcdd0e719d9be3371e59fd50a46321c33ddfb97abf3b9d", func := "loop.example/exopager/laws.FnBits", spec := "fnBits", apart := false, narrowed := true }
def FnBitsUptoSaid : Prop := fnBitsUptoRow.holds Try.pinned (OpenSpec.upto fnBitsSpec)

end Rows
end Go.Proofs.Ytnefceoconiphaa

/-
  No cell of these rows narrows 'for every input' (looked for: loops, veiled, ifaces, maps, wideKeys, modest, calm, conditions, laid).
  DERIVED. THE GIVEN ROWS OF THIS SEAT. 7 by the template 'for every input the law returns true; each argument reads behind the call as it read before'; 0 by the template 'total and deterministic' (their statements: YthgdhikgknmioaaTotals.lean).
  GIVEN WITH THE SEED: the statements are not yours to turn. If you find one false, say at which input.
  Laid BY PROGRAM, IN A SANDBOX (cutbox-rows.mjs): the forced cells as the released guide's own fill.sh prints them over the translation b8c841d387b12d2f… (all of the seat's roots in one cut). By AI agents, Wed Nov 11 2026. No macro, syntax, notation, axiom, sorry.
-/
import Derived.Test.YthgdhikgknmioaaChecked
import GoSem.Claim
import GoSem.ClaimJoined
import GoSem.ClaimMapViews
import Derived.JoinedTies
import Derived.KernelRfl
namespace Go.Proofs.Ythgdhikgknmioaa
/- THE CELL 'sum', in the pinned program and in every row, IS THE sha256 OF THE DUMP (.gsa) THAT YthgdhikgknmioaaProg.lean LOADS. Nothing in Lean hashes anything: it is a label: what it is worth is what the hold of that sum in a sandbox is worth. -/
noncomputable def Try.pinned : Pinned := { name := "ythgdhikgknmioaa", sum := "b8c841d387b12d2f4bf192866383fc4611c3e05990d007f240a8f280fc76d867", checked := Try.checked }
namespace Rows
def none {H : Type} : Left H := { results := [], args := [] }

/-- 'laws.FnCachePart': WHATEVER THE INPUT: true; the input reads as it did. -/
def fnCachePartSpec : ChangeSpec := { name := "fnCachePart", fn := fun _ => fun
  | [d1, d2] => { results := [.lit (.bool true)], args := [d1, d2] }
  | _ => none }
def fnCachePartRow : OpenClaim := { program := "ythgdhikgknmioaa", sum := "b8c841d387b12d2f4bf192866383fc4611c3e05990d007f240a8f280fc76d867", func := "loop.example/exopager/laws.FnCachePart", spec := "fnCachePart", unfollowed := true, recurses := true, apart := false }
def FnCachePartSaid : Prop := fnCachePartRow.holds Try.pinned (OpenSpec.ofChange fnCachePartSpec)

/-- ITS FALSE NEIGHBOUR: 'it returns false'. Refute it at one input. -/
def fnCachePartWrong : ChangeSpec := { name := "fnCachePart", fn := fun _ => fun
  | [d1, d2] => { results := [.lit (.bool false)], args := [d1, d2] }
  | _ => none }
def FnCachePartWrongFalsely : Prop := fnCachePartRow.holds Try.pinned (OpenSpec.ofChange fnCachePartWrong)

/-- 'laws.FnCacheFind': WHATEVER THE INPUT: true; the input reads as it did. -/
def fnCacheFindSpec : ChangeSpec := { name := "fnCacheFind", fn := fun _ => fun
  | [d] => { results := [.lit (.bool true)], args := [d] }
  | _ => none }
def fnCacheFindRow : OpenClaim := { program := "ythgdhikgknmioaa", sum := "b8c841d387b12d2f4bf192866383fc4611c3e05990d007f240a8f280fc76d867", func := "loop.example/exopager/laws.FnCacheFind", spec := "fnCacheFind", unfollowed := true, recurses := true, apart := false }
def FnCacheFindSaid : Prop := fnCacheFindRow.holds Try.pinned (OpenSpec.ofChange fnCacheFindSpec)

/-- ITS FALSE NEIGHBOUR: 'it returns false'. Refute it at one input. -/
def fnCacheFindWrong : ChangeSpec := { name := "fnCacheFind", fn := fun _ => fun
  | [d] => { results := [.lit (.bool false)], args := [d] }
  | _ => none }
def FnCacheFindWrongFalsely : Prop := fnCacheFindRow.holds Try.pinned (OpenSpec.ofChange fnCacheFindWrong)

/-- 'laws.FnCacheFindDrop': WHATEVER THE INPUT: true; the input reads as it did. -/
def fnCacheFindDropSpec : ChangeSpec := { name := "fnCacheFindDrop", fn := fun _ => fun
  | [d] => { results := [.lit (.bool true)], args := [d] }
  | _ => none }
def fnCacheFindDropRow : OpenClaim := { program := "ythgdhikgknmioaa", sum := "b8c841d387b12d2f4bf192866383fc4611c3e05990d007f240a8f280fc76d867", func := "loop.example/exopager/laws.FnCacheFindDrop", spec := "fnCacheFindDrop", unfollowed := true, recurses := true, apart := false }
def FnCacheFindDropSaid : Prop := fnCacheFindDropRow.holds Try.pinned (OpenSpec.ofChange fnCacheFindDropSpec)

/-- ITS FALSE NEIGHBOUR: 'it returns false'. Refute it at one input. -/
def fnCacheFindDropWrong : ChangeSpec := { name := "fnCacheFindDrop", fn := fun _ => fun
  | [d] => { results := [.lit (.bool false)], args := [d] }
  | _ => none }
def FnCacheFindDropWrongFalsely : Prop := fnCacheFindDropRow.holds Try.pinned (OpenSpec.ofChange fnCacheFindDropWrong)

/-- 'laws.FnCacheDrop': WHATEVER THE INPUT: true; the input reads as it did. -/
def fnCacheDropSpec : ChangeSpec := { name := "fnCacheDrop", fn := fun _ => fun
  | [d] => { results := [.lit (.bool true)], args := [d] }
  | _ => none }
def fnCacheDropRow : OpenClaim := { program := "ythgdhikgknmioaa", sum := "b8c841d387b12d2f4bf192866383fc4611c3e05990d007f240a8f280fc76d867", func := "loop.example/exopager/laws.FnCacheDrop", spec := "fnCacheDrop", unfollowed := true, recurses := true, apart := false }
def FnCacheDropSaid : Prop := fnCacheDropRow.holds Try.pinned (OpenSpec.ofChange fnCacheDropSpec)

/-- ITS FALSE NEIGHBOUR: 'it returns false'. Refute it at one input. -/
def fnCacheDropWrong : ChangeSpec := { name := "fnCacheDrop", fn := fun _ => fun
  | [d] => { results := [.lit (.bool false)], args := [d] }
  | _ => none }
def FnCacheDropWrongFalsely : Prop := fnCacheDropRow.holds Try.pinned (OpenSpec.ofChange fnCacheDropWrong)

/-- 'laws.FnCacheOthers': WHATEVER THE INPUT: true; the input reads as it did. -/
def fnCacheOthersSpec : ChangeSpec := { name := "fnCacheOthers", fn := fun _ => fun
  | [d] => { results := [.lit (.bool true)], args := [d] }
  | _ => none }
def fnCacheOthersRow : OpenClaim := { program := "ythgdhikgknmioaa", sum := "b8c841d387b12d2f4bf192866383fc4611c3e05990d007f240a8f280fc76d867", func := "loop.example/exopager/laws.FnCacheOthers", spec := "fnCacheOthers", unfollowed := true, recurses := true, apart := false }
def FnCacheOthersSaid : Prop := fnCacheOthersRow.holds Try.pinned (OpenSpec.ofChange fnCacheOthersSpec)

/-- ITS FALSE NEIGHBOUR: 'it returns false'. Refute it at one input. -/
def fnCacheOthersWrong : ChangeSpec := { name := "fnCacheOthers", fn := fun _ => fun
  | [d] => { results := [.lit (.bool false)], args := [d] }
  | _ => none }
def FnCacheOthersWrongFalsely : Prop := fnCacheOthersRow.holds Try.pinned (OpenSpec.ofChange fnCacheOthersWrong)

/-- 'laws.FnCacheTwice': WHATEVER THE INPUT: true; the input reads as it did. -/
def fnCacheTwiceSpec : ChangeSpec := { name := "fnCacheTwice", fn := fun _ => fun
  | [d] => { results := [.lit (.bool true)], args := [d] }
  | _ => none }
def fnCacheTwiceRow : OpenClaim := { program := "ythgdhikgknmioaa", sum := "b8c841d387b12d2f4bf192866383fc4611c3e05990d007f240a8f280fc76d867", func := "loop.example/exopager/laws.FnCacheTwice", spec := "fnCacheTwice", unfollowed := true, recurses := true, apart := false }
def FnCacheTwiceSaid : Prop := fnCacheTwiceRow.holds Try.pinned (OpenSpec.ofChange fnCacheTwiceSpec)

/-- ITS FALSE NEIGHBOUR: 'it returns false'. Refute it at one input. -/
def fnCacheTwiceWrong : ChangeSpec := { name := "fnCacheTwice", fn := fun _ => fun
  | [d] => { results := [.lit (.bool false)], args := [d] }
  | _ => none }
def FnCacheTwiceWrongFalsely : Prop := fnCacheTwiceRow.holds Try.pinned (OpenSpec.ofChange fnCacheTwiceWrong)

/-- 'laws.FnCachePut': WHATEVER THE INPUT: true; the input reads as it did. -/
def fnCachePutSpec : ChangeSpec := { name := "fnCachePut", fn := fun _ => fun
  | [d] => { results := [.lit (.bool true)], args := [d] }
  | _ => none }
def fnCachePutRow : OpenClaim := { program := "ythgdhikgknmioaa", sum := "b8c841d387b12d2f4bf192866383fc4611c3e05990d007f240a8f280fc76d867", func := "loop.example/exopager/laws.FnCachePut", spec := "fnCachePut", unfollowed := true, recurses := true, apart := false }
def FnCachePutSaid : Prop := fnCachePutRow.holds Try.pinned (OpenSpec.ofChange fnCachePutSpec)

/-- ITS FALSE NEIGHBOUR: 'it returns false'. Refute it at one input. -/
def fnCachePutWrong : ChangeSpec := { name := "fnCachePut", fn := fun _ => fun
  | [d] => { results := [.lit (.bool false)], args := [d] }
  | _ => none }
def FnCachePutWrongFalsely : Prop := fnCachePutRow.holds Try.pinned (OpenSpec.ofChange fnCachePutWrong)

/- THE SECOND FORM. 'bulk': how many values and letters a reading holds, each counted each time it is reached (what is shared counts as often as it is met; a slice's spare places count too). A statement '..UptoSaid' is the law's where the arguments, and the package variables that the reading takes, are together of bulk at most 1048576: NARROWER than '..Said'. Prove '..Said' where nothing that the law and all that it calls make is longer than what came in: it says more and counts as full. Else prove '..UptoSaid'. A law counts once. -/
mutual
def uptoBulk {H : Type} : DataW H → Nat
  | .lit (.string bytes) => bytes.length + 1
  | .lit _ => 1
  | .nil => 1
  | .ptr d => uptoBulk d + 1
  | .slice elems spare => uptoBulkAll elems + uptoBulkAll spare + 1
  | .agg parts => uptoBulkAll parts + 1
  | .iface _ d => uptoBulk d + 1
  | .map entries => uptoBulkEntries entries + 1
  | .held _ => 1
def uptoBulkAll {H : Type} : List (DataW H) → Nat
  | [] => 0
  | d :: r => uptoBulk d + uptoBulkAll r
def uptoBulkEntries {H : Type} : List (Lit × DataW H) → Nat
  | [] => 0
  | x :: r => uptoBulkEntry x + uptoBulkEntries r
def uptoBulkEntry {H : Type} : Lit × DataW H → Nat
  | (.string bytes, d) => bytes.length + uptoBulk d + 1
  | (_, d) => uptoBulk d + 1
 end
def uptoSmall : (H : Type) → List (DataW H) → Bool := fun _ ds => decide (uptoBulkAll ds ≤ 1048576)
def OpenSpec.upto (s : _root_.Go.ChangeSpec) : _root_.Go.OpenSpec := { _root_.Go.OpenSpec.ofChange s with cond := some uptoSmall }

/-- 'laws.FnCachePart', WHERE WHAT IT READS IS OF BULK AT MOST 1048576: true; the input reads as it did. -/
def fnCachePartUptoRow : OpenClaim := { program := "ythgdhikgknmioaa", sum := "b8c841d387b12d2f4bf192866383fc4611c3e05990d007f240a8f280fc76d867", func := "loop.example/exopager/laws.FnCachePart", spec := "fnCachePart", unfollowed := true, recurses := true, apart := false, narrowed := true }
def FnCachePartUptoSaid : Prop := fnCachePartUptoRow.holds Try.pinned (OpenSpec.upto fnCachePartSpec)

/-- 'laws.FnCacheFind', WHERE WHAT IT READS IS OF BULK AT MOST 1048576: true; the input reads as it did. -/
def fnCacheFindUptoRow : OpenClaim := { program := "ythgdhikgknmioaa", sum := "b8c841d387b12d2f4bf192866383fc4611c3e05990d007f240a8f280fc76d867", func := "loop.example/exopager/laws.FnCacheFind", spec := "fnCacheFind", unfollowed := true, recurses := true, apart := false, narrowed := true }
def FnCacheFindUptoSaid : Prop := fnCacheFindUptoRow.holds Try.pinned (OpenSpec.upto fnCacheFindSpec)

/-- 'laws.FnCacheFindDrop', WHERE WHAT IT READS IS OF BULK AT MOST 1048576: true; the input reads as it did. -/
def fnCacheFindDropUptoRow : OpenClaim := { program := "ythgdhikgknmioaa", sum := "b8c841d387b12d2f4bf192866383fc4611c3e05990d007f240a8f280fc76d867", func := "loop.example/exopager/laws.FnCacheFindDrop", spec := "fnCacheFindDrop", unfollowed := true, recurses := true, apart := false, narrowed := true }
def FnCacheFindDropUptoSaid : Prop := fnCacheFindDropUptoRow.holds Try.pinned (OpenSpec.upto fnCacheFindDropSpec)

/-- 'laws.FnCacheDrop', WHERE WHAT IT READS IS OF BULK AT MOST 1048576: true; the input reads as it did. -/
def fnCacheDropUptoRow : OpenClaim := { program := "ythgdhikgknmioaa", sum := "b8c841d387b12d2f4bf192866383fc4611c3e05990d007f240a8f280fc76d867", func := "loop.example/exopager/laws.FnCacheDrop", spec := "fnCacheDrop", unfollowed := true, recurses := true, apart := false, narrowed := true }
def FnCacheDropUptoSaid : Prop := fnCacheDropUptoRow.holds Try.pinned (OpenSpec.upto fnCacheDropSpec)

/-- 'laws.FnCacheOthers', WHERE WHAT IT READS IS OF BULK AT MOST 1048576: true; the input reads as it did. -/
def fnCacheOthersUptoRow : OpenClaim := { program := "ythgdhikgknmioaa", sum := "b8c841d387b12d2f4bf192866383fc4611c3e05990d007f240a8f280fc76d867", func := "loop.example/exopager/laws.FnCacheOthers", spec := "fnCacheOthers", unfollowed := true, recurses := true, apart := false, narrowed := true }
def FnCacheOthersUptoSaid : Prop := fnCacheOthersUptoRow.holds Try.pinned (OpenSpec.upto fnCacheOthersSpec)

/-- 'laws.FnCacheTwice', WHERE WHAT IT READS IS OF BULK AT MOST 1048576: true; the input reads as it did. -/
def fnCacheTwiceUptoRow : OpenClaim := { program := "ythgdhikgknmioaa", sum := "b8c841d387b12d2f4bf192866383fc4611c3e05990d007f240a8f280fc76d867", func := "loop.example/exopager/laws.FnCacheTwice", spec := "fnCacheTwice", unfollowed := true, recurses := true, apart := false, narrowed := true }
def FnCacheTwiceUptoSaid : Prop := fnCacheTwiceUptoRow.holds Try.pinned (OpenSpec.upto fnCacheTwiceSpec)

/-- 'laws.FnCachePut', WHERE WHAT IT READS IS OF BULK AT MOST 1048576: true; the input reads as it did. -/
def fnCachePutUptoRow : OpenClaim := { program := "ythgdhikgknmioaa", sum := "b8c841d387b12d2f4bf192866383fc4611c3e05990d007f240a8f280fc76d867", func := "loop.example/exopager/laws.FnCachePut", spec := "fnCachePut", unfollowed := true, recurses := true, apart := false, narrowed := true }
def FnCachePutUptoSaid : Prop := fnCachePutUptoRow.holds Try.pinned (OpenSpec.upto fnCachePutSpec)

end Rows
end Go.Proofs.Ythgdhikgknmioaa

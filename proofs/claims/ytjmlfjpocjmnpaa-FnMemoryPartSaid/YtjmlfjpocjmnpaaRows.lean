/-
  No cell of these rows narrows 'for every input' (looked for: loops, veiled, ifaces, maps, wideKeys, modest, calm, conditions, laid).
  DERIVED. THE GIVEN ROWS OF THIS SEAT. 6 by the template 'for every input the law returns true; each argument reads behind the call as it read before'; 0 by the template 'total and deterministic' (their statements: YtjmlfjpocjmnpaaTotals.lean).
  GIVEN WITH THE SEED: the statements are not yours to turn. If you find one false, say at which input.
  Laid BY PROGRAM, IN A SANDBOX (cutbox-rows.mjs): the forced cells as the released guide's own fill.sh prints them over the translation 53217cde9a639333… (all of the seat's roots in one cut). By AI agents, Wed Nov 11 2026. No macro, syntax, notation, axiom, sorry.
-/
import Derived.Test.YtjmlfjpocjmnpaaChecked
import GoSem.Claim
import GoSem.ClaimJoined
import GoSem.ClaimMapViews
import Derived.JoinedTies
import Derived.KernelRfl
namespace Go.Proofs.Ytjmlfjpocjmnpaa
/- THE CELL 'sum', in the pinned program and in every row, IS THE sha256 OF THE DUMP (.gsa) THAT YtjmlfjpocjmnpaaProg.lean LOADS. Nothing in Lean hashes anything: it is a label: what it is worth is what the hold of that sum in a sandbox is worth. -/
noncomputable def Try.pinned : Pinned := { name := "ytjmlfjpocjmnpaa", sum := "53217cde9a639333d68f523ab78aee0fd9728faeebfd26312f84daf4fa0f8feb", checked := Try.checked }
namespace Rows
def none {H : Type} : Left H := { results := [], args := [] }

/-- 'laws.FnMemoryPart': WHATEVER THE INPUT: true; the input reads as it did. -/
def fnMemoryPartSpec : ChangeSpec := { name := "fnMemoryPart", fn := fun _ => fun
  | [d1, d2] => { results := [.lit (.bool true)], args := [d1, d2] }
  | _ => none }
def fnMemoryPartRow : OpenClaim := { program := "ytjmlfjpocjmnpaa", sum := "53217cde9a639333d68f523ab78aee0fd9728faeebfd26312f84daf4fa0f8feb", func := "loop.example/exopager/laws.FnMemoryPart", spec := "fnMemoryPart", unfollowed := true, recurses := true, apart := false }
def FnMemoryPartSaid : Prop := fnMemoryPartRow.holds Try.pinned (OpenSpec.ofChange fnMemoryPartSpec)

/-- ITS FALSE NEIGHBOUR: 'it returns false'. Refute it at one input. -/
def fnMemoryPartWrong : ChangeSpec := { name := "fnMemoryPart", fn := fun _ => fun
  | [d1, d2] => { results := [.lit (.bool false)], args := [d1, d2] }
  | _ => none }
def FnMemoryPartWrongFalsely : Prop := fnMemoryPartRow.holds Try.pinned (OpenSpec.ofChange fnMemoryPartWrong)

/-- 'laws.FnMemoryGet': WHATEVER THE INPUT: true; the input reads as it did. -/
def fnMemoryGetSpec : ChangeSpec := { name := "fnMemoryGet", fn := fun _ => fun
  | [d] => { results := [.lit (.bool true)], args := [d] }
  | _ => none }
def fnMemoryGetRow : OpenClaim := { program := "ytjmlfjpocjmnpaa", sum := "53217cde9a639333d68f523ab78aee0fd9728faeebfd26312f84daf4fa0f8feb", func := "loop.example/exopager/laws.FnMemoryGet", spec := "fnMemoryGet", unfollowed := true, recurses := true, apart := false }
def FnMemoryGetSaid : Prop := fnMemoryGetRow.holds Try.pinned (OpenSpec.ofChange fnMemoryGetSpec)

/-- ITS FALSE NEIGHBOUR: 'it returns false'. Refute it at one input. -/
def fnMemoryGetWrong : ChangeSpec := { name := "fnMemoryGet", fn := fun _ => fun
  | [d] => { results := [.lit (.bool false)], args := [d] }
  | _ => none }
def FnMemoryGetWrongFalsely : Prop := fnMemoryGetRow.holds Try.pinned (OpenSpec.ofChange fnMemoryGetWrong)

/-- 'laws.FnMemoryClear': WHATEVER THE INPUT: true; the input reads as it did. -/
def fnMemoryClearSpec : ChangeSpec := { name := "fnMemoryClear", fn := fun _ => fun
  | [d] => { results := [.lit (.bool true)], args := [d] }
  | _ => none }
def fnMemoryClearRow : OpenClaim := { program := "ytjmlfjpocjmnpaa", sum := "53217cde9a639333d68f523ab78aee0fd9728faeebfd26312f84daf4fa0f8feb", func := "loop.example/exopager/laws.FnMemoryClear", spec := "fnMemoryClear", unfollowed := true, recurses := true, apart := false }
def FnMemoryClearSaid : Prop := fnMemoryClearRow.holds Try.pinned (OpenSpec.ofChange fnMemoryClearSpec)

/-- ITS FALSE NEIGHBOUR: 'it returns false'. Refute it at one input. -/
def fnMemoryClearWrong : ChangeSpec := { name := "fnMemoryClear", fn := fun _ => fun
  | [d] => { results := [.lit (.bool false)], args := [d] }
  | _ => none }
def FnMemoryClearWrongFalsely : Prop := fnMemoryClearRow.holds Try.pinned (OpenSpec.ofChange fnMemoryClearWrong)

/-- 'laws.FnMemoryCopy': WHATEVER THE INPUT: true; the input reads as it did. -/
def fnMemoryCopySpec : ChangeSpec := { name := "fnMemoryCopy", fn := fun _ => fun
  | [d] => { results := [.lit (.bool true)], args := [d] }
  | _ => none }
def fnMemoryCopyRow : OpenClaim := { program := "ytjmlfjpocjmnpaa", sum := "53217cde9a639333d68f523ab78aee0fd9728faeebfd26312f84daf4fa0f8feb", func := "loop.example/exopager/laws.FnMemoryCopy", spec := "fnMemoryCopy", unfollowed := true, recurses := true, apart := false }
def FnMemoryCopySaid : Prop := fnMemoryCopyRow.holds Try.pinned (OpenSpec.ofChange fnMemoryCopySpec)

/-- ITS FALSE NEIGHBOUR: 'it returns false'. Refute it at one input. -/
def fnMemoryCopyWrong : ChangeSpec := { name := "fnMemoryCopy", fn := fun _ => fun
  | [d] => { results := [.lit (.bool false)], args := [d] }
  | _ => none }
def FnMemoryCopyWrongFalsely : Prop := fnMemoryCopyRow.holds Try.pinned (OpenSpec.ofChange fnMemoryCopyWrong)

/-- 'laws.FnMemoryPutBack': WHATEVER THE INPUT: true; the input reads as it did. -/
def fnMemoryPutBackSpec : ChangeSpec := { name := "fnMemoryPutBack", fn := fun _ => fun
  | [d] => { results := [.lit (.bool true)], args := [d] }
  | _ => none }
def fnMemoryPutBackRow : OpenClaim := { program := "ytjmlfjpocjmnpaa", sum := "53217cde9a639333d68f523ab78aee0fd9728faeebfd26312f84daf4fa0f8feb", func := "loop.example/exopager/laws.FnMemoryPutBack", spec := "fnMemoryPutBack", unfollowed := true, recurses := true, apart := false }
def FnMemoryPutBackSaid : Prop := fnMemoryPutBackRow.holds Try.pinned (OpenSpec.ofChange fnMemoryPutBackSpec)

/-- ITS FALSE NEIGHBOUR: 'it returns false'. Refute it at one input. -/
def fnMemoryPutBackWrong : ChangeSpec := { name := "fnMemoryPutBack", fn := fun _ => fun
  | [d] => { results := [.lit (.bool false)], args := [d] }
  | _ => none }
def FnMemoryPutBackWrongFalsely : Prop := fnMemoryPutBackRow.holds Try.pinned (OpenSpec.ofChange fnMemoryPutBackWrong)

/-- 'laws.FnMemoryPut': WHATEVER THE INPUT: true; the input reads as it did. -/
def fnMemoryPutSpec : ChangeSpec := { name := "fnMemoryPut", fn := fun _ => fun
  | [d] => { results := [.lit (.bool true)], args := [d] }
  | _ => none }
def fnMemoryPutRow : OpenClaim := { program := "ytjmlfjpocjmnpaa", sum := "53217cde9a639333d68f523ab78aee0fd9728faeebfd26312f84daf4fa0f8feb", func := "loop.example/exopager/laws.FnMemoryPut", spec := "fnMemoryPut", unfollowed := true, recurses := true, apart := false }
def FnMemoryPutSaid : Prop := fnMemoryPutRow.holds Try.pinned (OpenSpec.ofChange fnMemoryPutSpec)

/-- ITS FALSE NEIGHBOUR: 'it returns false'. Refute it at one input. -/
def fnMemoryPutWrong : ChangeSpec := { name := "fnMemoryPut", fn := fun _ => fun
  | [d] => { results := [.lit (.bool false)], args := [d] }
  | _ => none }
def FnMemoryPutWrongFalsely : Prop := fnMemoryPutRow.holds Try.pinned (OpenSpec.ofChange fnMemoryPutWrong)

/- THE SECOND FORM. 'bulk': how many values and letters a reading holds, each counted each time it is reached (what is shared counts as often as it is met; a slice's spare places count too). A statement '..UptoSaid' is the law's where the arguments, and the package variables that the reading takes, are together of bulk at most 1048576: NARROWER than '..Said'. Prove '..Said' where nothing that the law and all that it calls make is longer than what came in: it says more and counts as full. Else prove '..UptoSaid'. A law counts once. -/
mutual
def uptoBulk {H : Type} : DataW H → Nat
  | .lit (.string bytes) => bytes.length + 1
  | .lit _ => 1
  | .nil => 1
  | .ptr d => uptoBulk d + 1
  | .slice elems spare => uptoBulkAll elems + uptoBulkAll spare + 1
  | .agg parts => uptoBulkAll parts + 1
  | .iface _ d => uptoBulk d + 1
  | .map entries => uptoBulkEntries entries + 1
  | .held _ => 1
def uptoBulkAll {H : Type} : List (DataW H) → Nat
  | [] => 0
  | d :: r => uptoBulk d + uptoBulkAll r
def uptoBulkEntries {H : Type} : List (Lit × DataW H) → Nat
  | [] => 0
  | x :: r => uptoBulkEntry x + uptoBulkEntries r
def uptoBulkEntry {H : Type} : Lit × DataW H → Nat
  | (.string bytes, d) => bytes.length + uptoBulk d + 1
  | (_, d) => uptoBulk d + 1
 end
def uptoSmall : (H : Type) → List (DataW H) → Bool := fun _ ds => decide (uptoBulkAll ds ≤ 1048576)
def OpenSpec.upto (s : _root_.Go.ChangeSpec) : _root_.Go.OpenSpec := { _root_.Go.OpenSpec.ofChange s with cond := some uptoSmall }

/-- 'laws.FnMemoryPart', WHERE WHAT IT READS IS OF BULK AT MOST 1048576: true; the input reads as it did. -/
def fnMemoryPartUptoRow : OpenClaim := { program := "ytjmlfjpocjmnpaa", sum := "53217cde9a639333d68f523ab78aee0fd9728faeebfd26312f84daf4fa0f8feb", func := "loop.example/exopager/laws.FnMemoryPart", spec := "fnMemoryPart", unfollowed := true, recurses := true, apart := false, narrowed := true }
def FnMemoryPartUptoSaid : Prop := fnMemoryPartUptoRow.holds Try.pinned (OpenSpec.upto fnMemoryPartSpec)

/-- 'laws.FnMemoryGet', WHERE WHAT IT READS IS OF BULK AT MOST 1048576: true; the input reads as it did. -/
def fnMemoryGetUptoRow : OpenClaim := { program := "ytjmlfjpocjmnpaa", sum := "53217cde9a639333d68f523ab78aee0fd9728faeebfd26312f84daf4fa0f8feb", func := "loop.example/exopager/laws.FnMemoryGet", spec := "fnMemoryGet", unfollowed := true, recurses := true, apart := false, narrowed := true }
def FnMemoryGetUptoSaid : Prop := fnMemoryGetUptoRow.holds Try.pinned (OpenSpec.upto fnMemoryGetSpec)

/-- 'laws.FnMemoryClear', WHERE WHAT IT READS IS OF BULK AT MOST 1048576: true; the input reads as it did. -/
def fnMemoryClearUptoRow : OpenClaim := { program := "ytjmlfjpocjmnpaa", sum := "53217cde9a639333d68f523ab78aee0fd9728faeebfd26312f84daf4fa0f8feb", func := "loop.example/exopager/laws.FnMemoryClear", spec := "fnMemoryClear", unfollowed := true, recurses := true, apart := false, narrowed := true }
def FnMemoryClearUptoSaid : Prop := fnMemoryClearUptoRow.holds Try.pinned (OpenSpec.upto fnMemoryClearSpec)

/-- 'laws.FnMemoryCopy', WHERE WHAT IT READS IS OF BULK AT MOST 1048576: true; the input reads as it did. -/
def fnMemoryCopyUptoRow : OpenClaim := { program := "ytjmlfjpocjmnpaa", sum := "53217cde9a639333d68f523ab78aee0fd9728faeebfd26312f84daf4fa0f8feb", func := "loop.example/exopager/laws.FnMemoryCopy", spec := "fnMemoryCopy", unfollowed := true, recurses := true, apart := false, narrowed := true }
def FnMemoryCopyUptoSaid : Prop := fnMemoryCopyUptoRow.holds Try.pinned (OpenSpec.upto fnMemoryCopySpec)

/-- 'laws.FnMemoryPutBack', WHERE WHAT IT READS IS OF BULK AT MOST 1048576: true; the input reads as it did. -/
def fnMemoryPutBackUptoRow : OpenClaim := { program := "ytjmlfjpocjmnpaa", sum := "53217cde9a639333d68f523ab78aee0fd9728faeebfd26312f84daf4fa0f8feb", func := "loop.example/exopager/laws.FnMemoryPutBack", spec := "fnMemoryPutBack", unfollowed := true, recurses := true, apart := false, narrowed := true }
def FnMemoryPutBackUptoSaid : Prop := fnMemoryPutBackUptoRow.holds Try.pinned (OpenSpec.upto fnMemoryPutBackSpec)

/-- 'laws.FnMemoryPut', WHERE WHAT IT READS IS OF BULK AT MOST 1048576: true; the input reads as it did. -/
def fnMemoryPutUptoRow : OpenClaim := { program := "ytjmlfjpocjmnpaa", sum := "53217cde9a639333d68f523ab78aee0fd9728faeebfd26312f84daf4fa0f8feb", func := "loop.example/exopager/laws.FnMemoryPut", spec := "fnMemoryPut", unfollowed := true, recurses := true, apart := false, narrowed := true }
def FnMemoryPutUptoSaid : Prop := fnMemoryPutUptoRow.holds Try.pinned (OpenSpec.upto fnMemoryPutSpec)

end Rows
end Go.Proofs.Ytjmlfjpocjmnpaa

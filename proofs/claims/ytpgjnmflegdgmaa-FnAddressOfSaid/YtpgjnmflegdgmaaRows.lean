/-
  No cell of these rows narrows 'for every input' (looked for: loops, veiled, ifaces, maps, wideKeys, modest, calm, conditions, laid).
  DERIVED. THE GIVEN ROWS OF THIS SEAT. 14 by the template 'for every input the law returns true; each argument reads behind the call as it read before'; 0 by the template 'total and deterministic' (their statements: YtpgjnmflegdgmaaTotals.lean).
  GIVEN WITH THE SEED: the statements are not yours to turn. If you find one false, say at which input.
  Laid BY PROGRAM, IN A SANDBOX (cutbox-rows.mjs): the forced cells as the released guide's own fill.sh prints them over the translation e6616cd15f0280e8… (all of the seat's roots in one cut). By AI agents, Wed Nov 11 2026. No macro, syntax, notation, axiom, sorry.
-/
import Derived.Test.YtpgjnmflegdgmaaChecked
import GoSem.Claim
import GoSem.ClaimJoined
import GoSem.ClaimMapViews
import Derived.JoinedTies
import Derived.KernelRfl
namespace Go.Proofs.Ytpgjnmflegdgmaa
/- THE CELL 'sum', in the pinned program and in every row, IS THE sha256 OF THE DUMP (.gsa) THAT YtpgjnmflegdgmaaProg.lean LOADS. Nothing in Lean hashes anything: it is a label: what it is worth is what the hold of that sum in a sandbox is worth. -/
noncomputable def Try.pinned : Pinned := { name := "ytpgjnmflegdgmaa", sum := "e6616cd15f0280e8d498e7412b0ddf7e9d0c74b2a0f30bbfd6f1d9ad705c451e", checked := Try.checked }
namespace Rows
def none {H : Type} : Left H := { results := [], args := [] }

/-- 'laws.FnExactConstants': WHATEVER THE INPUT: true; the input reads as it did. -/
def fnExactConstantsSpec : ChangeSpec := { name := "fnExactConstants", fn := fun _ => fun
  | [] => { results := [.lit (.bool true)], args := [] }
  | _ => none }
def fnExactConstantsRow : OpenClaim := { program := "ytpgjnmflegdgmaa", sum := "e6616cd15f0280e8d498e7412b0ddf7e9d0c74b2a0f30bbfd6f1d9ad705c451e", func := "loop.example/exopager/laws.FnExactConstants", spec := "fnExactConstants", apart := false }
def FnExactConstantsSaid : Prop := fnExactConstantsRow.holds Try.pinned (OpenSpec.ofChange fnExactConstantsSpec)

/-- ITS FALSE NEIGHBOUR: 'it returns false'. Refute it at one input. -/
def fnExactConstantsWrong : ChangeSpec := { name := "fnExactConstants", fn := fun _ => fun
  | [] => { results := [.lit (.bool false)], args := [] }
  | _ => none }
def FnExactConstantsWrongFalsely : Prop := fnExactConstantsRow.holds Try.pinned (OpenSpec.ofChange fnExactConstantsWrong)

/-- 'laws.FnExactAddressOf': WHATEVER THE INPUT: true; the input reads as it did. -/
def fnExactAddressOfSpec : ChangeSpec := { name := "fnExactAddressOf", fn := fun _ => fun
  | [d1, d2] => { results := [.lit (.bool true)], args := [d1, d2] }
  | _ => none }
def fnExactAddressOfRow : OpenClaim := { program := "ytpgjnmflegdgmaa", sum := "e6616cd15f0280e8d498e7412b0ddf7e9d0c74b2a0f30bbfd6f1d9ad705c451e", func := "loop.example/exopager/laws.FnExactAddressOf", spec := "fnExactAddressOf", apart := false }
def FnExactAddressOfSaid : Prop := fnExactAddressOfRow.holds Try.pinned (OpenSpec.ofChange fnExactAddressOfSpec)

/-- ITS FALSE NEIGHBOUR: 'it returns false'. Refute it at one input. -/
def fnExactAddressOfWrong : ChangeSpec := { name := "fnExactAddressOf", fn := fun _ => fun
  | [d1, d2] => { results := [.lit (.bool false)], args := [d1, d2] }
  | _ => none }
def FnExactAddressOfWrongFalsely : Prop := fnExactAddressOfRow.holds Try.pinned (OpenSpec.ofChange fnExactAddressOfWrong)

/-- 'laws.FnExactAddressCut': WHATEVER THE INPUT: true; the input reads as it did. -/
def fnExactAddressCutSpec : ChangeSpec := { name := "fnExactAddressCut", fn := fun _ => fun
  | [d] => { results := [.lit (.bool true)], args := [d] }
  | _ => none }
def fnExactAddressCutRow : OpenClaim := { program := "ytpgjnmflegdgmaa", sum := "e6616cd15f0280e8d498e7412b0ddf7e9d0c74b2a0f30bbfd6f1d9ad705c451e", func := "loop.example/exopager/laws.FnExactAddressCut", spec := "fnExactAddressCut", apart := false }
def FnExactAddressCutSaid : Prop := fnExactAddressCutRow.holds Try.pinned (OpenSpec.ofChange fnExactAddressCutSpec)

/-- ITS FALSE NEIGHBOUR: 'it returns false'. Refute it at one input. -/
def fnExactAddressCutWrong : ChangeSpec := { name := "fnExactAddressCut", fn := fun _ => fun
  | [d] => { results := [.lit (.bool false)], args := [d] }
  | _ => none }
def FnExactAddressCutWrongFalsely : Prop := fnExactAddressCutRow.holds Try.pinned (OpenSpec.ofChange fnExactAddressCutWrong)

/-- 'laws.FnExactEntryGet': WHATEVER THE INPUT: true; the input reads as it did. -/
def fnExactEntryGetSpec : ChangeSpec := { name := "fnExactEntryGet", fn := fun _ => fun
  | [d] => { results := [.lit (.bool true)], args := [d] }
  | _ => none }
def fnExactEntryGetRow : OpenClaim := { program := "ytpgjnmflegdgmaa", sum := "e6616cd15f0280e8d498e7412b0ddf7e9d0c74b2a0f30bbfd6f1d9ad705c451e", func := "loop.example/exopager/laws.FnExactEntryGet", spec := "fnExactEntryGet", apart := false }
def FnExactEntryGetSaid : Prop := fnExactEntryGetRow.holds Try.pinned (OpenSpec.ofChange fnExactEntryGetSpec)

/-- ITS FALSE NEIGHBOUR: 'it returns false'. Refute it at one input. -/
def fnExactEntryGetWrong : ChangeSpec := { name := "fnExactEntryGet", fn := fun _ => fun
  | [d] => { results := [.lit (.bool false)], args := [d] }
  | _ => none }
def FnExactEntryGetWrongFalsely : Prop := fnExactEntryGetRow.holds Try.pinned (OpenSpec.ofChange fnExactEntryGetWrong)

/-- 'laws.FnExactEntryKind': WHATEVER THE INPUT: true; the input reads as it did. -/
def fnExactEntryKindSpec : ChangeSpec := { name := "fnExactEntryKind", fn := fun _ => fun
  | [d] => { results := [.lit (.bool true)], args := [d] }
  | _ => none }
def fnExactEntryKindRow : OpenClaim := { program := "ytpgjnmflegdgmaa", sum := "e6616cd15f0280e8d498e7412b0ddf7e9d0c74b2a0f30bbfd6f1d9ad705c451e", func := "loop.example/exopager/laws.FnExactEntryKind", spec := "fnExactEntryKind", apart := false }
def FnExactEntryKindSaid : Prop := fnExactEntryKindRow.holds Try.pinned (OpenSpec.ofChange fnExactEntryKindSpec)

/-- ITS FALSE NEIGHBOUR: 'it returns false'. Refute it at one input. -/
def fnExactEntryKindWrong : ChangeSpec := { name := "fnExactEntryKind", fn := fun _ => fun
  | [d] => { results := [.lit (.bool false)], args := [d] }
  | _ => none }
def FnExactEntryKindWrongFalsely : Prop := fnExactEntryKindRow.holds Try.pinned (OpenSpec.ofChange fnExactEntryKindWrong)

/-- 'laws.FnExactEntryPut': WHATEVER THE INPUT: true; the input reads as it did. -/
def fnExactEntryPutSpec : ChangeSpec := { name := "fnExactEntryPut", fn := fun _ => fun
  | [d1, d2] => { results := [.lit (.bool true)], args := [d1, d2] }
  | _ => none }
def fnExactEntryPutRow : OpenClaim := { program := "ytpgjnmflegdgmaa", sum := "e6616cd15f0280e8d498e7412b0ddf7e9d0c74b2a0f30bbfd6f1d9ad705c451e", func := "loop.example/exopager/laws.FnExactEntryPut", spec := "fnExactEntryPut", apart := false }
def FnExactEntryPutSaid : Prop := fnExactEntryPutRow.holds Try.pinned (OpenSpec.ofChange fnExactEntryPutSpec)

/-- ITS FALSE NEIGHBOUR: 'it returns false'. Refute it at one input. -/
def fnExactEntryPutWrong : ChangeSpec := { name := "fnExactEntryPut", fn := fun _ => fun
  | [d1, d2] => { results := [.lit (.bool false)], args := [d1, d2] }
  | _ => none }
def FnExactEntryPutWrongFalsely : Prop := fnExactEntryPutRow.holds Try.pinned (OpenSpec.ofChange fnExactEntryPutWrong)

/-- 'laws.FnAddressCut': WHATEVER THE INPUT: true; the input reads as it did. -/
def fnAddressCutSpec : ChangeSpec := { name := "fnAddressCut", fn := fun _ => fun
  | [d] => { results := [.lit (.bool true)], args := [d] }
  | _ => none }
def fnAddressCutRow : OpenClaim := { program := "ytpgjnmflegdgmaa", sum := "e6616cd15f0280e8d498e7412b0ddf7e9d0c74b2a0f30bbfd6f1d9ad705c451e", func := "loop.example/exopager/laws.FnAddressCut", spec := "fnAddressCut", apart := false }
def FnAddressCutSaid : Prop := fnAddressCutRow.holds Try.pinned (OpenSpec.ofChange fnAddressCutSpec)

/-- ITS FALSE NEIGHBOUR: 'it returns false'. Refute it at one input. -/
def fnAddressCutWrong : ChangeSpec := { name := "fnAddressCut", fn := fun _ => fun
  | [d] => { results := [.lit (.bool false)], args := [d] }
  | _ => none }
def FnAddressCutWrongFalsely : Prop := fnAddressCutRow.holds Try.pinned (OpenSpec.ofChange fnAddressCutWrong)

/-- 'laws.FnAddressRange': WHATEVER THE INPUT: true; the input reads as it did. -/
def fnAddressRangeSpec : ChangeSpec := { name := "fnAddressRange", fn := fun _ => fun
  | [d] => { results := [.lit (.bool true)], args := [d] }
  | _ => none }
def fnAddressRangeRow : OpenClaim := { program := "ytpgjnmflegdgmaa", sum := "e6616cd15f0280e8d498e7412b0ddf7e9d0c74b2a0f30bbfd6f1d9ad705c451e", func := "loop.example/exopager/laws.FnAddressRange", spec := "fnAddressRange", apart := false }
def FnAddressRangeSaid : Prop := fnAddressRangeRow.holds Try.pinned (OpenSpec.ofChange fnAddressRangeSpec)

/-- ITS FALSE NEIGHBOUR: 'it returns false'. Refute it at one input. -/
def fnAddressRangeWrong : ChangeSpec := { name := "fnAddressRange", fn := fun _ => fun
  | [d] => { results := [.lit (.bool false)], args := [d] }
  | _ => none }
def FnAddressRangeWrongFalsely : Prop := fnAddressRangeRow.holds Try.pinned (OpenSpec.ofChange fnAddressRangeWrong)

/-- 'laws.FnAddressOf': WHATEVER THE INPUT: true; the input reads as it did. -/
def fnAddressOfSpec : ChangeSpec := { name := "fnAddressOf", fn := fun _ => fun
  | [d] => { results := [.lit (.bool true)], args := [d] }
  | _ => none }
def fnAddressOfRow : OpenClaim := { program := "ytpgjnmflegdgmaa", sum := "e6616cd15f0280e8d498e7412b0ddf7e9d0c74b2a0f30bbfd6f1d9ad705c451e", func := "loop.example/exopager/laws.FnAddressOf", spec := "fnAddressOf", apart := false }
def FnAddressOfSaid : Prop := fnAddressOfRow.holds Try.pinned (OpenSpec.ofChange fnAddressOfSpec)

/-- ITS FALSE NEIGHBOUR: 'it returns false'. Refute it at one input. -/
def fnAddressOfWrong : ChangeSpec := { name := "fnAddressOf", fn := fun _ => fun
  | [d] => { results := [.lit (.bool false)], args := [d] }
  | _ => none }
def FnAddressOfWrongFalsely : Prop := fnAddressOfRow.holds Try.pinned (OpenSpec.ofChange fnAddressOfWrong)

/-- 'laws.FnEntryKind': WHATEVER THE INPUT: true; the input reads as it did. -/
def fnEntryKindSpec : ChangeSpec := { name := "fnEntryKind", fn := fun _ => fun
  | [d] => { results := [.lit (.bool true)], args := [d] }
  | _ => none }
def fnEntryKindRow : OpenClaim := { program := "ytpgjnmflegdgmaa", sum := "e6616cd15f0280e8d498e7412b0ddf7e9d0c74b2a0f30bbfd6f1d9ad705c451e", func := "loop.example/exopager/laws.FnEntryKind", spec := "fnEntryKind", apart := false }
def FnEntryKindSaid : Prop := fnEntryKindRow.holds Try.pinned (OpenSpec.ofChange fnEntryKindSpec)

/-- ITS FALSE NEIGHBOUR: 'it returns false'. Refute it at one input. -/
def fnEntryKindWrong : ChangeSpec := { name := "fnEntryKind", fn := fun _ => fun
  | [d] => { results := [.lit (.bool false)], args := [d] }
  | _ => none }
def FnEntryKindWrongFalsely : Prop := fnEntryKindRow.holds Try.pinned (OpenSpec.ofChange fnEntryKindWrong)

/-- 'laws.FnEntryPutRange': WHATEVER THE INPUT: true; the input reads as it did. -/
def fnEntryPutRangeSpec : ChangeSpec := { name := "fnEntryPutRange", fn := fun _ => fun
  | [d] => { results := [.lit (.bool true)], args := [d] }
  | _ => none }
def fnEntryPutRangeRow : OpenClaim := { program := "ytpgjnmflegdgmaa", sum := "e6616cd15f0280e8d498e7412b0ddf7e9d0c74b2a0f30bbfd6f1d9ad705c451e", func := "loop.example/exopager/laws.FnEntryPutRange", spec := "fnEntryPutRange", apart := false }
def FnEntryPutRangeSaid : Prop := fnEntryPutRangeRow.holds Try.pinned (OpenSpec.ofChange fnEntryPutRangeSpec)

/-- ITS FALSE NEIGHBOUR: 'it returns false'. Refute it at one input. -/
def fnEntryPutRangeWrong : ChangeSpec := { name := "fnEntryPutRange", fn := fun _ => fun
  | [d] => { results := [.lit (.bool false)], args := [d] }
  | _ => none }
def FnEntryPutRangeWrongFalsely : Prop := fnEntryPutRangeRow.holds Try.pinned (OpenSpec.ofChange fnEntryPutRangeWrong)

/-- 'laws.FnEntryWrite': WHATEVER THE INPUT: true; the input reads as it did. -/
def fnEntryWriteSpec : ChangeSpec := { name := "fnEntryWrite", fn := fun _ => fun
  | [d] => { results := [.lit (.bool true)], args := [d] }
  | _ => none }
def fnEntryWriteRow : OpenClaim := { program := "ytpgjnmflegdgmaa", sum := "e6616cd15f0280e8d498e7412b0ddf7e9d0c74b2a0f30bbfd6f1d9ad705c451e", func := "loop.example/exopager/laws.FnEntryWrite", spec := "fnEntryWrite", apart := false }
def FnEntryWriteSaid : Prop := fnEntryWriteRow.holds Try.pinned (OpenSpec.ofChange fnEntryWriteSpec)

/-- ITS FALSE NEIGHBOUR: 'it returns false'. Refute it at one input. -/
def fnEntryWriteWrong : ChangeSpec := { name := "fnEntryWrite", fn := fun _ => fun
  | [d] => { results := [.lit (.bool false)], args := [d] }
  | _ => none }
def FnEntryWriteWrongFalsely : Prop := fnEntryWriteRow.holds Try.pinned (OpenSpec.ofChange fnEntryWriteWrong)

/-- 'laws.FnEntryGet': WHATEVER THE INPUT: true; the input reads as it did. -/
def fnEntryGetSpec : ChangeSpec := { name := "fnEntryGet", fn := fun _ => fun
  | [d] => { results := [.lit (.bool true)], args := [d] }
  | _ => none }
def fnEntryGetRow : OpenClaim := { program := "ytpgjnmflegdgmaa", sum := "e6616cd15f0280e8d498e7412b0ddf7e9d0c74b2a0f30bbfd6f1d9ad705c451e", func := "loop.example/exopager/laws.FnEntryGet", spec := "fnEntryGet", apart := false }
def FnEntryGetSaid : Prop := fnEntryGetRow.holds Try.pinned (OpenSpec.ofChange fnEntryGetSpec)

/-- ITS FALSE NEIGHBOUR: 'it returns false'. Refute it at one input. -/
def fnEntryGetWrong : ChangeSpec := { name := "fnEntryGet", fn := fun _ => fun
  | [d] => { results := [.lit (.bool false)], args := [d] }
  | _ => none }
def FnEntryGetWrongFalsely : Prop := fnEntryGetRow.holds Try.pinned (OpenSpec.ofChange fnEntryGetWrong)

/-- 'laws.FnEntryPut': WHATEVER THE INPUT: true; the input reads as it did. -/
def fnEntryPutSpec : ChangeSpec := { name := "fnEntryPut", fn := fun _ => fun
  | [d] => { results := [.lit (.bool true)], args := [d] }
  | _ => none }
def fnEntryPutRow : OpenClaim := { program := "ytpgjnmflegdgmaa", sum := "e6616cd15f0280e8d498e7412b0ddf7e9d0c74b2a0f30bbfd6f1d9ad705c451e", func := "loop.example/exopager/laws.FnEntryPut", spec := "fnEntryPut", apart := false }
def FnEntryPutSaid : Prop := fnEntryPutRow.holds Try.pinned (OpenSpec.ofChange fnEntryPutSpec)

/-- ITS FALSE NEIGHBOUR: 'it returns false'. Refute it at one input. -/
def fnEntryPutWrong : ChangeSpec := { name := "fnEntryPut", fn := fun _ => fun
  | [d] => { results := [.lit (.bool false)], args := [d] }
  | _ => none }
def FnEntryPutWrongFalsely : Prop := fnEntryPutRow.holds Try.pinned (OpenSpec.ofChange fnEntryPutWrong)

/- THE SECOND FORM. 'bulk': how many values and letters a reading holds, each counted each time it is reached (what is shared counts as often as it is met; a slice's spare places count too). A statement '..UptoSaid' is the law's where the arguments, and the package variables that the reading takes, are together of bulk at most 1048576: NARROWER than '..Said'. Prove '..Said' where nothing that the law and all that it calls make is longer than what came in: it says more and counts as full. Else prove '..UptoSaid'. A law counts once. -/
mutual
def uptoBulk {H : Type} : DataW H → Nat
  | .lit (.string bytes) => bytes.length + 1
  | .lit _ => 1
  | .nil => 1
  | .ptr d => uptoBulk d + 1
  | .slice elems spare => uptoBulkAll elems + uptoBulkAll spare + 1
  | .agg parts => uptoBulkAll parts + 1
  | .iface _ d => uptoBulk d + 1
  | .map entries => uptoBulkEntries entries + 1
  | .held _ => 1
def uptoBulkAll {H : Type} : List (DataW H) → Nat
  | [] => 0
  | d :: r => uptoBulk d + uptoBulkAll r
def uptoBulkEntries {H : Type} : List (Lit × DataW H) → Nat
  | [] => 0
  | x :: r => uptoBulkEntry x + uptoBulkEntries r
def uptoBulkEntry {H : Type} : Lit × DataW H → Nat
  | (.string bytes, d) => bytes.length + uptoBulk d + 1
  | (_, d) => uptoBulk d + 1
 end
def uptoSmall : (H : Type) → List (DataW H) → Bool := fun _ ds => decide (uptoBulkAll ds ≤ 1048576)
def OpenSpec.upto (s : _root_.Go.ChangeSpec) : _root_.Go.OpenSpec := { _root_.Go.OpenSpec.ofChange s with cond := some uptoSmall }

/-- 'laws.FnExactConstants', WHERE WHAT IT READS IS OF BULK AT MOST 1048576: true; the input reads as it did. -/
def fnExactConstantsUptoRow : OpenClaim := { program := "ytpgjnmflegdgmaa", sum := "e6616cd15f0280e8d498e7412b0ddf7e9d0c74b2a0f30bbfd6f1d9ad705c451e", func := "loop.example/exopager/laws.FnExactConstants", spec := "fnExactConstants", apart := false, narrowed := true }
def FnExactConstantsUptoSaid : Prop := fnExactConstantsUptoRow.holds Try.pinned (OpenSpec.upto fnExactConstantsSpec)

/-- 'laws.FnExactAddressOf', WHERE WHAT IT READS IS OF BULK AT MOST 1048576: true; the input reads as it did. -/
def fnExactAddressOfUptoRow : OpenClaim := { program := "ytpgjnmflegdgmaa", sum := "e6616cd15f0280e8d498e7412b0ddf7e9d0c74b2a0f30bbfd6f1d9ad705c451e", func := "loop.example/exopager/laws.FnExactAddressOf", spec := "fnExactAddressOf", apart := false, narrowed := true }
def FnExactAddressOfUptoSaid : Prop := fnExactAddressOfUptoRow.holds Try.pinned (OpenSpec.upto fnExactAddressOfSpec)

/-- 'laws.FnExactAddressCut', WHERE WHAT IT READS IS OF BULK AT MOST 1048576: true; the input reads as it did. -/
def fnExactAddressCutUptoRow : OpenClaim := { program := "ytpgjnmflegdgmaa", sum := "e6616cd15f0280e8d498e7412b0ddf7e9d0c74b2a0f30bbfd6f1d9ad705c451e", func := "loop.example/exopager/laws.FnExactAddressCut", spec := "fnExactAddressCut", apart := false, narrowed := true }
def FnExactAddressCutUptoSaid : Prop := fnExactAddressCutUptoRow.holds Try.pinned (OpenSpec.upto fnExactAddressCutSpec)

/-- 'laws.FnExactEntryGet', WHERE WHAT IT READS IS OF BULK AT MOST 1048576: true; the input reads as it did. -/
def fnExactEntryGetUptoRow : OpenClaim := { program := "ytpgjnmflegdgmaa", sum := "e6616cd15f0280e8d498e7412b0ddf7e9d0c74b2a0f30bbfd6f1d9ad705c451e", func := "loop.example/exopager/laws.FnExactEntryGet", spec := "fnExactEntryGet", apart := false, narrowed := true }
def FnExactEntryGetUptoSaid : Prop := fnExactEntryGetUptoRow.holds Try.pinned (OpenSpec.upto fnExactEntryGetSpec)

/-- 'laws.FnExactEntryKind', WHERE WHAT IT READS IS OF BULK AT MOST 1048576: true; the input reads as it did. -/
def fnExactEntryKindUptoRow : OpenClaim := { program := "ytpgjnmflegdgmaa", sum := "e6616cd15f0280e8d498e7412b0ddf7e9d0c74b2a0f30bbfd6f1d9ad705c451e", func := "loop.example/exopager/laws.FnExactEntryKind", spec := "fnExactEntryKind", apart := false, narrowed := true }
def FnExactEntryKindUptoSaid : Prop := fnExactEntryKindUptoRow.holds Try.pinned (OpenSpec.upto fnExactEntryKindSpec)

/-- 'laws.FnExactEntryPut', WHERE WHAT IT READS IS OF BULK AT MOST 1048576: true; the input reads as it did. -/
def fnExactEntryPutUptoRow : OpenClaim := { program := "ytpgjnmflegdgmaa", sum := "e6616cd15f0280e8d498e7412b0ddf7e9d0c74b2a0f30bbfd6f1d9ad705c451e", func := "loop.example/exopager/laws.FnExactEntryPut", spec := "fnExactEntryPut", apart := false, narrowed := true }
def FnExactEntryPutUptoSaid : Prop := fnExactEntryPutUptoRow.holds Try.pinned (OpenSpec.upto fnExactEntryPutSpec)

/-- 'laws.FnAddressCut', WHERE WHAT IT READS IS OF BULK AT MOST 1048576: true; the input reads as it did. -/
def fnAddressCutUptoRow : OpenClaim := { program := "ytpgjnmflegdgmaa", sum := "e6616cd15f0280e8d498e7412b0ddf7e9d0c74b2a0f30bbfd6f1d9ad705c451e", func := "loop.example/exopager/laws.FnAddressCut", spec := "fnAddressCut", apart := false, narrowed := true }
def FnAddressCutUptoSaid : Prop := fnAddressCutUptoRow.holds Try.pinned (OpenSpec.upto fnAddressCutSpec)

/-- 'laws.FnAddressRange', WHERE WHAT IT READS IS OF BULK AT MOST 1048576: true; the input reads as it did. -/
def fnAddressRangeUptoRow : OpenClaim := { program := "ytpgjnmflegdgmaa", sum := "e6616cd15f0280e8d498e7412b0ddf7e9d0c74b2a0f30bbfd6f1d9ad705c451e", func := "loop.example/exopager/laws.FnAddressRange", spec := "fnAddressRange", apart := false, narrowed := true }
def FnAddressRangeUptoSaid : Prop := fnAddressRangeUptoRow.holds Try.pinned (OpenSpec.upto fnAddressRangeSpec)

/-- 'laws.FnAddressOf', WHERE WHAT IT READS IS OF BULK AT MOST 1048576: true; the input reads as it did. -/
def fnAddressOfUptoRow : OpenClaim := { program := "ytpgjnmflegdgmaa", sum := "e6616cd15f0280e8d498e7412b0ddf7e9d0c74b2a0f30bbfd6f1d9ad705c451e", func := "loop.example/exopager/laws.FnAddressOf", spec := "fnAddressOf", apart := false, narrowed := true }
def FnAddressOfUptoSaid : Prop := fnAddressOfUptoRow.holds Try.pinned (OpenSpec.upto fnAddressOfSpec)

/-- 'laws.FnEntryKind', WHERE WHAT IT READS IS OF BULK AT MOST 1048576: true; the input reads as it did. -/
def fnEntryKindUptoRow : OpenClaim := { program := "ytpgjnmflegdgmaa", sum := "e6616cd15f0280e8d498e7412b0ddf7e9d0c74b2a0f30bbfd6f1d9ad705c451e", func := "loop.example/exopager/laws.FnEntryKind", spec := "fnEntryKind", apart := false, narrowed := true }
def FnEntryKindUptoSaid : Prop := fnEntryKindUptoRow.holds Try.pinned (OpenSpec.upto fnEntryKindSpec)

/-- 'laws.FnEntryPutRange', WHERE WHAT IT READS IS OF BULK AT MOST 1048576: true; the input reads as it did. -/
def fnEntryPutRangeUptoRow : OpenClaim := { program := "ytpgjnmflegdgmaa", sum := "e6616cd15f0280e8d498e7412b0ddf7e9d0c74b2a0f30bbfd6f1d9ad705c451e", func := "loop.example/exopager/laws.FnEntryPutRange", spec := "fnEntryPutRange", apart := false, narrowed := true }
def FnEntryPutRangeUptoSaid : Prop := fnEntryPutRangeUptoRow.holds Try.pinned (OpenSpec.upto fnEntryPutRangeSpec)

/-- 'laws.FnEntryWrite', WHERE WHAT IT READS IS OF BULK AT MOST 1048576: true; the input reads as it did. -/
def fnEntryWriteUptoRow : OpenClaim := { program := "ytpgjnmflegdgmaa", sum := "e6616cd15f0280e8d498e7412b0ddf7e9d0c74b2a0f30bbfd6f1d9ad705c451e", func := "loop.example/exopager/laws.FnEntryWrite", spec := "fnEntryWrite", apart := false, narrowed := true }
def FnEntryWriteUptoSaid : Prop := fnEntryWriteUptoRow.holds Try.pinned (OpenSpec.upto fnEntryWriteSpec)

/-- 'laws.FnEntryGet', WHERE WHAT IT READS IS OF BULK AT MOST 1048576: true; the input reads as it did. -/
def fnEntryGetUptoRow : OpenClaim := { program := "ytpgjnmflegdgmaa", sum := "e6616cd15f0280e8d498e7412b0ddf7e9d0c74b2a0f30bbfd6f1d9ad705c451e", func := "loop.example/exopager/laws.FnEntryGet", spec := "fnEntryGet", apart := false, narrowed := true }
def FnEntryGetUptoSaid : Prop := fnEntryGetUptoRow.holds Try.pinned (OpenSpec.upto fnEntryGetSpec)

/-- 'laws.FnEntryPut', WHERE WHAT IT READS IS OF BULK AT MOST 1048576: true; the input reads as it did. -/
def fnEntryPutUptoRow : OpenClaim := { program := "ytpgjnmflegdgmaa", sum := "e6616cd15f0280e8d498e7412b0ddf7e9d0c74b2a0f30bbfd6f1d9ad705c451e", func := "loop.example/exopager/laws.FnEntryPut", spec := "fnEntryPut", apart := false, narrowed := true }
def FnEntryPutUptoSaid : Prop := fnEntryPutUptoRow.holds Try.pinned (OpenSpec.upto fnEntryPutSpec)

end Rows
end Go.Proofs.Ytpgjnmflegdgmaa

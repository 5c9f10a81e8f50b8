/-
  No cell of these rows narrows 'for every input' (looked for: loops, veiled, ifaces, maps, wideKeys, modest, calm, conditions, laid).
  DERIVED. THE GIVEN ROWS OF THIS SEAT. 8 by the template 'for every input the law returns true; each argument reads behind the call as it read before'; 0 by the template 'total and deterministic' (their statements: YthbalmoafpggdaaTotals.lean).
  GIVEN WITH THE SEED: the statements are not yours to turn. If you find one false, say at which input.
  Laid BY PROGRAM, IN A SANDBOX (cutbox-rows.mjs): the forced cells as the released guide's own fill.sh prints them over the translation 1a9077d45f38fc28… (all of the seat's roots in one cut). By AI agents, Wed Nov 11 2026. No macro, syntax, notation, axiom, sorry.
-/
import Derived.Test.YthbalmoafpggdaaChecked
import GoSem.Claim
import GoSem.ClaimJoined
import GoSem.ClaimMapViews
import Derived.JoinedTies
import Derived.KernelRfl
namespace Go.Proofs.Ythbalmoafpggdaa
/- THE CELL 'sum', in the pinned program and in every row, IS THE sha256 OF THE DUMP (.gsa) THAT YthbalmoafpggdaaProg.lean LOADS. Nothing in Lean hashes anything: it is a label: what it is worth is what the hold of that sum in a sandbox is worth. -/
noncomputable def Try.pinned : Pinned := { name := "ythbalmoafpggdaa", sum := "1a9077d45f38fc2881bdceb08726a0ed66019643d821434a351b72606a83d619", checked := Try.checked }
namespace Rows
def none {H : Type} : Left H := { results := [], args := [] }

/-- 'lagoonlaw3.CodecNone': WHATEVER THE INPUT: true; the input reads as it did. -/
def codecNoneSpec : ChangeSpec := { name := "codecNone", fn := fun _ => fun
  | [] => { results := [.lit (.bool true)], args := [] }
  | _ => none }
def codecNoneRow : OpenClaim := { program := "ythbalmoafpggdaa", sum := "1a9077d45f38fc2881bdceb08726a0ed66019643d821434a351b72606a83d619", func := "lagoon/lagoonlaw3.CodecNone", spec := "codecNone", unfollowed := true, recurses := true, apart := false }
def CodecNoneSaid : Prop := codecNoneRow.holds Try.pinned (OpenSpec.ofChange codecNoneSpec)

/-- ITS FALSE NEIGHBOUR: 'it returns false'. Refute it at one input. -/
def codecNoneWrong : ChangeSpec := { name := "codecNone", fn := fun _ => fun
  | [] => { results := [.lit (.bool false)], args := [] }
  | _ => none }
def CodecNoneWrongFalsely : Prop := codecNoneRow.holds Try.pinned (OpenSpec.ofChange codecNoneWrong)

/-- 'lagoonlaw3.CodecRead': WHATEVER THE INPUT: true; the input reads as it did. -/
def codecReadSpec : ChangeSpec := { name := "codecRead", fn := fun _ => fun
  | [d1, d2] => { results := [.lit (.bool true)], args := [d1, d2] }
  | _ => none }
def codecReadRow : OpenClaim := { program := "ythbalmoafpggdaa", sum := "1a9077d45f38fc2881bdceb08726a0ed66019643d821434a351b72606a83d619", func := "lagoon/lagoonlaw3.CodecRead", spec := "codecRead", unfollowed := true, recurses := true, apart := false }
def CodecReadSaid : Prop := codecReadRow.holds Try.pinned (OpenSpec.ofChange codecReadSpec)

/-- ITS FALSE NEIGHBOUR: 'it returns false'. Refute it at one input. -/
def codecReadWrong : ChangeSpec := { name := "codecRead", fn := fun _ => fun
  | [d1, d2] => { results := [.lit (.bool false)], args := [d1, d2] }
  | _ => none }
def CodecReadWrongFalsely : Prop := codecReadRow.holds Try.pinned (OpenSpec.ofChange codecReadWrong)

/-- 'lagoonlaw3.CodecWrite': WHATEVER THE INPUT: true; the input reads as it did. -/
def codecWriteSpec : ChangeSpec := { name := "codecWrite", fn := fun _ => fun
  | [d] => { results := [.lit (.bool true)], args := [d] }
  | _ => none }
def codecWriteRow : OpenClaim := { program := "ythbalmoafpggdaa", sum := "1a9077d45f38fc2881bdceb08726a0ed66019643d821434a351b72606a83d619", func := "lagoon/lagoonlaw3.CodecWrite", spec := "codecWrite", unfollowed := true, recurses := true, apart := false }
def CodecWriteSaid : Prop := codecWriteRow.holds Try.pinned (OpenSpec.ofChange codecWriteSpec)

/-- ITS FALSE NEIGHBOUR: 'it returns false'. Refute it at one input. -/
def codecWriteWrong : ChangeSpec := { name := "codecWrite", fn := fun _ => fun
  | [d] => { results := [.lit (.bool false)], args := [d] }
  | _ => none }
def CodecWriteWrongFalsely : Prop := codecWriteRow.holds Try.pinned (OpenSpec.ofChange codecWriteWrong)

/-- 'lagoonlaw14.MergeSorted': WHATEVER THE INPUT: true; the input reads as it did. -/
def mergeSortedSpec : ChangeSpec := { name := "mergeSorted", fn := fun _ => fun
  | [d] => { results := [.lit (.bool true)], args := [d] }
  | _ => none }
def mergeSortedRow : OpenClaim := { program := "ythbalmoafpggdaa", sum := "1a9077d45f38fc2881bdceb08726a0ed66019643d821434a351b72606a83d619", func := "lagoon/lagoonlaw14.MergeSorted", spec := "mergeSorted", unfollowed := true, recurses := true, apart := false }
def MergeSortedSaid : Prop := mergeSortedRow.holds Try.pinned (OpenSpec.ofChange mergeSortedSpec)

/-- ITS FALSE NEIGHBOUR: 'it returns false'. Refute it at one input. -/
def mergeSortedWrong : ChangeSpec := { name := "mergeSorted", fn := fun _ => fun
  | [d] => { results := [.lit (.bool false)], args := [d] }
  | _ => none }
def MergeSortedWrongFalsely : Prop := mergeSortedRow.holds Try.pinned (OpenSpec.ofChange mergeSortedWrong)

/-- 'lagoonlaw14.MergeQueue': WHATEVER THE INPUT: true; the input reads as it did. -/
def mergeQueueSpec : ChangeSpec := { name := "mergeQueue", fn := fun _ => fun
  | [d1, d2, d3] => { results := [.lit (.bool true)], args := [d1, d2, d3] }
  | _ => none }
def mergeQueueRow : OpenClaim := { program := "ythbalmoafpggdaa", sum := "1a9077d45f38fc2881bdceb08726a0ed66019643d821434a351b72606a83d619", func := "lagoon/lagoonlaw14.MergeQueue", spec := "mergeQueue", unfollowed := true, recurses := true, apart := false }
def MergeQueueSaid : Prop := mergeQueueRow.holds Try.pinned (OpenSpec.ofChange mergeQueueSpec)

/-- ITS FALSE NEIGHBOUR: 'it returns false'. Refute it at one input. -/
def mergeQueueWrong : ChangeSpec := { name := "mergeQueue", fn := fun _ => fun
  | [d1, d2, d3] => { results := [.lit (.bool false)], args := [d1, d2, d3] }
  | _ => none }
def MergeQueueWrongFalsely : Prop := mergeQueueRow.holds Try.pinned (OpenSpec.ofChange mergeQueueWrong)

/-- 'lagoonlaw25.NetNone': WHATEVER THE INPUT: true; the input reads as it did. -/
def netNoneSpec : ChangeSpec := { name := "netNone", fn := fun _ => fun
  | [] => { results := [.lit (.bool true)], args := [] }
  | _ => none }
def netNoneRow : OpenClaim := { program := "ythbalmoafpggdaa", sum := "1a9077d45f38fc2881bdceb08726a0ed66019643d821434a351b72606a83d619", func := "lagoon/lagoonlaw25.NetNone", spec := "netNone", unfollowed := true, recurses := true, apart := false }
def NetNoneSaid : Prop := netNoneRow.holds Try.pinned (OpenSpec.ofChange netNoneSpec)

/-- ITS FALSE NEIGHBOUR: 'it returns false'. Refute it at one input. -/
def netNoneWrong : ChangeSpec := { name := "netNone", fn := fun _ => fun
  | [] => { results := [.lit (.bool false)], args := [] }
  | _ => none }
def NetNoneWrongFalsely : Prop := netNoneRow.holds Try.pinned (OpenSpec.ofChange netNoneWrong)

/-- 'lagoonlaw12.OpDecode': WHATEVER THE INPUT: true; the input reads as it did. -/
def opDecodeSpec : ChangeSpec := { name := "opDecode", fn := fun _ => fun
  | [d1, d2, d3, d4] => { results := [.lit (.bool true)], args := [d1, d2, d3, d4] }
  | _ => none }
def opDecodeRow : OpenClaim := { program := "ythbalmoafpggdaa", sum := "1a9077d45f38fc2881bdceb08726a0ed66019643d821434a351b72606a83d619", func := "lagoon/lagoonlaw12.OpDecode", spec := "opDecode", inPlace := ["internal/bytealg.IndexByteString", "internal/bytealg.IndexString"], unfollowed := true, recurses := true, named := ["internal/bytealg.MaxLen"], apart := false }
def OpDecodeSaid : Prop := opDecodeRow.holds Try.pinned (OpenSpec.ofChange opDecodeSpec)

/-- ITS FALSE NEIGHBOUR: 'it returns false'. Refute it at one input. -/
def opDecodeWrong : ChangeSpec := { name := "opDecode", fn := fun _ => fun
  | [d1, d2, d3, d4] => { results := [.lit (.bool false)], args := [d1, d2, d3, d4] }
  | _ => none }
def OpDecodeWrongFalsely : Prop := opDecodeRow.holds Try.pinned (OpenSpec.ofChange opDecodeWrong)

/-- 'lagoonlaw12.OpName': WHATEVER THE INPUT: true; the input reads as it did. -/
def opNameSpec : ChangeSpec := { name := "opName", fn := fun _ => fun
  | [d] => { results := [.lit (.bool true)], args := [d] }
  | _ => none }
def opNameRow : OpenClaim := { program := "ythbalmoafpggdaa", sum := "1a9077d45f38fc2881bdceb08726a0ed66019643d821434a351b72606a83d619", func := "lagoon/lagoonlaw12.OpName", spec := "opName", inPlace := ["internal/bytealg.IndexByteString", "internal/bytealg.IndexString"], unfollowed := true, recurses := true, named := ["internal/bytealg.MaxLen"], apart := false }
def OpNameSaid : Prop := opNameRow.holds Try.pinned (OpenSpec.ofChange opNameSpec)

/-- ITS FALSE NEIGHBOUR: 'it returns false'. Refute it at one input. -/
def opNameWrong : ChangeSpec := { name := "opName", fn := fun _ => fun
  | [d] => { results := [.lit (.bool false)], args := [d] }
  | _ => none }
def OpNameWrongFalsely : Prop := opNameRow.holds Try.pinned (OpenSpec.ofChange opNameWrong)

/- THE SECOND FORM. 'bulk': how many values and letters a reading holds, each counted each time it is reached (what is shared counts as often as it is met; a slice's spare places count too). A statement '..UptoSaid' is the law's where the arguments, and the package variables that the reading takes, are together of bulk at most 1048576: NARROWER than '..Said'. Prove '..Said' where nothing that the law and all that it calls make is longer than what came in: it says more and counts as full. Else prove '..UptoSaid'. A law counts once. -/
mutual
def uptoBulk {H : Type} : DataW H → Nat
  | .lit (.string bytes) => bytes.length + 1
  | .lit _ => 1
  | .nil => 1
  | .ptr d => uptoBulk d + 1
  | .slice elems spare => uptoBulkAll elems + uptoBulkAll spare + 1
  | .agg parts => uptoBulkAll parts + 1
  | .iface _ d => uptoBulk d + 1
  | .map entries => uptoBulkEntries entries + 1
  | .held _ => 1
def uptoBulkAll {H : Type} : List (DataW H) → Nat
  | [] => 0
  | d :: r => uptoBulk d + uptoBulkAll r
def uptoBulkEntries {H : Type} : List (Lit × DataW H) → Nat
  | [] => 0
  | x :: r => uptoBulkEntry x + uptoBulkEntries r
def uptoBulkEntry {H : Type} : Lit × DataW H → Nat
  | (.string bytes, d) => bytes.length + uptoBulk d + 1
  | (_, d) => uptoBulk d + 1
 end
def uptoSmall : (H : Type) → List (DataW H) → Bool := fun _ ds => decide (uptoBulkAll ds ≤ 1048576)
def OpenSpec.upto (s : _root_.Go.ChangeSpec) : _root_.Go.OpenSpec := { _root_.Go.OpenSpec.ofChange s with cond := some uptoSmall }

/-- 'lagoonlaw3.CodecNone', WHERE WHAT IT READS IS OF BULK AT MOST 1048576: true; the input reads as it did. -/
def codecNoneUptoRow : OpenClaim := { program := "ythbalmoafpggdaa", sum := "1a9077d45f38fc2881bdceb08726a0ed66019643d821434a351b72606a83d619", func := "lagoon/lagoonlaw3.CodecNone", spec := "codecNone", unfollowed := true, recurses := true, apart := false, narrowed := true }
def CodecNoneUptoSaid : Prop := codecNoneUptoRow.holds Try.pinned (OpenSpec.upto codecNoneSpec)

/-- 'lagoonlaw3.CodecRead', WHERE WHAT IT READS IS OF BULK AT MOST 1048576: true; the input reads as it did. -/
def codecReadUptoRow : OpenClaim := { program := "ythbalmoafpggdaa", sum := "1a9077d45f38fc2881bdceb08726a0ed66019643d821434a351b72606a83d619", func := "lagoon/lagoonlaw3.CodecRead", spec := "codecRead", unfollowed := true, recurses := true, apart := false, narrowed := true }
def CodecReadUptoSaid : Prop := codecReadUptoRow.holds Try.pinned (OpenSpec.upto codecReadSpec)

/-- 'lagoonlaw3.CodecWrite', WHERE WHAT IT READS IS OF BULK AT MOST 1048576: true; the input reads as it did. -/
def codecWriteUptoRow : OpenClaim := { program := "ythbalmoafpggdaa", sum := "1a9077d45f38fc2881bdceb08726a0ed66019643d821434a351b72606a83d619", func := "lagoon/lagoonlaw3.CodecWrite", spec := "codecWrite", unfollowed := true, recurses := true, apart := false, narrowed := true }
def CodecWriteUptoSaid : Prop := codecWriteUptoRow.holds Try.pinned (OpenSpec.upto codecWriteSpec)

/-- 'lagoonlaw14.MergeSorted', WHERE WHAT IT READS IS OF BULK AT MOST 1048576: true; the input reads as it did. -/
def mergeSortedUptoRow : OpenClaim := { program := "ythbalmoafpggdaa", sum := "1a9077d45f38fc2881bdceb08726a0ed66019643d821434a351b72606a83d619", func := "lagoon/lagoonlaw14.MergeSorted", spec := "mergeSorted", unfollowed := true, recurses := true, apart := false, narrowed := true }
def MergeSortedUptoSaid : Prop := mergeSortedUptoRow.holds Try.pinned (OpenSpec.upto mergeSortedSpec)

/-- 'lagoonlaw14.MergeQueue', WHERE WHAT IT READS IS OF BULK AT MOST 1048576: true; the input reads as it did. -/
def mergeQueueUptoRow : OpenClaim := { program := "ythbalmoafpggdaa", sum := "1a9077d45f38fc2881bdceb08726a0ed66019643d821434a351b72606a83d619", func := "lagoon/lagoonlaw14.MergeQueue", spec := "mergeQueue", unfollowed := true, recurses := true, apart := false, narrowed := true }
def MergeQueueUptoSaid : Prop := mergeQueueUptoRow.holds Try.pinned (OpenSpec.upto mergeQueueSpec)

/-- 'lagoonlaw25.NetNone', WHERE WHAT IT READS IS OF BULK AT MOST 1048576: true; the input reads as it did. -/
def netNoneUptoRow : OpenClaim := { program := "ythbalmoafpggdaa", sum := "1a9077d45f38fc2881bdceb08726a0ed66019643d821434a351b72606a83d619", func := "lagoon/lagoonlaw25.NetNone", spec := "netNone", unfollowed := true, recurses := true, apart := false, narrowed := true }
def NetNoneUptoSaid : Prop := netNoneUptoRow.holds Try.pinned (OpenSpec.upto netNoneSpec)

/-- 'lagoonlaw12.OpDecode', WHERE WHAT IT READS IS OF BULK AT MOST 1048576: true; the input reads as it did. -/
def opDecodeUptoRow : OpenClaim := { program := "ythbalmoafpggdaa", sum := "1a9077d45f38fc2881bdceb08726a0ed66019643d821434a351b72606a83d619", func := "lagoon/lagoonlaw12.OpDecode", spec := "opDecode", inPlace := ["internal/bytealg.IndexByteString", "internal/bytealg.IndexString"], unfollowed := true, recurses := true, named := ["internal/bytealg.MaxLen"], apart := false, narrowed := true }
def OpDecodeUptoSaid : Prop := opDecodeUptoRow.holds Try.pinned (OpenSpec.upto opDecodeSpec)

/-- 'lagoonlaw12.OpName', WHERE WHAT IT READS IS OF BULK AT MOST 1048576: true; the input reads as it did. -/
def opNameUptoRow : OpenClaim := { program := "ythbalmoafpggdaa", sum := "1a9077d45f38fc2881bdceb08726a0ed66019643d821434a351b72606a83d619", func := "lagoon/lagoonlaw12.OpName", spec := "opName", inPlace := ["internal/bytealg.IndexByteString", "internal/bytealg.IndexString"], unfollowed := true, recurses := true, named := ["internal/bytealg.MaxLen"], apart := false, narrowed := true }
def OpNameUptoSaid : Prop := opNameUptoRow.holds Try.pinned (OpenSpec.upto opNameSpec)

end Rows
end Go.Proofs.Ythbalmoafpggdaa

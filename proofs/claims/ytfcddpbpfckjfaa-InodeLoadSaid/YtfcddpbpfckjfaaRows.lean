/-
  No cell of these rows narrows 'for every input' (looked for: loops, veiled, ifaces, maps, wideKeys, modest, calm, conditions, laid).
  DERIVED. THE GIVEN ROWS OF THIS SEAT. 8 by the template 'for every input the law returns true; each argument reads behind the call as it read before'; 0 by the template 'total and deterministic' (their statements: YtfcddpbpfckjfaaTotals.lean).
  GIVEN WITH THE SEED: the statements are not yours to turn. If you find one false, say at which input.
  Laid BY PROGRAM, IN A SANDBOX (cutbox-rows.mjs): the forced cells as the released guide's own fill.sh prints them over the translation 330c4fee00d4b2f5… (all of the seat's roots in one cut). By AI agents, Wed Nov 11 2026. No macro, syntax, notation, axiom, sorry.
-/
import Derived.Test.YtfcddpbpfckjfaaChecked
import GoSem.Claim
import GoSem.ClaimJoined
import GoSem.ClaimMapViews
import Derived.JoinedTies
import Derived.KernelRfl
namespace Go.Proofs.Ytfcddpbpfckjfaa
/- THE CELL 'sum', in the pinned program and in every row, IS THE sha256 OF THE DUMP (.gsa) THAT YtfcddpbpfckjfaaProg.lean LOADS. Nothing in Lean hashes anything: it is a label: what it is worth is what the hold of that sum in a sandbox is worth. -/
noncomputable def Try.pinned : Pinned := { name := "ytfcddpbpfckjfaa", sum := "330c4fee00d4b2f5a7ae8545acdebb7491fca752da551d9d2ba4a896c9ca8408", checked := Try.checked }
namespace Rows
def none {H : Type} : Left H := { results := [], args := [] }

/-- 'lagoonlaw20.FdsNone': WHATEVER THE INPUT: true; the input reads as it did. -/
def fdsNoneSpec : ChangeSpec := { name := "fdsNone", fn := fun _ => fun
  | [] => { results := [.lit (.bool true)], args := [] }
  | _ => none }
def fdsNoneRow : OpenClaim := { program := "ytfcddpbpfckjfaa", sum := "330c4fee00d4b2f5a7ae8545acdebb7491fca752da551d9d2ba4a896c9ca8408", func := "lagoon/lagoonlaw20.FdsNone", spec := "fdsNone", unfollowed := true, recurses := true, apart := false }
def FdsNoneSaid : Prop := fdsNoneRow.holds Try.pinned (OpenSpec.ofChange fdsNoneSpec)

/-- ITS FALSE NEIGHBOUR: 'it returns false'. Refute it at one input. -/
def fdsNoneWrong : ChangeSpec := { name := "fdsNone", fn := fun _ => fun
  | [] => { results := [.lit (.bool false)], args := [] }
  | _ => none }
def FdsNoneWrongFalsely : Prop := fdsNoneRow.holds Try.pinned (OpenSpec.ofChange fdsNoneWrong)

/-- 'lagoonlaw20.FdsAll': WHATEVER THE INPUT: true; the input reads as it did. -/
def fdsAllSpec : ChangeSpec := { name := "fdsAll", fn := fun _ => fun
  | [d] => { results := [.lit (.bool true)], args := [d] }
  | _ => none }
def fdsAllRow : OpenClaim := { program := "ytfcddpbpfckjfaa", sum := "330c4fee00d4b2f5a7ae8545acdebb7491fca752da551d9d2ba4a896c9ca8408", func := "lagoon/lagoonlaw20.FdsAll", spec := "fdsAll", unfollowed := true, recurses := true, apart := false }
def FdsAllSaid : Prop := fdsAllRow.holds Try.pinned (OpenSpec.ofChange fdsAllSpec)

/-- ITS FALSE NEIGHBOUR: 'it returns false'. Refute it at one input. -/
def fdsAllWrong : ChangeSpec := { name := "fdsAll", fn := fun _ => fun
  | [d] => { results := [.lit (.bool false)], args := [d] }
  | _ => none }
def FdsAllWrongFalsely : Prop := fdsAllRow.holds Try.pinned (OpenSpec.ofChange fdsAllWrong)

/-- 'lagoonlaw10.DirLoad': WHATEVER THE INPUT: true; the input reads as it did. -/
def dirLoadSpec : ChangeSpec := { name := "dirLoad", fn := fun _ => fun
  | [d1, d2, d3, d4] => { results := [.lit (.bool true)], args := [d1, d2, d3, d4] }
  | _ => none }
def dirLoadRow : OpenClaim := { program := "ytfcddpbpfckjfaa", sum := "330c4fee00d4b2f5a7ae8545acdebb7491fca752da551d9d2ba4a896c9ca8408", func := "lagoon/lagoonlaw10.DirLoad", spec := "dirLoad", inPlace := ["internal/bytealg.IndexByteString", "internal/bytealg.IndexString"], unfollowed := true, recurses := true, named := ["internal/bytealg.MaxLen"], apart := false }
def DirLoadSaid : Prop := dirLoadRow.holds Try.pinned (OpenSpec.ofChange dirLoadSpec)

/-- ITS FALSE NEIGHBOUR: 'it returns false'. Refute it at one input. -/
def dirLoadWrong : ChangeSpec := { name := "dirLoad", fn := fun _ => fun
  | [d1, d2, d3, d4] => { results := [.lit (.bool false)], args := [d1, d2, d3, d4] }
  | _ => none }
def DirLoadWrongFalsely : Prop := dirLoadRow.holds Try.pinned (OpenSpec.ofChange dirLoadWrong)

/-- 'lagoonlaw10.DirFull': WHATEVER THE INPUT: true; the input reads as it did. -/
def dirFullSpec : ChangeSpec := { name := "dirFull", fn := fun _ => fun
  | [] => { results := [.lit (.bool true)], args := [] }
  | _ => none }
def dirFullRow : OpenClaim := { program := "ytfcddpbpfckjfaa", sum := "330c4fee00d4b2f5a7ae8545acdebb7491fca752da551d9d2ba4a896c9ca8408", func := "lagoon/lagoonlaw10.DirFull", spec := "dirFull", inPlace := ["internal/bytealg.IndexByteString", "internal/bytealg.IndexString"], unfollowed := true, recurses := true, named := ["internal/bytealg.MaxLen"], apart := false }
def DirFullSaid : Prop := dirFullRow.holds Try.pinned (OpenSpec.ofChange dirFullSpec)

/-- ITS FALSE NEIGHBOUR: 'it returns false'. Refute it at one input. -/
def dirFullWrong : ChangeSpec := { name := "dirFull", fn := fun _ => fun
  | [] => { results := [.lit (.bool false)], args := [] }
  | _ => none }
def DirFullWrongFalsely : Prop := dirFullRow.holds Try.pinned (OpenSpec.ofChange dirFullWrong)

/-- 'lagoonlaw10.DirAll': WHATEVER THE INPUT: true; the input reads as it did. -/
def dirAllSpec : ChangeSpec := { name := "dirAll", fn := fun _ => fun
  | [d] => { results := [.lit (.bool true)], args := [d] }
  | _ => none }
def dirAllRow : OpenClaim := { program := "ytfcddpbpfckjfaa", sum := "330c4fee00d4b2f5a7ae8545acdebb7491fca752da551d9d2ba4a896c9ca8408", func := "lagoon/lagoonlaw10.DirAll", spec := "dirAll", inPlace := ["internal/bytealg.IndexByteString", "internal/bytealg.IndexString"], unfollowed := true, recurses := true, named := ["internal/bytealg.MaxLen"], apart := false }
def DirAllSaid : Prop := dirAllRow.holds Try.pinned (OpenSpec.ofChange dirAllSpec)

/-- ITS FALSE NEIGHBOUR: 'it returns false'. Refute it at one input. -/
def dirAllWrong : ChangeSpec := { name := "dirAll", fn := fun _ => fun
  | [d] => { results := [.lit (.bool false)], args := [d] }
  | _ => none }
def DirAllWrongFalsely : Prop := dirAllRow.holds Try.pinned (OpenSpec.ofChange dirAllWrong)

/-- 'lagoonlaw9.InodeCost': WHATEVER THE INPUT: true; the input reads as it did. -/
def inodeCostSpec : ChangeSpec := { name := "inodeCost", fn := fun _ => fun
  | [d] => { results := [.lit (.bool true)], args := [d] }
  | _ => none }
def inodeCostRow : OpenClaim := { program := "ytfcddpbpfckjfaa", sum := "330c4fee00d4b2f5a7ae8545acdebb7491fca752da551d9d2ba4a896c9ca8408", func := "lagoon/lagoonlaw9.InodeCost", spec := "inodeCost", unfollowed := true, recurses := true, apart := false }
def InodeCostSaid : Prop := inodeCostRow.holds Try.pinned (OpenSpec.ofChange inodeCostSpec)

/-- ITS FALSE NEIGHBOUR: 'it returns false'. Refute it at one input. -/
def inodeCostWrong : ChangeSpec := { name := "inodeCost", fn := fun _ => fun
  | [d] => { results := [.lit (.bool false)], args := [d] }
  | _ => none }
def InodeCostWrongFalsely : Prop := inodeCostRow.holds Try.pinned (OpenSpec.ofChange inodeCostWrong)

/-- 'lagoonlaw9.InodeLoad': WHATEVER THE INPUT: true; the input reads as it did. -/
def inodeLoadSpec : ChangeSpec := { name := "inodeLoad", fn := fun _ => fun
  | [d] => { results := [.lit (.bool true)], args := [d] }
  | _ => none }
def inodeLoadRow : OpenClaim := { program := "ytfcddpbpfckjfaa", sum := "330c4fee00d4b2f5a7ae8545acdebb7491fca752da551d9d2ba4a896c9ca8408", func := "lagoon/lagoonlaw9.InodeLoad", spec := "inodeLoad", unfollowed := true, recurses := true, apart := false }
def InodeLoadSaid : Prop := inodeLoadRow.holds Try.pinned (OpenSpec.ofChange inodeLoadSpec)

/-- ITS FALSE NEIGHBOUR: 'it returns false'. Refute it at one input. -/
def inodeLoadWrong : ChangeSpec := { name := "inodeLoad", fn := fun _ => fun
  | [d] => { results := [.lit (.bool false)], args := [d] }
  | _ => none }
def InodeLoadWrongFalsely : Prop := inodeLoadRow.holds Try.pinned (OpenSpec.ofChange inodeLoadWrong)

/-- 'lagoonlaw9.InodeNone': WHATEVER THE INPUT: true; the input reads as it did. -/
def inodeNoneSpec : ChangeSpec := { name := "inodeNone", fn := fun _ => fun
  | [] => { results := [.lit (.bool true)], args := [] }
  | _ => none }
def inodeNoneRow : OpenClaim := { program := "ytfcddpbpfckjfaa", sum := "330c4fee00d4b2f5a7ae8545acdebb7491fca752da551d9d2ba4a896c9ca8408", func := "lagoon/lagoonlaw9.InodeNone", spec := "inodeNone", unfollowed := true, recurses := true, apart := false }
def InodeNoneSaid : Prop := inodeNoneRow.holds Try.pinned (OpenSpec.ofChange inodeNoneSpec)

/-- ITS FALSE NEIGHBOUR: 'it returns false'. Refute it at one input. -/
def inodeNoneWrong : ChangeSpec := { name := "inodeNone", fn := fun _ => fun
  | [] => { results := [.lit (.bool false)], args := [] }
  | _ => none }
def InodeNoneWrongFalsely : Prop := inodeNoneRow.holds Try.pinned (OpenSpec.ofChange inodeNoneWrong)

/- THE SECOND FORM. 'bulk': how many values and letters a reading holds, each counted each time it is reached (what is shared counts as often as it is met; a slice's spare places count too). A statement '..UptoSaid' is the law's where the arguments, and the package variables that the reading takes, are together of bulk at most 1048576: NARROWER than '..Said'. Prove '..Said' where nothing that the law and all that it calls make is longer than what came in: it says more and counts as full. Else prove '..UptoSaid'. A law counts once. -/
mutual
def uptoBulk {H : Type} : DataW H → Nat
  | .lit (.string bytes) => bytes.length + 1
  | .lit _ => 1
  | .nil => 1
  | .ptr d => uptoBulk d + 1
  | .slice elems spare => uptoBulkAll elems + uptoBulkAll spare + 1
  | .agg parts => uptoBulkAll parts + 1
  | .iface _ d => uptoBulk d + 1
  | .map entries => uptoBulkEntries entries + 1
  | .held _ => 1
def uptoBulkAll {H : Type} : List (DataW H) → Nat
  | [] => 0
  | d :: r => uptoBulk d + uptoBulkAll r
def uptoBulkEntries {H : Type} : List (Lit × DataW H) → Nat
  | [] => 0
  | x :: r => uptoBulkEntry x + uptoBulkEntries r
def uptoBulkEntry {H : Type} : Lit × DataW H → Nat
  | (.string bytes, d) => bytes.length + uptoBulk d + 1
  | (_, d) => uptoBulk d + 1
 end
def uptoSmall : (H : Type) → List (DataW H) → Bool := fun _ ds => decide (uptoBulkAll ds ≤ 1048576)
def OpenSpec.upto (s : _root_.Go.ChangeSpec) : _root_.Go.OpenSpec := { _root_.Go.OpenSpec.ofChange s with cond := some uptoSmall }

/-- 'lagoonlaw20.FdsNone', WHERE WHAT IT READS IS OF BULK AT MOST 1048576: true; the input reads as it did. -/
def fdsNoneUptoRow : OpenClaim := { program := "ytfcddpbpfckjfaa", sum := "330c4fee00d4b2f5a7ae8545acdebb7491fca752da551d9d2ba4a896c9ca8408", func := "lagoon/lagoonlaw20.FdsNone", spec := "fdsNone", unfollowed := true, recurses := true, apart := false, narrowed := true }
def FdsNoneUptoSaid : Prop := fdsNoneUptoRow.holds Try.pinned (OpenSpec.upto fdsNoneSpec)

/-- 'lagoonlaw20.FdsAll', WHERE WHAT IT READS IS OF BULK AT MOST 1048576: true; the input reads as it did. -/
def fdsAllUptoRow : OpenClaim := { program := "ytfcddpbpfckjfaa", sum := "330c4fee00d4b2f5a7ae8545acdebb7491fca752da551d9d2ba4a896c9ca8408", func := "lagoon/lagoonlaw20.FdsAll", spec := "fdsAll", unfollowed := true, recurses := true, apart := false, narrowed := true }
def FdsAllUptoSaid : Prop := fdsAllUptoRow.holds Try.pinned (OpenSpec.upto fdsAllSpec)

/-- 'lagoonlaw10.DirLoad', WHERE WHAT IT READS IS OF BULK AT MOST 1048576: true; the input reads as it did. -/
def dirLoadUptoRow : OpenClaim := { program := "ytfcddpbpfckjfaa", sum := "330c4fee00d4b2f5a7ae8545acdebb7491fca752da551d9d2ba4a896c9ca8408", func := "lagoon/lagoonlaw10.DirLoad", spec := "dirLoad", inPlace := ["internal/bytealg.IndexByteString", "internal/bytealg.IndexString"], unfollowed := true, recurses := true, named := ["internal/bytealg.MaxLen"], apart := false, narrowed := true }
def DirLoadUptoSaid : Prop := dirLoadUptoRow.holds Try.pinned (OpenSpec.upto dirLoadSpec)

/-- 'lagoonlaw10.DirFull', WHERE WHAT IT READS IS OF BULK AT MOST 1048576: true; the input reads as it did. -/
def dirFullUptoRow : OpenClaim := { program := "ytfcddpbpfckjfaa", sum := "330c4fee00d4b2f5a7ae8545acdebb7491fca752da551d9d2ba4a896c9ca8408", func := "lagoon/lagoonlaw10.DirFull", spec := "dirFull", inPlace := ["internal/bytealg.IndexByteString", "internal/bytealg.IndexString"], unfollowed := true, recurses := true, named := ["internal/bytealg.MaxLen"], apart := false, narrowed := true }
def DirFullUptoSaid : Prop := dirFullUptoRow.holds Try.pinned (OpenSpec.upto dirFullSpec)

/-- 'lagoonlaw10.DirAll', WHERE WHAT IT READS IS OF BULK AT MOST 1048576: true; the input reads as it did. -/
def dirAllUptoRow : OpenClaim := { program := "ytfcddpbpfckjfaa", sum := "330c4fee00d4b2f5a7ae8545acdebb7491fca752da551d9d2ba4a896c9ca8408", func := "lagoon/lagoonlaw10.DirAll", spec := "dirAll", inPlace := ["internal/bytealg.IndexByteString", "internal/bytealg.IndexString"], unfollowed := true, recurses := true, named := ["internal/bytealg.MaxLen"], apart := false, narrowed := true }
def DirAllUptoSaid : Prop := dirAllUptoRow.holds Try.pinned (OpenSpec.upto dirAllSpec)

/-- 'lagoonlaw9.InodeCost', WHERE WHAT IT READS IS OF BULK AT MOST 1048576: true; the input reads as it did. -/
def inodeCostUptoRow : OpenClaim := { program := "ytfcddpbpfckjfaa", sum := "330c4fee00d4b2f5a7ae8545acdebb7491fca752da551d9d2ba4a896c9ca8408", func := "lagoon/lagoonlaw9.InodeCost", spec := "inodeCost", unfollowed := true, recurses := true, apart := false, narrowed := true }
def InodeCostUptoSaid : Prop := inodeCostUptoRow.holds Try.pinned (OpenSpec.upto inodeCostSpec)

/-- 'lagoonlaw9.InodeLoad', WHERE WHAT IT READS IS OF BULK AT MOST 1048576: true; the input reads as it did. -/
def inodeLoadUptoRow : OpenClaim := { program := "ytfcddpbpfckjfaa", sum := "330c4fee00d4b2f5a7ae8545acdebb7491fca752da551d9d2ba4a896c9ca8408", func := "lagoon/lagoonlaw9.InodeLoad", spec := "inodeLoad", unfollowed := true, recurses := true, apart := false, narrowed := true }
def InodeLoadUptoSaid : Prop := inodeLoadUptoRow.holds Try.pinned (OpenSpec.upto inodeLoadSpec)

/-- 'lagoonlaw9.InodeNone', WHERE WHAT IT READS IS OF BULK AT MOST 1048576: true; the input reads as it did. -/
def inodeNoneUptoRow : OpenClaim := { program := "ytfcddpbpfckjfaa", sum := "330c4fee00d4b2f5a7ae8545acdebb7491fca752da551d9d2ba4a896c9ca8408", func := "lagoon/lagoonlaw9.InodeNone", spec := "inodeNone", unfollowed := true, recurses := true, apart := false, narrowed := true }
def InodeNoneUptoSaid : Prop := inodeNoneUptoRow.holds Try.pinned (OpenSpec.upto inodeNoneSpec)

end Rows
end Go.Proofs.Ytfcddpbpfckjfaa

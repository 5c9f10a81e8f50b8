/-
  No cell of these rows narrows 'for every input' (looked for: loops, veiled, ifaces, maps, wideKeys, modest, calm, conditions, laid).
  DERIVED. THE GIVEN ROWS OF THIS SEAT. 12 by the template 'for every input the law returns true; each argument reads behind the call as it read before'; 0 by the template 'total and deterministic' (their statements: YtgpfkdlnmifiiaaTotals.lean).
  GIVEN WITH THE SEED: the statements are not yours to turn. If you find one false, say at which input.
  Laid BY PROGRAM, IN A SANDBOX (cutbox-rows.mjs): the forced cells as the released guide's own fill.sh prints them over the translation cc7d77d4146187d1… (all of the seat's roots in one cut). By AI agents, Wed Nov 11 2026. No macro, syntax, notation, axiom, sorry.
-/
import Derived.Test.YtgpfkdlnmifiiaaChecked
import GoSem.Claim
import GoSem.ClaimJoined
import GoSem.ClaimMapViews
import Derived.JoinedTies
import Derived.KernelRfl
namespace Go.Proofs.Ytgpfkdlnmifiiaa
/- THE CELL 'sum', in the pinned program and in every row, IS THE sha256 OF THE DUMP (.gsa) THAT YtgpfkdlnmifiiaaProg.lean LOADS. Nothing in Lean hashes anything: it is a label: what it is worth is what the hold of that sum in a sandbox is worth. -/
noncomputable def Try.pinned : Pinned := { name := "ytgpfkdlnmifiiaa", sum := "cc7d77d4146187d13cccb64047f12f6df9fe60bff1d8a57b6233193b1a68eea1", checked := Try.checked }
namespace Rows
def none {H : Type} : Left H := { results := [], args := [] }

/-- 'lagoonlaw0.Names': WHATEVER THE INPUT: true; the input reads as it did. -/
def namesSpec : ChangeSpec := { name := "names", fn := fun _ => fun
  | [] => { results := [.lit (.bool true)], args := [] }
  | _ => none }
def namesRow : OpenClaim := { program := "ytgpfkdlnmifiiaa", sum := "cc7d77d4146187d13cccb64047f12f6df9fe60bff1d8a57b6233193b1a68eea1", func := "lagoon/lagoonlaw0.Names", spec := "names", apart := false }
def NamesSaid : Prop := namesRow.holds Try.pinned (OpenSpec.ofChange namesSpec)

/-- ITS FALSE NEIGHBOUR: 'it returns false'. Refute it at one input. -/
def namesWrong : ChangeSpec := { name := "names", fn := fun _ => fun
  | [] => { results := [.lit (.bool false)], args := [] }
  | _ => none }
def NamesWrongFalsely : Prop := namesRow.holds Try.pinned (OpenSpec.ofChange namesWrong)

/-- 'lagoonlaw5.ClockOrder': WHATEVER THE INPUT: true; the input reads as it did. -/
def clockOrderSpec : ChangeSpec := { name := "clockOrder", fn := fun _ => fun
  | [d1, d2] => { results := [.lit (.bool true)], args := [d1, d2] }
  | _ => none }
def clockOrderRow : OpenClaim := { program := "ytgpfkdlnmifiiaa", sum := "cc7d77d4146187d13cccb64047f12f6df9fe60bff1d8a57b6233193b1a68eea1", func := "lagoon/lagoonlaw5.ClockOrder", spec := "clockOrder", apart := false }
def ClockOrderSaid : Prop := clockOrderRow.holds Try.pinned (OpenSpec.ofChange clockOrderSpec)

/-- ITS FALSE NEIGHBOUR: 'it returns false'. Refute it at one input. -/
def clockOrderWrong : ChangeSpec := { name := "clockOrder", fn := fun _ => fun
  | [d1, d2] => { results := [.lit (.bool false)], args := [d1, d2] }
  | _ => none }
def ClockOrderWrongFalsely : Prop := clockOrderRow.holds Try.pinned (OpenSpec.ofChange clockOrderWrong)

/-- 'lagoonlaw4.VectorLattice': WHATEVER THE INPUT: true; the input reads as it did. -/
def vectorLatticeSpec : ChangeSpec := { name := "vectorLattice", fn := fun _ => fun
  | [d1, d2, d3] => { results := [.lit (.bool true)], args := [d1, d2, d3] }
  | _ => none }
def vectorLatticeRow : OpenClaim := { program := "ytgpfkdlnmifiiaa", sum := "cc7d77d4146187d13cccb64047f12f6df9fe60bff1d8a57b6233193b1a68eea1", func := "lagoon/lagoonlaw4.VectorLattice", spec := "vectorLattice", unfollowed := true, recurses := true, apart := false }
def VectorLatticeSaid : Prop := vectorLatticeRow.holds Try.pinned (OpenSpec.ofChange vectorLatticeSpec)

/-- ITS FALSE NEIGHBOUR: 'it returns false'. Refute it at one input. -/
def vectorLatticeWrong : ChangeSpec := { name := "vectorLattice", fn := fun _ => fun
  | [d1, d2, d3] => { results := [.lit (.bool false)], args := [d1, d2, d3] }
  | _ => none }
def VectorLatticeWrongFalsely : Prop := vectorLatticeRow.holds Try.pinned (OpenSpec.ofChange vectorLatticeWrong)

/-- 'lagoonlaw4.VectorPairs': WHATEVER THE INPUT: true; the input reads as it did. -/
def vectorPairsSpec : ChangeSpec := { name := "vectorPairs", fn := fun _ => fun
  | [d1, d2, d3, d4] => { results := [.lit (.bool true)], args := [d1, d2, d3, d4] }
  | _ => none }
def vectorPairsRow : OpenClaim := { program := "ytgpfkdlnmifiiaa", sum := "cc7d77d4146187d13cccb64047f12f6df9fe60bff1d8a57b6233193b1a68eea1", func := "lagoon/lagoonlaw4.VectorPairs", spec := "vectorPairs", unfollowed := true, recurses := true, apart := false }
def VectorPairsSaid : Prop := vectorPairsRow.holds Try.pinned (OpenSpec.ofChange vectorPairsSpec)

/-- ITS FALSE NEIGHBOUR: 'it returns false'. Refute it at one input. -/
def vectorPairsWrong : ChangeSpec := { name := "vectorPairs", fn := fun _ => fun
  | [d1, d2, d3, d4] => { results := [.lit (.bool false)], args := [d1, d2, d3, d4] }
  | _ => none }
def VectorPairsWrongFalsely : Prop := vectorPairsRow.holds Try.pinned (OpenSpec.ofChange vectorPairsWrong)

/-- 'lagoonlaw2.CrcParts': WHATEVER THE INPUT: true; the input reads as it did. -/
def crcPartsSpec : ChangeSpec := { name := "crcParts", fn := fun _ => fun
  | [d] => { results := [.lit (.bool true)], args := [d] }
  | _ => none }
def crcPartsRow : OpenClaim := { program := "ytgpfkdlnmifiiaa", sum := "cc7d77d4146187d13cccb64047f12f6df9fe60bff1d8a57b6233193b1a68eea1", func := "lagoon/lagoonlaw2.CrcParts", spec := "crcParts", unfollowed := true, recurses := true, apart := false }
def CrcPartsSaid : Prop := crcPartsRow.holds Try.pinned (OpenSpec.ofChange crcPartsSpec)

/-- ITS FALSE NEIGHBOUR: 'it returns false'. Refute it at one input. -/
def crcPartsWrong : ChangeSpec := { name := "crcParts", fn := fun _ => fun
  | [d] => { results := [.lit (.bool false)], args := [d] }
  | _ => none }
def CrcPartsWrongFalsely : Prop := crcPartsRow.holds Try.pinned (OpenSpec.ofChange crcPartsWrong)

/-- 'lagoonlaw2.CrcFrame': WHATEVER THE INPUT: true; the input reads as it did. -/
def crcFrameSpec : ChangeSpec := { name := "crcFrame", fn := fun _ => fun
  | [d1, d2, d3, d4] => { results := [.lit (.bool true)], args := [d1, d2, d3, d4] }
  | _ => none }
def crcFrameRow : OpenClaim := { program := "ytgpfkdlnmifiiaa", sum := "cc7d77d4146187d13cccb64047f12f6df9fe60bff1d8a57b6233193b1a68eea1", func := "lagoon/lagoonlaw2.CrcFrame", spec := "crcFrame", unfollowed := true, recurses := true, apart := false }
def CrcFrameSaid : Prop := crcFrameRow.holds Try.pinned (OpenSpec.ofChange crcFrameSpec)

/-- ITS FALSE NEIGHBOUR: 'it returns false'. Refute it at one input. -/
def crcFrameWrong : ChangeSpec := { name := "crcFrame", fn := fun _ => fun
  | [d1, d2, d3, d4] => { results := [.lit (.bool false)], args := [d1, d2, d3, d4] }
  | _ => none }
def CrcFrameWrongFalsely : Prop := crcFrameRow.holds Try.pinned (OpenSpec.ofChange crcFrameWrong)

/-- 'lagoonlaw2.CrcBig': WHATEVER THE INPUT: true; the input reads as it did. -/
def crcBigSpec : ChangeSpec := { name := "crcBig", fn := fun _ => fun
  | [] => { results := [.lit (.bool true)], args := [] }
  | _ => none }
def crcBigRow : OpenClaim := { program := "ytgpfkdlnmifiiaa", sum := "cc7d77d4146187d13cccb64047f12f6df9fe60bff1d8a57b6233193b1a68eea1", func := "lagoon/lagoonlaw2.CrcBig", spec := "crcBig", unfollowed := true, recurses := true, apart := false }
def CrcBigSaid : Prop := crcBigRow.holds Try.pinned (OpenSpec.ofChange crcBigSpec)

/-- ITS FALSE NEIGHBOUR: 'it returns false'. Refute it at one input. -/
def crcBigWrong : ChangeSpec := { name := "crcBig", fn := fun _ => fun
  | [] => { results := [.lit (.bool false)], args := [] }
  | _ => none }
def CrcBigWrongFalsely : Prop := crcBigRow.holds Try.pinned (OpenSpec.ofChange crcBigWrong)

/-- 'lagoonlaw5.ClockNone': WHATEVER THE INPUT: true; the input reads as it did. -/
def clockNoneSpec : ChangeSpec := { name := "clockNone", fn := fun _ => fun
  | [] => { results := [.lit (.bool true)], args := [] }
  | _ => none }
def clockNoneRow : OpenClaim := { program := "ytgpfkdlnmifiiaa", sum := "cc7d77d4146187d13cccb64047f12f6df9fe60bff1d8a57b6233193b1a68eea1", func := "lagoon/lagoonlaw5.ClockNone", spec := "clockNone", apart := false }
def ClockNoneSaid : Prop := clockNoneRow.holds Try.pinned (OpenSpec.ofChange clockNoneSpec)

/-- ITS FALSE NEIGHBOUR: 'it returns false'. Refute it at one input. -/
def clockNoneWrong : ChangeSpec := { name := "clockNone", fn := fun _ => fun
  | [] => { results := [.lit (.bool false)], args := [] }
  | _ => none }
def ClockNoneWrongFalsely : Prop := clockNoneRow.holds Try.pinned (OpenSpec.ofChange clockNoneWrong)

/-- 'lagoonlaw1.DeviceOwn': WHATEVER THE INPUT: true; the input reads as it did. -/
def deviceOwnSpec : ChangeSpec := { name := "deviceOwn", fn := fun _ => fun
  | [d1, d2] => { results := [.lit (.bool true)], args := [d1, d2] }
  | _ => none }
def deviceOwnRow : OpenClaim := { program := "ytgpfkdlnmifiiaa", sum := "cc7d77d4146187d13cccb64047f12f6df9fe60bff1d8a57b6233193b1a68eea1", func := "lagoon/lagoonlaw1.DeviceOwn", spec := "deviceOwn", unfollowed := true, recurses := true, apart := false }
def DeviceOwnSaid : Prop := deviceOwnRow.holds Try.pinned (OpenSpec.ofChange deviceOwnSpec)

/-- ITS FALSE NEIGHBOUR: 'it returns false'. Refute it at one input. -/
def deviceOwnWrong : ChangeSpec := { name := "deviceOwn", fn := fun _ => fun
  | [d1, d2] => { results := [.lit (.bool false)], args := [d1, d2] }
  | _ => none }
def DeviceOwnWrongFalsely : Prop := deviceOwnRow.holds Try.pinned (OpenSpec.ofChange deviceOwnWrong)

/-- 'lagoonlaw8.BitmapLoad': WHATEVER THE INPUT: true; the input reads as it did. -/
def bitmapLoadSpec : ChangeSpec := { name := "bitmapLoad", fn := fun _ => fun
  | [d1, d2] => { results := [.lit (.bool true)], args := [d1, d2] }
  | _ => none }
def bitmapLoadRow : OpenClaim := { program := "ytgpfkdlnmifiiaa", sum := "cc7d77d4146187d13cccb64047f12f6df9fe60bff1d8a57b6233193b1a68eea1", func := "lagoon/lagoonlaw8.BitmapLoad", spec := "bitmapLoad", apart := false }
def BitmapLoadSaid : Prop := bitmapLoadRow.holds Try.pinned (OpenSpec.ofChange bitmapLoadSpec)

/-- ITS FALSE NEIGHBOUR: 'it returns false'. Refute it at one input. -/
def bitmapLoadWrong : ChangeSpec := { name := "bitmapLoad", fn := fun _ => fun
  | [d1, d2] => { results := [.lit (.bool false)], args := [d1, d2] }
  | _ => none }
def BitmapLoadWrongFalsely : Prop := bitmapLoadRow.holds Try.pinned (OpenSpec.ofChange bitmapLoadWrong)

/-- 'lagoonlaw1.DeviceNone': WHATEVER THE INPUT: true; the input reads as it did. -/
def deviceNoneSpec : ChangeSpec := { name := "deviceNone", fn := fun _ => fun
  | [] => { results := [.lit (.bool true)], args := [] }
  | _ => none }
def deviceNoneRow : OpenClaim := { program := "ytgpfkdlnmifiiaa", sum := "cc7d77d4146187d13cccb64047f12f6df9fe60bff1d8a57b6233193b1a68eea1", func := "lagoon/lagoonlaw1.DeviceNone", spec := "deviceNone", unfollowed := true, recurses := true, apart := false }
def DeviceNoneSaid : Prop := deviceNoneRow.holds Try.pinned (OpenSpec.ofChange deviceNoneSpec)

/-- ITS FALSE NEIGHBOUR: 'it returns false'. Refute it at one input. -/
def deviceNoneWrong : ChangeSpec := { name := "deviceNone", fn := fun _ => fun
  | [] => { results := [.lit (.bool false)], args := [] }
  | _ => none }
def DeviceNoneWrongFalsely : Prop := deviceNoneRow.holds Try.pinned (OpenSpec.ofChange deviceNoneWrong)

/-- 'lagoonlaw8.BitmapNone': WHATEVER THE INPUT: true; the input reads as it did. -/
def bitmapNoneSpec : ChangeSpec := { name := "bitmapNone", fn := fun _ => fun
  | [] => { results := [.lit (.bool true)], args := [] }
  | _ => none }
def bitmapNoneRow : OpenClaim := { program := "ytgpfkdlnmifiiaa", sum := "cc7d77d4146187d13cccb64047f12f6df9fe60bff1d8a57b6233193b1a68eea1", func := "lagoon/lagoonlaw8.BitmapNone", spec := "bitmapNone", apart := false }
def BitmapNoneSaid : Prop := bitmapNoneRow.holds Try.pinned (OpenSpec.ofChange bitmapNoneSpec)

/-- ITS FALSE NEIGHBOUR: 'it returns false'. Refute it at one input. -/
def bitmapNoneWrong : ChangeSpec := { name := "bitmapNone", fn := fun _ => fun
  | [] => { results := [.lit (.bool false)], args := [] }
  | _ => none }
def BitmapNoneWrongFalsely : Prop := bitmapNoneRow.holds Try.pinned (OpenSpec.ofChange bitmapNoneWrong)

/- THE SECOND FORM. 'bulk': how many values and letters a reading holds, each counted each time it is reached (what is shared counts as often as it is met; a slice's spare places count too). A statement '..UptoSaid' is the law's where the arguments, and the package variables that the reading takes, are together of bulk at most 1048576: NARROWER than '..Said'. Prove '..Said' where nothing that the law and all that it calls make is longer than what came in: it says more and counts as full. Else prove '..UptoSaid'. A law counts once. -/
mutual
def uptoBulk {H : Type} : DataW H → Nat
  | .lit (.string bytes) => bytes.length + 1
  | .lit _ => 1
  | .nil => 1
  | .ptr d => uptoBulk d + 1
  | .slice elems spare => uptoBulkAll elems + uptoBulkAll spare + 1
  | .agg parts => uptoBulkAll parts + 1
  | .iface _ d => uptoBulk d + 1
  | .map entries => uptoBulkEntries entries + 1
  | .held _ => 1
def uptoBulkAll {H : Type} : List (DataW H) → Nat
  | [] => 0
  | d :: r => uptoBulk d + uptoBulkAll r
def uptoBulkEntries {H : Type} : List (Lit × DataW H) → Nat
  | [] => 0
  | x :: r => uptoBulkEntry x + uptoBulkEntries r
def uptoBulkEntry {H : Type} : Lit × DataW H → Nat
  | (.string bytes, d) => bytes.length + uptoBulk d + 1
  | (_, d) => uptoBulk d + 1
 end
def uptoSmall : (H : Type) → List (DataW H) → Bool := fun _ ds => decide (uptoBulkAll ds ≤ 1048576)
def OpenSpec.upto (s : _root_.Go.ChangeSpec) : _root_.Go.OpenSpec := { _root_.Go.OpenSpec.ofChange s with cond := some uptoSmall }

/-- 'lagoonlaw0.Names', WHERE WHAT IT READS IS OF BULK AT MOST 1048576: true; the input reads as it did. -/
def namesUptoRow : OpenClaim := { program := "ytgpfkdlnmifiiaa", sum := "cc7d77d4146187d13cccb64047f12f6df9fe60bff1d8a57b6233193b1a68eea1", func := "lagoon/lagoonlaw0.Names", spec := "names", apart := false, narrowed := true }
def NamesUptoSaid : Prop := namesUptoRow.holds Try.pinned (OpenSpec.upto namesSpec)

/-- 'lagoonlaw5.ClockOrder', WHERE WHAT IT READS IS OF BULK AT MOST 1048576: true; the input reads as it did. -/
def clockOrderUptoRow : OpenClaim := { program := "ytgpfkdlnmifiiaa", sum := "cc7d77d4146187d13cccb64047f12f6df9fe60bff1d8a57b6233193b1a68eea1", func := "lagoon/lagoonlaw5.ClockOrder", spec := "clockOrder", apart := false, narrowed := true }
def ClockOrderUptoSaid : Prop := clockOrderUptoRow.holds Try.pinned (OpenSpec.upto clockOrderSpec)

/-- 'lagoonlaw4.VectorLattice', WHERE WHAT IT READS IS OF BULK AT MOST 1048576: true; the input reads as it did. -/
def vectorLatticeUptoRow : OpenClaim := { program := "ytgpfkdlnmifiiaa", sum := "cc7d77d4146187d13cccb64047f12f6df9fe60bff1d8a57b6233193b1a68eea1", func := "lagoon/lagoonlaw4.VectorLattice", spec := "vectorLattice", unfollowed := true, recurses := true, apart := false, narrowed := true }
def VectorLatticeUptoSaid : Prop := vectorLatticeUptoRow.holds Try.pinned (OpenSpec.upto vectorLatticeSpec)

/-- 'lagoonlaw4.VectorPairs', WHERE WHAT IT READS IS OF BULK AT MOST 1048576: true; the input reads as it did. -/
def vectorPairsUptoRow : OpenClaim := { program := "ytgpfkdlnmifiiaa", sum := "cc7d77d4146187d13cccb64047f12f6df9fe60bff1d8a57b6233193b1a68eea1", func := "lagoon/lagoonlaw4.VectorPairs", spec := "vectorPairs", unfollowed := true, recurses := true, apart := false, narrowed := true }
def VectorPairsUptoSaid : Prop := vectorPairsUptoRow.holds Try.pinned (OpenSpec.upto vectorPairsSpec)

/-- 'lagoonlaw2.CrcParts', WHERE WHAT IT READS IS OF BULK AT MOST 1048576: true; the input reads as it did. -/
def crcPartsUptoRow : OpenClaim := { program := "ytgpfkdlnmifiiaa", sum := "cc7d77d4146187d13cccb64047f12f6df9fe60bff1d8a57b6233193b1a68eea1", func := "lagoon/lagoonlaw2.CrcParts", spec := "crcParts", unfollowed := true, recurses := true, apart := false, narrowed := true }
def CrcPartsUptoSaid : Prop := crcPartsUptoRow.holds Try.pinned (OpenSpec.upto crcPartsSpec)

/-- 'lagoonlaw2.CrcFrame', WHERE WHAT IT READS IS OF BULK AT MOST 1048576: true; the input reads as it did. -/
def crcFrameUptoRow : OpenClaim := { program := "ytgpfkdlnmifiiaa", sum := "cc7d77d4146187d13cccb64047f12f6df9fe60bff1d8a57b6233193b1a68eea1", func := "lagoon/lagoonlaw2.CrcFrame", spec := "crcFrame", unfollowed := true, recurses := true, apart := false, narrowed := true }
def CrcFrameUptoSaid : Prop := crcFrameUptoRow.holds Try.pinned (OpenSpec.upto crcFrameSpec)

/-- 'lagoonlaw2.CrcBig', WHERE WHAT IT READS IS OF BULK AT MOST 1048576: true; the input reads as it did. -/
def crcBigUptoRow : OpenClaim := { program := "ytgpfkdlnmifiiaa", sum := "cc7d77d4146187d13cccb64047f12f6df9fe60bff1d8a57b6233193b1a68eea1", func := "lagoon/lagoonlaw2.CrcBig", spec := "crcBig", unfollowed := true, recurses := true, apart := false, narrowed := true }
def CrcBigUptoSaid : Prop := crcBigUptoRow.holds Try.pinned (OpenSpec.upto crcBigSpec)

/-- 'lagoonlaw5.ClockNone', WHERE WHAT IT READS IS OF BULK AT MOST 1048576: true; the input reads as it did. -/
def clockNoneUptoRow : OpenClaim := { program := "ytgpfkdlnmifiiaa", sum := "cc7d77d4146187d13cccb64047f12f6df9fe60bff1d8a57b6233193b1a68eea1", func := "lagoon/lagoonlaw5.ClockNone", spec := "clockNone", apart := false, narrowed := true }
def ClockNoneUptoSaid : Prop := clockNoneUptoRow.holds Try.pinned (OpenSpec.upto clockNoneSpec)

/-- 'lagoonlaw1.DeviceOwn', WHERE WHAT IT READS IS OF BULK AT MOST 1048576: true; the input reads as it did. -/
def deviceOwnUptoRow : OpenClaim := { program := "ytgpfkdlnmifiiaa", sum := "cc7d77d4146187d13cccb64047f12f6df9fe60bff1d8a57b6233193b1a68eea1", func := "lagoon/lagoonlaw1.DeviceOwn", spec := "deviceOwn", unfollowed := true, recurses := true, apart := false, narrowed := true }
def DeviceOwnUptoSaid : Prop := deviceOwnUptoRow.holds Try.pinned (OpenSpec.upto deviceOwnSpec)

/-- 'lagoonlaw8.BitmapLoad', WHERE WHAT IT READS IS OF BULK AT MOST 1048576: true; the input reads as it did. -/
def bitmapLoadUptoRow : OpenClaim := { program := "ytgpfkdlnmifiiaa", sum := "cc7d77d4146187d13cccb64047f12f6df9fe60bff1d8a57b6233193b1a68eea1", func := "lagoon/lagoonlaw8.BitmapLoad", spec := "bitmapLoad", apart := false, narrowed := true }
def BitmapLoadUptoSaid : Prop := bitmapLoadUptoRow.holds Try.pinned (OpenSpec.upto bitmapLoadSpec)

/-- 'lagoonlaw1.DeviceNone', WHERE WHAT IT READS IS OF BULK AT MOST 1048576: true; the input reads as it did. -/
def deviceNoneUptoRow : OpenClaim := { program := "ytgpfkdlnmifiiaa", sum := "cc7d77d4146187d13cccb64047f12f6df9fe60bff1d8a57b6233193b1a68eea1", func := "lagoon/lagoonlaw1.DeviceNone", spec := "deviceNone", unfollowed := true, recurses := true, apart := false, narrowed := true }
def DeviceNoneUptoSaid : Prop := deviceNoneUptoRow.holds Try.pinned (OpenSpec.upto deviceNoneSpec)

/-- 'lagoonlaw8.BitmapNone', WHERE WHAT IT READS IS OF BULK AT MOST 1048576: true; the input reads as it did. -/
def bitmapNoneUptoRow : OpenClaim := { program := "ytgpfkdlnmifiiaa", sum := "cc7d77d4146187d13cccb64047f12f6df9fe60bff1d8a57b6233193b1a68eea1", func := "lagoon/lagoonlaw8.BitmapNone", spec := "bitmapNone", apart := false, narrowed := true }
def BitmapNoneUptoSaid : Prop := bitmapNoneUptoRow.holds Try.pinned (OpenSpec.upto bitmapNoneSpec)

end Rows
end Go.Proofs.Ytgpfkdlnmifiiaa

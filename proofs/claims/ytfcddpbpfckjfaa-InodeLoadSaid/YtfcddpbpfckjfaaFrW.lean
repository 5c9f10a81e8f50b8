/- Bytes that came in. -/
import Derived.Test.YtfcddpbpfckjfaaFr
import Derived.Test.YtfcddpbpfckjfaaCln
import Derived.OpenShut
namespace Go.Proofs.Ytfcddpbpfckjfaa
open Go.RowKit
set_option linter.unusedVariables false
set_option linter.unusedSimpArgs false
theorem byt_of_row9 {w : World} {a : Option Addr} {len cap : Nat} {zs : List Int} (h : IsRow .u8 w a len cap zs) : Byt (zs.take len) := fun q hq => by
  have := bounds_u8 (h.wf q hq)
  omega
theorem lt_of_u8 {x : Int} (h : (Lit.int .u8 x).wf = true) : 0 ≤ x ∧ x < 256 := by
  have := bounds_u8 h
  omega
end Go.Proofs.Ytfcddpbpfckjfaa

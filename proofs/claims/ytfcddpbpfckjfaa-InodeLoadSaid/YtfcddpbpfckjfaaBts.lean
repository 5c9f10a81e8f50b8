/- Bytes: parts of a row of bytes. -/
import Derived.Test.YtfcddpbpfckjfaaCln
namespace Go.Proofs.Ytfcddpbpfckjfaa
open Go.RowKit
set_option linter.unusedVariables false
set_option linter.unusedSimpArgs false
theorem Byt.take {l : List Int} (h : Byt l) (k : Nat) : Byt (l.take k) := fun q hq => h q (List.mem_of_mem_take hq)
theorem Byt.drop {l : List Int} (h : Byt l) (k : Nat) : Byt (l.drop k) := fun q hq => h q (List.mem_of_mem_drop hq)
theorem Byt.append {l m : List Int} (h : Byt l) (k : Byt m) : Byt (l ++ m) := fun q hq => by
  rcases List.mem_append.1 hq with hq | hq
  · exact h q hq
  · exact k q hq
end Go.Proofs.Ytfcddpbpfckjfaa

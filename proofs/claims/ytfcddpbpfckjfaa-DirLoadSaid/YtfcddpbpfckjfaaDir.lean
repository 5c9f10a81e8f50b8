/- A directory of names: which names may be. -/
import Derived.Test.YtfcddpbpfckjfaaChecked
import Derived.WalkKit
import Derived.Outline
import Derived.WalkSpells
import Derived.WalkLawsBesides
import Derived.Deep.QuietTactic
import Derived.Deep.RegionWith
import Derived.Deep.DeepMust
import Derived.BigQuiet
import Derived.Test.YtfcddpbpfckjfaaMem
import Derived.RegionTactic
import Derived.ChangeAlike
import Derived.StillTailTactics
import Derived.Deep.LoopGhost
import Derived.Test.YtfcddpbpfckjfaaNm
namespace Go.Proofs.Ytfcddpbpfckjfaa
open Go.RowKit
set_option linter.unusedVariables false
set_option linter.unusedSimpArgs false
set_option maxRecDepth 100000 in
theorem dirFine (s : ByteArray) (w : World) (hs : s.size < 4294967281) : Calls Try.prog 36 #[.string s] w fun e w' => e = .returned (.int .i64 (localE s.data.toList)) ∧ Below w.heap.size w w' := by
  have K := Lib.hid (fun w => containsAny s ⟨#[0, 47]⟩ w hs (by decide) (by decide) (by intro j b h; rcases j with _ | _ | j <;> simp at h <;> subst h <;> decide))
  go_enter Try.func36, Try.ntmps36
  go_wp2_with (go_at_call 57; refine (K.out _).mono ?_; rintro e w' ⟨rfl, hb'⟩; have HB2 := Lib.hid hb'; clear hb')
  all_goals
    go_ret
    refine ⟨ret_i (.symm ?_), by first | exact Below.refl _ _ | exact HB2.out⟩
    have e2 := Lib.size_eq s
    unfold localE nameG
    simp only [Lib.toList_data] at *
    generalize s.data.toList = l at *
    simp_all
    try omega
end Go.Proofs.Ytfcddpbpfckjfaa

/- The laws' Short. -/
import Derived.Test.YtfcddpbpfckjfaaChecked
import Derived.WalkKit
import Derived.Outline
import Derived.WalkSpells
import Derived.WalkLawsBesides
import Derived.Deep.QuietTactic
import Derived.Deep.RegionWith
import Derived.Deep.DeepMust
import Derived.BigQuiet
import Derived.Test.YtfcddpbpfckjfaaMem
import Derived.RegionTactic
import Derived.ChangeAlike
import Derived.StillTailTactics
import Derived.Test.YtfcddpbpfckjfaaCln
namespace Go.Proofs.Ytfcddpbpfckjfaa
open Go.RowKit
set_option linter.unusedVariables false
set_option linter.unusedSimpArgs false
theorem shortC (v : Value) (l : List Int) (n : Nat) (w : World) (h : Rdv u8v w v l) (hn : n ≤ 1000000) :
    Calls Try.prog 29 #[v, .int .i64 n] w fun e w' => (∃ v', e = .returned v' ∧ Rdv u8v w v' (l.take n)) ∧ w = w' := by
  obtain ⟨a, m, c, rfl⟩ := h.shape
  have hT := h.take
  have h0 := h
  obtain ⟨rfl, h1, h2, h3⟩ := h.cap
  unfold maxLen at h2
  have HT := Lib.hid hT
  have H0 := Lib.hid h0
  clear hT h0 h3 h
  by_cases hc : n < l.length
  · go_enter Try.func29, Try.ntmps29
    go_wp2
    have hT := HT.out n c (by omega) (by omega) (by omega)
    go_ret
    exact ⟨⟨_, rfl, hT⟩, rfl⟩
  · have e : Hid (l.take n = l) := List.take_of_length_le (by omega)
    go_enter Try.func29, Try.ntmps29
    go_wp2
    go_ret
    exact ⟨⟨_, rfl, by rw [e.out]; exact H0.out⟩, rfl⟩
theorem shortC3 (a : Option Addr) (l : List Int) (c n : Nat) (w : World) (hn : n ≤ 1000000) (h1 : l.length ≤ c) (h2 : c ≤ 9223372036854775807) :
    Calls Try.prog 29 #[.slice a l.length c, .int .i64 n] w fun e w' => (∃ v', e = .returned v' ∧ ∀ w0, Rdv u8v w0 (.slice a l.length c) l → Rdv u8v w0 v' (l.take n)) ∧ w = w' := by
  by_cases hc : n < l.length
  · have HT : Hid (∀ w0, Rdv u8v w0 (.slice a l.length c) l → Rdv u8v w0 (.slice a n c) (l.take n)) := fun w0 h => h.take n c (by omega) (by omega) (by omega)
    go_enter Try.func29, Try.ntmps29
    go_wp2
    have hT := HT.out
    go_ret
    exact ⟨⟨_, rfl, hT⟩, rfl⟩
  · have e : Hid (l.take n = l) := List.take_of_length_le (by omega)
    go_enter Try.func29, Try.ntmps29
    go_wp2
    go_ret
    exact ⟨⟨_, rfl, fun w0 h => by rw [e.out]; exact h⟩, rfl⟩
end Go.Proofs.Ytfcddpbpfckjfaa

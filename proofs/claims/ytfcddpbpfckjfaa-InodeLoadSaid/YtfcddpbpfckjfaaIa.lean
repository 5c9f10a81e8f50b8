/- An inode: what a size costs; its bytes. -/
import Derived.Test.YtfcddpbpfckjfaaChecked
import Derived.WalkKit
import Derived.Outline
import Derived.WalkSpells
import Derived.WalkLawsBesides
import Derived.Deep.QuietTactic
import Derived.Deep.RegionWith
import Derived.Deep.DeepMust
import Derived.BigQuiet
import Derived.Test.YtfcddpbpfckjfaaMem
import Derived.RegionTactic
import Derived.ChangeAlike
import Derived.StillTailTactics
import Derived.BigRegion
import Derived.Deep.LoopGhost
import Derived.Deep.RegionHeld3
import Derived.Test.YtfcddpbpfckjfaaBd
namespace Go.Proofs.Ytfcddpbpfckjfaa
open Go.RowKit
set_option linter.unusedVariables false
set_option linter.unusedSimpArgs false
def costC (n : Int) : Int := if n < 1 ∨ 65536 < n then 0 else (n + 512 - 1) / 512 + (if 8 < (n + 512 - 1) / 512 then 1 else 0) + (if 72 < (n + 512 - 1) / 512 then 1 + ((n + 512 - 1) / 512 - 72 + 64 - 1) / 64 else 0)
theorem inoBlocks (n : Int) (w : World) (h0 : 0 ≤ n) (h1 : n ≤ 131072) : Calls Try.prog 59 #[.int .i64 n] w fun e w' => e = .returned (.int .i64 ((n + 512 - 1) / 512)) ∧ w = w' := by
  go_enter Try.func59, Try.ntmps59
  go_wp2
  go_ret
  exact ⟨rfl, rfl⟩
theorem inoCost (n : Int) (w : World) (hl : -9223372036854775808 ≤ n) (hh : n ≤ 9223372036854775807) : Calls Try.prog 40 #[.int .i64 n] w fun e w' => e = .returned (.int .i64 (costC n)) ∧ w = w' := by
  by_cases h1 : n < 1
  · have e : Hid (costC n = 0) := Lib.hid (by unfold costC; rw [if_pos (.inl h1)])
    go_enter Try.func40, Try.ntmps40
    go_wp2
    go_ret
    exact ⟨ret_i e.out.symm, rfl⟩
  · by_cases h2 : 65536 < n
    · have e : Hid (costC n = 0) := Lib.hid (by unfold costC; rw [if_pos (.inr h2)])
      go_enter Try.func40, Try.ntmps40
      go_wp2
      go_ret
      exact ⟨ret_i e.out.symm, rfl⟩
    · have KB := Lib.hid (inoBlocks n w (by omega) (by omega))
      have e0 : costC n = (n + 512 - 1) / 512 + (if 8 < (n + 512 - 1) / 512 then 1 else 0) + (if 72 < (n + 512 - 1) / 512 then 1 + ((n + 512 - 1) / 512 - 72 + 64 - 1) / 64 else 0) := by unfold costC; rw [if_neg (by omega)]
      have hq0 : 0 ≤ (n + 512 - 1) / 512 := by omega
      have hq1 : (n + 512 - 1) / 512 ≤ 128 := by omega
      generalize (n + 512 - 1) / 512 = q at *
      have E := Lib.hid e0
      clear e0
      by_cases h8 : 8 < q
      · by_cases h72 : 72 < q
        · have e : Hid (costC n = q + 1 + (1 + (q - 72 + 64 - 1) / 64)) := Lib.hid (by rw [E.out, if_pos h8, if_pos h72])
          have hd : 0 ≤ (q - 72 + 64 - 1) / 64 ∧ (q - 72 + 64 - 1) / 64 ≤ 1 := by omega
          go_enter Try.func40, Try.ntmps40
          go_wp2_with (go_at_call 59; refine KB.out.mono ?_; rintro e w' ⟨rfl, rfl⟩)
          go_ret
          exact ⟨ret_i (by rw [e.out]), rfl⟩
        · have e : Hid (costC n = q + 1) := Lib.hid (by rw [E.out, if_pos h8, if_neg h72]; omega)
          go_enter Try.func40, Try.ntmps40
          go_wp2_with (go_at_call 59; refine KB.out.mono ?_; rintro e w' ⟨rfl, rfl⟩)
          go_ret
          exact ⟨ret_i (by rw [e.out]), rfl⟩
      · have e : Hid (costC n = q) := Lib.hid (by rw [E.out, if_neg h8, if_neg (by omega)]; omega)
        have h72 : ¬ 72 < q := by omega
        go_enter Try.func40, Try.ntmps40
        go_wp2_with (go_at_call 59; refine KB.out.mono ?_; rintro e w' ⟨rfl, rfl⟩)
        go_ret
        exact ⟨ret_i (by rw [e.out]), rfl⟩
theorem refCost (n : Int) (w : World) (hl : -9223372036854775808 ≤ n) (hh : n ≤ 9223372036854775807) : Calls Try.prog 41 #[.int .i64 n] w fun e w' => e = .returned (.int .i64 (costC n)) ∧ w = w' := by
  by_cases h1 : n < 1
  · have e : Hid (costC n = 0) := Lib.hid (by unfold costC; rw [if_pos (.inl h1)])
    go_enter Try.func41, Try.ntmps41
    go_wp2
    go_ret
    exact ⟨ret_i e.out.symm, rfl⟩
  · by_cases h2 : 65536 < n
    · have e : Hid (costC n = 0) := Lib.hid (by unfold costC; rw [if_pos (.inr h2)])
      go_enter Try.func41, Try.ntmps41
      go_wp2
      go_ret
      exact ⟨ret_i e.out.symm, rfl⟩
    · have e0 : costC n = (n + 512 - 1) / 512 + (if 8 < (n + 512 - 1) / 512 then 1 else 0) + (if 72 < (n + 512 - 1) / 512 then 1 + ((n + 512 - 1) / 512 - 72 + 64 - 1) / 64 else 0) := by unfold costC; rw [if_neg (by omega)]
      have hq0 : 0 ≤ (n + 512 - 1) / 512 := by omega
      have hq1 : (n + 512 - 1) / 512 ≤ 128 := by omega
      have E := Lib.hid e0
      clear e0
      by_cases h8 : 8 < (n + 512 - 1) / 512
      · by_cases h72 : 72 < (n + 512 - 1) / 512
        · have e : Hid (costC n = (n + 512 - 1) / 512 + 1 + (1 + ((n + 512 - 1) / 512 - 72 + 63) / 64)) := Lib.hid (by rw [E.out, if_pos h8, if_pos h72]; omega)
          have hd : 0 ≤ ((n + 512 - 1) / 512 - 72 + 63) / 64 ∧ ((n + 512 - 1) / 512 - 72 + 63) / 64 ≤ 1 := by omega
          go_enter Try.func41, Try.ntmps41
          go_wp2
          go_ret
          exact ⟨ret_i (by rw [e.out]), rfl⟩
        · have e : Hid (costC n = (n + 512 - 1) / 512 + 1) := Lib.hid (by rw [E.out, if_pos h8, if_neg h72]; omega)
          go_enter Try.func41, Try.ntmps41
          go_wp2
          go_ret
          exact ⟨ret_i (by rw [e.out]), rfl⟩
      · have e : Hid (costC n = (n + 512 - 1) / 512) := Lib.hid (by rw [E.out, if_neg h8, if_neg (by omega)]; omega)
        have h72 : ¬ 72 < (n + 512 - 1) / 512 := by omega
        go_enter Try.func41, Try.ntmps41
        go_wp2
        go_ret
        exact ⟨ret_i (by rw [e.out]), rfl⟩
end Go.Proofs.Ytfcddpbpfckjfaa

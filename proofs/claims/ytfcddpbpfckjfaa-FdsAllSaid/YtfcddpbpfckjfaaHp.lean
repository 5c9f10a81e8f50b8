/- container/heap on the table's closed numbers: the methods. -/
import Derived.Test.YtfcddpbpfckjfaaChecked
import Derived.WalkKit
import Derived.Outline
import Derived.WalkSpells
import Derived.WalkLawsBesides
import Derived.Deep.QuietTactic
import Derived.Deep.RegionWith
import Derived.Deep.DeepMust
import Derived.BigQuiet
import Derived.Test.YtfcddpbpfckjfaaMem
import Derived.RegionTactic
import Derived.ChangeAlike
import Derived.StillTailTactics
import Derived.BigRegion
import Derived.Deep.RegionHeld3
import Derived.Deep.RegionLaw
import Derived.Test.YtfcddpbpfckjfaaFdsW
namespace Go.Proofs.Ytfcddpbpfckjfaa
open Go.RowKit
set_option linter.unusedVariables false
set_option linter.unusedSimpArgs false
theorem fLess (g n c i j : Nat) (x y : Int) (w : World) (hi : i < n) (hj : j < n) (hn : n ≤ c) (hc : c ≤ 9223372036854775807) (ci : w.cell? ⟨g, i, none⟩ = some (.int .i64 x)) (cj : w.cell? ⟨g, j, none⟩ = some (.int .i64 y)) :
    Calls Try.prog 157 #[.slice (some ⟨g, 0, none⟩) n c, .int .i64 i, .int .i64 j] w fun e w' => e = .returned (.bool (decide (x < y))) ∧ Drw w w' := by
  have i0 : (0 : Int) ≤ i := by omega
  have j0 : (0 : Int) ≤ j := by omega
  have i1 : (i : Int) < n := by omega
  have j1 : (j : Int) < n := by omega
  go_enter Try.func157, Try.ntmps157
  go_wp2
  go_quiet (fail)
  go_wp2
  go_ret
  exact ⟨rfl, _, rfl⟩
theorem fSwap (g n c i j : Nat) (cur : Array Value) (x y : Int) (w : World) (hi : i < n) (hj : j < n) (hn : n ≤ c) (hc : c ≤ 9223372036854775807) (hb : Blk w g cur 3) (ci : cur[i]? = some (.int .i64 x)) (cj : cur[j]? = some (.int .i64 y)) :
    Calls Try.prog 158 #[.slice (some ⟨g, 0, none⟩) n c, .int .i64 i, .int .i64 j] w fun e w' => e = .returned (.tuple #[]) ∧ Blk w' g ((cur.setIfInBounds i (.int .i64 y)).setIfInBounds j (.int .i64 x)) 3 ∧ Chg (· = g) w w' := by
  have i0 : (0 : Int) ≤ i := by omega
  have j0 : (0 : Int) ≤ j := by omega
  have i1 : (i : Int) < n := by omega
  have j1 : (j : Int) < n := by omega
  have k1 := hb.cell ci
  have k2 := hb.cell cj
  have f1 := hb.free i
  have f2 := hb.free j
  have hz := hb.lt
  have key : ∀ (i j : Nat) (y : Value), i < cur.size → cur[j]? = some y → (cur.setIfInBounds i y)[j]? = some y := by
    intro i j y hi h
    rw [Array.getElem?_setIfInBounds]
    split
    · simp [hi]
    · exact h
  have hic : i < cur.size := by
    rcases Nat.lt_or_ge i cur.size with h | h
    · exact h
    · rw [Array.getElem?_eq_none h] at ci; cases ci
  have hjc : j < cur.size := by
    rcases Nat.lt_or_ge j cur.size with h | h
    · exact h
    · rw [Array.getElem?_eq_none h] at cj; cases cj
  have m1 := (hb.set i (.int .i64 y)).cell (key i j _ hic cj)
  have m2 := (hb.set i (.int .i64 y)).free j
  have m3 := (hb.set j (.int .i64 x)).cell (key j i _ hjc ci)
  have m4 := (hb.set j (.int .i64 x)).free i
  have HB := Lib.hid hb
  clear hb ci cj key
  go_enter Try.func158, Try.ntmps158
  go_wp2
  go_region
  all_goals go_wp2
  go_end0
  exact ⟨rfl, (HB.out.set i _).set j _, (Chg.set (S := (· = g)) (Chg.set (S := (· = g)) (Chg.refl (· = g) w) (p := ⟨g, i, none⟩) (fun _ => rfl) _) (p := ⟨g, j, none⟩) (fun _ => rfl) _).drew⟩
end Go.Proofs.Ytfcddpbpfckjfaa

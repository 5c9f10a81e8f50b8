/- A directory of names: the names as a heap, by their bytes. -/
import Derived.Test.YtfcddpbpfckjfaaChecked
import Derived.WalkKit
import Derived.Outline
import Derived.WalkSpells
import Derived.WalkLawsBesides
import Derived.Deep.QuietTactic
import Derived.Deep.RegionWith
import Derived.Deep.DeepMust
import Derived.BigQuiet
import Derived.Test.YtfcddpbpfckjfaaMem
import Derived.RegionTactic
import Derived.ChangeAlike
import Derived.StillTailTactics
import Derived.BigRegion
import Derived.Deep.RegionHeld3
import Derived.Deep.RegionLaw
import Derived.Deep.AppendLies
import Derived.Test.YtfcddpbpfckjfaaHpP
import Derived.Test.YtfcddpbpfckjfaaApp
import Derived.Test.YtfcddpbpfckjfaaDir
namespace Go.Proofs.Ytfcddpbpfckjfaa
open Go.RowKit
set_option linter.unusedVariables false
set_option linter.unusedSimpArgs false
theorem bytesLess_eq : ∀ (x y : List UInt8), Op.bytesLess x y = decide (x < y)
  | [], [] => by simp [Op.bytesLess]
  | _ :: _, [] => by simp [Op.bytesLess]
  | [], _ :: _ => by simp [Op.bytesLess]
  | a :: x, b :: y => by
    rw [Op.bytesLess, bytesLess_eq x y]
    simp only [List.cons_lt_cons_iff]
    by_cases h1 : a < b <;> by_cases h2 : a = b <;> by_cases h3 : x < y <;> simp [h1, h2, h3]
/-- By their bytes. -/
def slt (a b : ByteArray) : Bool := Op.bytesLess a.toList b.toList
theorem slt_ord : Hq.Ord slt := ⟨fun a b c h1 h2 => by
    unfold slt at *
    rw [bytesLess_eq, decide_eq_false_iff_not] at *
    exact List.not_lt.2 (List.le_trans (List.not_lt.1 h1) (List.not_lt.1 h2)),
  fun a b h => by
    unfold slt at *
    rw [bytesLess_eq] at *
    rw [decide_eq_true_eq] at h
    rw [decide_eq_false_iff_not]
    exact List.not_lt.2 (List.le_of_lt h)⟩
abbrev strv (s : ByteArray) : Value := .string s
theorem Sn.info : (Try.prog.info? 9).map (fun i => (i.zero, i.size, i.bytes)) = some (some (.string ByteArray.empty), 1, 16) := by kernel_rfl
structure NmG (B : Nat) (w : World) (b : Nat) (cv : Value) (xs : Array ByteArray) : Prop where
  blk : Blk w b #[cv] 106
  own : w.ownsRow B 9 1 cv xs.size (xs.toList.map strv)
theorem nmLen (a : Option Addr) (n c : Nat) (w : World) (h : n ≤ 9223372036854775807) : Calls Try.prog 56 #[.slice a n c] w fun e w' => e = .returned (.int .i64 n) ∧ Drw w w' := by
  go_enter Try.func56, Try.ntmps56
  go_wp2
  go_ret
  exact ⟨rfl, 0, rfl⟩
theorem nmLess (g n c i j : Nat) (x y : ByteArray) (w : World) (hi : i < n) (hj : j < n) (hn : n ≤ c) (hc : c ≤ 9223372036854775807) (ci : w.cell? ⟨g, i, none⟩ = some (.string x)) (cj : w.cell? ⟨g, j, none⟩ = some (.string y)) :
    Calls Try.prog 161 #[.slice (some ⟨g, 0, none⟩) n c, .int .i64 i, .int .i64 j] w fun e w' => e = .returned (.bool (slt x y)) ∧ Drw w w' := by
  have i0 : (0 : Int) ≤ i := by omega
  have j0 : (0 : Int) ≤ j := by omega
  have i1 : (i : Int) < n := by omega
  have j1 : (j : Int) < n := by omega
  go_enter Try.func161, Try.ntmps161
  go_wp2
  go_quiet (fail)
  go_wp2
  go_ret
  exact ⟨rfl, _, rfl⟩
theorem nmSwap (g n c i j : Nat) (cur : Array Value) (x y : ByteArray) (w : World) (hi : i < n) (hj : j < n) (hn : n ≤ c) (hc : c ≤ 9223372036854775807) (hb : Blk w g cur 9) (ci : cur[i]? = some (.string x)) (cj : cur[j]? = some (.string y)) :
    Calls Try.prog 164 #[.slice (some ⟨g, 0, none⟩) n c, .int .i64 i, .int .i64 j] w fun e w' => e = .returned (.tuple #[]) ∧ Blk w' g ((cur.setIfInBounds i (.string y)).setIfInBounds j (.string x)) 9 ∧ Chg (· = g) w w' := by
  have i0 : (0 : Int) ≤ i := by omega
  have j0 : (0 : Int) ≤ j := by omega
  have i1 : (i : Int) < n := by omega
  have j1 : (j : Int) < n := by omega
  have k1 := hb.cell ci
  have k2 := hb.cell cj
  have f1 := hb.free i
  have f2 := hb.free j
  have hz := hb.lt
  have hic : i < cur.size := by
    rcases Nat.lt_or_ge i cur.size with h | h
    · exact h
    · rw [Array.getElem?_eq_none h] at ci; cases ci
  have hjc : j < cur.size := by
    rcases Nat.lt_or_ge j cur.size with h | h
    · exact h
    · rw [Array.getElem?_eq_none h] at cj; cases cj
  have m1 : (w.setCell ⟨g, i, none⟩ (.string y)).cell? ⟨g, j, none⟩ = some (.string y) := (hb.set i _).cell (by rw [Array.getElem?_setIfInBounds]; split <;> simp_all)
  have m2 := (hb.set i (.string y)).free j
  have m3 : (w.setCell ⟨g, j, none⟩ (.string x)).cell? ⟨g, i, none⟩ = some (.string x) := (hb.set j _).cell (by rw [Array.getElem?_setIfInBounds]; split <;> simp_all)
  have m4 := (hb.set j (.string x)).free i
  have HB := Lib.hid hb
  clear hb ci cj
  go_enter Try.func164, Try.ntmps164
  go_wp2
  go_region
  all_goals go_wp2
  go_end0
  exact ⟨rfl, (HB.out.set i _).set j _, (Chg.set (S := (· = g)) (Chg.set (S := (· = g)) (Chg.refl (· = g) w) (p := ⟨g, i, none⟩) (fun _ => rfl) _) (p := ⟨g, j, none⟩) (fun _ => rfl) _).drew⟩
theorem agg_names (w : World) : (isAgg 106).run Try.prog w = .ok false w := by kernel_rfl
theorem ld_names (a : Addr) (w : World) (v : Value) (h : w.cell? a = some v) : (loadVar 106 a).run Try.prog w = .ok v w := by
  unfold loadVar
  simp only [Sem.run_bind, agg_names, Result.andThen_ok]
  go_simp
theorem nmth_less (a : Addr) (w : World) (v : Value) (h : w.cell? a = some v) : (method 327 105 (.pointer (some a)) "Less").run Try.prog w = .ok (161, v) w := by
  have e : (method 327 105 (.pointer (some a)) "Less").run Try.prog w = (do let v ← loadVar 106 a; pure (161, v) : Sem _).run Try.prog w := by kernel_rfl
  rw [e, Sem.run_bind, ld_names a w v h]
  rfl
theorem nmth_swap (a : Addr) (w : World) (v : Value) (h : w.cell? a = some v) : (method 327 105 (.pointer (some a)) "Swap").run Try.prog w = .ok (164, v) w := by
  have e : (method 327 105 (.pointer (some a)) "Swap").run Try.prog w = (do let v ← loadVar 106 a; pure (164, v) : Sem _).run Try.prog w := by kernel_rfl
  rw [e, Sem.run_bind, ld_names a w v h]
  rfl
theorem nmth_len (a : Addr) (w : World) (v : Value) (h : w.cell? a = some v) : (method 327 105 (.pointer (some a)) "Len").run Try.prog w = .ok (56, v) w := by
  have e : (method 327 105 (.pointer (some a)) "Len").run Try.prog w = (do let v ← loadVar 106 a; pure (56, v) : Sem _).run Try.prog w := by kernel_rfl
  rw [e, Sem.run_bind, ld_names a w v h]
  rfl
theorem nmth_push (a : Addr) (w : World) : (method 327 105 (.pointer (some a)) "Push").run Try.prog w = .ok (163, .pointer (some a)) w := by kernel_rfl
theorem nmth_pop (a : Addr) (w : World) : (method 327 105 (.pointer (some a)) "Pop").run Try.prog w = .ok (162, .pointer (some a)) w := by kernel_rfl
end Go.Proofs.Ytfcddpbpfckjfaa

/- Stamps compared: clock's and the reference's. -/
import Derived.Test.YthbalmoafpggdaaChecked
import Derived.WalkKit
import Derived.Outline
import Derived.WalkSpells
import Derived.WalkLawsBesides
import Derived.Deep.QuietTactic
import Derived.Deep.RegionWith
import Derived.Deep.DeepMust
import Derived.BigQuiet
import Derived.Test.YthbalmoafpggdaaMem
import Derived.RegionTactic
import Derived.ChangeAlike
import Derived.StillTailTactics
namespace Go.Proofs.Ythbalmoafpggdaa
open Go.RowKit
set_option linter.unusedVariables false
set_option linter.unusedSimpArgs false
def cmpZ (x y : Int) : Int := if x < y then -1 else if y < x then 1 else 0
theorem cmp64 (x y : Int) (w : World) : Calls Try.prog 126 #[.int .i64 x, .int .i64 y] w fun e w' => e = .returned (.int .i64 (cmpZ x y)) ∧ w = w' := by
  by_cases h1 : x < y
  · go_enter Try.func126, Try.ntmps126
    go_wp2
    go_ret
    exact ⟨by simp [cmpZ, h1], rfl⟩
  · by_cases h2 : y < x
    · go_enter Try.func126, Try.ntmps126
      go_wp2
      go_ret
      exact ⟨by simp [cmpZ, h1, h2], rfl⟩
    · go_enter Try.func126, Try.ntmps126
      go_wp2
      go_ret
      exact ⟨congrArg (fun z => Ending.returned (.int .i64 z)) (show 0 = cmpZ x y from by unfold cmpZ; rw [if_neg (by omega), if_neg (by omega)]), rfl⟩
theorem cmpInt (x y : Int) (w : World) : Calls Try.prog 127 #[.int .i64 x, .int .i64 y] w fun e w' => e = .returned (.int .i64 (cmpZ x y)) ∧ w = w' := by
  by_cases h1 : x < y
  · go_enter Try.func127, Try.ntmps127
    go_wp2
    go_ret
    exact ⟨by simp [cmpZ, h1], rfl⟩
  · by_cases h2 : y < x
    · go_enter Try.func127, Try.ntmps127
      go_wp2
      go_ret
      exact ⟨by simp [cmpZ, h1, h2], rfl⟩
    · go_enter Try.func127, Try.ntmps127
      go_wp2
      go_ret
      exact ⟨congrArg (fun z => Ending.returned (.int .i64 z)) (show 0 = cmpZ x y from by unfold cmpZ; rw [if_neg (by omega), if_neg (by omega)]), rfl⟩

def idV (t n : Int) : Value := .agg #[.int .i64 t, .int .i64 n]
def cmpID (t n t' n' : Int) : Int := if cmpZ t t' = 0 then cmpZ n n' else cmpZ t t'
theorem clkCmp (t n t' n' : Int) (w : World) : Calls Try.prog 108 #[.agg #[.int .i64 t, .int .i64 n], .agg #[.int .i64 t', .int .i64 n']] w fun e w' => e = .returned (.int .i64 (cmpID t n t' n')) ∧ Below w.heap.size w w' := by
  by_cases h : cmpZ t t' = 0
  · have hb : (cmpZ t t' == 0) = true := beq_iff_eq.2 h
    have hb' : (cmpZ t t' != 0) = false := by simp [h]
    have H := Lib.hid h; clear h
    go_enter Try.func108, Try.ntmps108
    go_wp2_with (first | (go_at_call 126; refine (cmp64 _ _ _).mono ?_; rintro e w' ⟨rfl, rfl⟩) | (go_at_call 127; refine (cmpInt _ _ _).mono ?_; rintro e w' ⟨rfl, rfl⟩))
    go_ret
    exact ⟨by simp [cmpID, H.out], by (repeat (first | exact Below.refl _ _ | (with_reducible assumption) | apply Below.drew | (refine Below.alloc ?_ (by first | exact Nat.le_refl _ | omega | (simp; done) | (simp; omega)) _) | (refine Below.setCell ?_ (by first | exact Nat.le_refl _ | omega | (simp; done) | (simp; omega)) _) | (refine Below.trans ?_ (Below.mono (by with_reducible assumption) (by first | omega | (simp; done) | (simp; omega))))))⟩
  · have hb : (cmpZ t t' == 0) = false := by simpa using h
    have hb' : (cmpZ t t' != 0) = true := by simpa using h
    go_enter Try.func108, Try.ntmps108
    go_wp2_with (first | (go_at_call 126; refine (cmp64 _ _ _).mono ?_; rintro e w' ⟨rfl, rfl⟩) | (go_at_call 127; refine (cmpInt _ _ _).mono ?_; rintro e w' ⟨rfl, rfl⟩))
    go_ret
    exact ⟨by simp [cmpID, h], by (repeat (first | exact Below.refl _ _ | (with_reducible assumption) | apply Below.drew | (refine Below.alloc ?_ (by first | exact Nat.le_refl _ | omega | (simp; done) | (simp; omega)) _) | (refine Below.setCell ?_ (by first | exact Nat.le_refl _ | omega | (simp; done) | (simp; omega)) _) | (refine Below.trans ?_ (Below.mono (by with_reducible assumption) (by first | omega | (simp; done) | (simp; omega))))))⟩
theorem clkLess (t n t' n' : Int) (w : World) : Calls Try.prog 79 #[.agg #[.int .i64 t, .int .i64 n], .agg #[.int .i64 t', .int .i64 n']] w fun e w' => e = .returned (.bool (decide (cmpID t n t' n' < 0))) ∧ Below w.heap.size w w' := by
  go_enter Try.func79, Try.ntmps79
  go_wp2_with (go_at_call 108; refine (clkCmp _ _ _ _ _).mono ?_; rintro e w1 ⟨rfl, hb⟩)
  go_ret
  exact ⟨rfl, by (repeat (first | exact Below.refl _ _ | (with_reducible assumption) | apply Below.drew | (refine Below.alloc ?_ (by first | exact Nat.le_refl _ | omega | (simp; done) | (simp; omega)) _) | (refine Below.setCell ?_ (by first | exact Nat.le_refl _ | omega | (simp; done) | (simp; omega)) _) | (refine Below.trans ?_ (Below.mono (by with_reducible assumption) (by first | omega | (simp; done) | (simp; omega))))))⟩
def validID (t n : Int) : Bool := decide (1 ≤ t) && decide (t ≤ 1152921504606846976) && (decide (0 ≤ n) && decide (n < 64))
theorem clkValid (t n : Int) (w : World) : Calls Try.prog 113 #[.agg #[.int .i64 t, .int .i64 n]] w fun e w' => e = .returned (.bool (validID t n)) ∧ Below w.heap.size w w' := by
  go_enter Try.func113, Try.ntmps113
  go_wp2
  all_goals
    go_ret
    refine ⟨congrArg (fun x => Ending.returned (.bool x)) ?_, by (repeat (first | exact Below.refl _ _ | (with_reducible assumption) | apply Below.drew | (refine Below.alloc ?_ (by first | exact Nat.le_refl _ | omega | (simp; done) | (simp; omega)) _) | (refine Below.setCell ?_ (by first | exact Nat.le_refl _ | omega | (simp; done) | (simp; omega)) _) | (refine Below.trans ?_ (Below.mono (by with_reducible assumption) (by first | omega | (simp; done) | (simp; omega))))))⟩
    unfold validID
    simp [*]
    try omega
/-- The stamps told at the law's begin. -/
def ClkBegun (w : World) (e : Ending) (w' : World) : Prop := e = .returned (.bool true) ∧ Below w.heap.size w w'
set_option maxHeartbeats 1000000 in
theorem refLess (t n t' n' : Int) (w : World) : Calls Try.prog 30 #[.agg #[.int .i64 t, .int .i64 n], .agg #[.int .i64 t', .int .i64 n']] w fun e w' => e = .returned (.bool (decide (t < t') || decide (t = t') && decide (n < n'))) ∧ Below w.heap.size w w' := by
  go_enter Try.func30, Try.ntmps30
  go_wp2
  all_goals
    go_ret
    refine ⟨congrArg (fun x => Ending.returned (.bool x)) ?_, by (repeat (first | exact Below.refl _ _ | (with_reducible assumption) | apply Below.drew | (refine Below.alloc ?_ (by first | exact Nat.le_refl _ | omega | (simp; done) | (simp; omega)) _) | (refine Below.setCell ?_ (by first | exact Nat.le_refl _ | omega | (simp; done) | (simp; omega)) _) | (refine Below.trans ?_ (Below.mono (by with_reducible assumption) (by first | omega | (simp; done) | (simp; omega))))))⟩
    simp [*]
    try omega
theorem refValid (t n : Int) (w : World) : Calls Try.prog 118 #[.agg #[.int .i64 t, .int .i64 n]] w fun e w' => e = .returned (.bool (validID t n)) ∧ Below w.heap.size w w' := by
  go_enter Try.func118, Try.ntmps118
  go_wp2
  all_goals
    go_ret
    refine ⟨congrArg (fun x => Ending.returned (.bool x)) ?_, by (repeat (first | exact Below.refl _ _ | (with_reducible assumption) | apply Below.drew | (refine Below.alloc ?_ (by first | exact Nat.le_refl _ | omega | (simp; done) | (simp; omega)) _) | (refine Below.setCell ?_ (by first | exact Nat.le_refl _ | omega | (simp; done) | (simp; omega)) _) | (refine Below.trans ?_ (Below.mono (by with_reducible assumption) (by first | omega | (simp; done) | (simp; omega))))))⟩
    unfold validID
    simp [*]
    try omega
def idLt (t n t' n' : Int) : Bool := decide (t < t') || decide (t = t') && decide (n < n')
theorem cmpID_lt (t n t' n' : Int) : decide (cmpID t n t' n' < 0) = idLt t n t' n' := by
  unfold cmpID cmpZ idLt
  rw [Bool.eq_iff_iff]
  simp only [decide_eq_true_eq, Bool.or_eq_true, Bool.and_eq_true]
  repeat' split
  all_goals omega
theorem clkLess' (t n t' n' : Int) (w : World) : Calls Try.prog 79 #[.agg #[.int .i64 t, .int .i64 n], .agg #[.int .i64 t', .int .i64 n']] w fun e w' => e = .returned (.bool (idLt t n t' n')) ∧ Below w.heap.size w w' := by
  rw [← cmpID_lt]; exact clkLess t n t' n' w
theorem refLess' (t n t' n' : Int) (w : World) : Calls Try.prog 30 #[.agg #[.int .i64 t, .int .i64 n], .agg #[.int .i64 t', .int .i64 n']] w fun e w' => e = .returned (.bool (idLt t n t' n')) ∧ Below w.heap.size w w' := refLess t n t' n' w
end Go.Proofs.Ythbalmoafpggdaa

/- ClockOrder and its walk. -/
import Derived.Test.YtgpfkdlnmifiiaaChecked
import Derived.WalkKit
import Derived.Outline
import Derived.WalkSpells
import Derived.WalkLawsBesides
import Derived.Deep.QuietTactic
import Derived.Deep.RegionWith
import Derived.Deep.DeepMust
import Derived.BigQuiet
import Derived.Test.YtgpfkdlnmifiiaaMem
import Derived.RegionTactic
import Derived.ChangeAlike
import Derived.StillTailTactics
import Derived.Test.YtgpfkdlnmifiiaaClk
import Derived.Deep.RegionHeld3
namespace Go.Proofs.Ytgpfkdlnmifiiaa
open Go.RowKit
set_option linter.unusedVariables false
set_option linter.unusedSimpArgs false
theorem cmpID_neg {t n t' n' : Int} (h : t < t' ∨ t = t' ∧ n < n') : cmpID t n t' n' = -1 := by
  unfold cmpID cmpZ
  repeat' split
  all_goals omega
theorem cmpID_zero (t n : Int) : cmpID t n t n = 0 := by
  unfold cmpID cmpZ
  repeat' split
  all_goals omega
theorem cmpID_pos {t n t' n' : Int} (h : t' < t ∨ t' = t ∧ n' < n) : cmpID t n t' n' = 1 := by
  unfold cmpID cmpZ
  repeat' split
  all_goals omega
/-- The two boxes of a law's stamps. -/
def TwoBox (h : Nat) (t n t' n' : Int) (w0 w' : World) : Prop := Blk w' h #[.int .i64 t, .int .i64 n] 27 ∧ Blk w' (h + 1) #[.int .i64 t', .int .i64 n'] 27 ∧ Below h w0 w'
theorem two_below {h : Nat} {t n t' n' : Int} {w0 W w' : World} (hb : Below W.heap.size W w') (g : TwoBox h t n t' n' w0 W) : TwoBox h t n t' n' w0 w' :=
  ⟨blkBelow hb g.1 g.1.lt, blkBelow hb g.2.1 g.2.1.lt, g.2.2.trans (hb.mono (Nat.le_of_lt g.1.lt))⟩
theorem two_drew {h : Nat} {t n t' n' : Int} {w0 W : World} (g : TwoBox h t n t' n' w0 W) : TwoBox h t n t' n' w0 W.drew := ⟨g.1, g.2.1, g.2.2.drew⟩
theorem two_S {h : Nat} {t n t' n' : Int} {w0 w' : World} (g : TwoBox h t n t' n' w0 w') : w'.cell? ⟨h, 0, none⟩ = some (.int .i64 t) ∧ w'.cell? ⟨h, 1, none⟩ = some (.int .i64 n) ∧ w'.cell? ⟨h + 1, 0, none⟩ = some (.int .i64 t') ∧ w'.cell? ⟨h + 1, 1, none⟩ = some (.int .i64 n') ∧ TwoBox h t n t' n' w0 w' :=
  ⟨g.1.cell rfl, g.1.cell rfl, g.2.1.cell rfl, g.2.1.cell rfl, g⟩
theorem two_of {h : Nat} {t n t' n' : Int} {w0 w' : World} (g : w'.cell? ⟨h, 0, none⟩ = some (.int .i64 t) ∧ w'.cell? ⟨h, 1, none⟩ = some (.int .i64 n) ∧ w'.cell? ⟨h + 1, 0, none⟩ = some (.int .i64 t') ∧ w'.cell? ⟨h + 1, 1, none⟩ = some (.int .i64 n') ∧ TwoBox h t n t' n' w0 w') : TwoBox h t n t' n' w0 w' := g.2.2.2.2
theorem two_start (w : World) (t n t' n' : Int) : TwoBox w.heap.size t n t' n' w ((w.alloc (.cells #[.int .i64 t, .int .i64 n] 27)).alloc (.cells #[.int .i64 t', .int .i64 n'] 27)) :=
  ⟨(Blk.new w _ _).alloc _, by have := Blk.new (w.alloc (.cells #[.int .i64 t, .int .i64 n] 27)) #[.int .i64 t', .int .i64 n'] 27; simpa using this, by (repeat (first | exact Below.refl _ _ | (with_reducible assumption) | apply Below.drew | (refine Below.alloc ?_ (by first | exact Nat.le_refl _ | omega | (simp; done) | (simp; omega)) _) | (refine Below.setCell ?_ (by first | exact Nat.le_refl _ | omega | (simp; done) | (simp; omega)) _) | (refine Below.trans ?_ (Below.mono (by with_reducible assumption) (by first | omega | (simp; done) | (simp; omega))))))⟩
set_option maxHeartbeats 1000000 in
theorem clockOrder_neg (t n t' n' : Int) (w : World) (H1 : Hid ((decide (t < t') || decide (t = t') && decide (n < n')) = true)) (H3 : Hid ((decide (t' < t) || decide (t' = t) && decide (n' < n)) = false)) (H2 : Hid (cmpID t n t' n' = -1)) : Calls Try.prog 4 #[.agg #[.int .i64 t, .int .i64 n], .agg #[.int .i64 t', .int .i64 n']] w (ClkBegun w) := by
  have g0 := two_start w t n t' n'
  go_enter Try.func4, Try.ntmps4
  go_wp2_with (first | (go_at_call 16; (with_reducible refine (clkBegun _).mono ?_); rintro e w1 ⟨rfl, hb⟩; skip; have g1 := two_below hb (by first | assumption | exact two_of (by assumption)); clear hb; obtain ⟨p1, q1, r1, s1, _⟩ := two_S g1) | (go_at_call 17; (with_reducible refine (refLess t n t' n' _).mono ?_); rintro e w2 ⟨rfl, hb⟩; rw [H1.out]; have g2 := two_below hb (by first | assumption | exact two_of (by assumption)); clear hb; obtain ⟨p2, q2, r2, s2, _⟩ := two_S g2))
  go_region_held3 (fun w' => w'.cell? ⟨w.heap.size, 0, none⟩ = some (.int .i64 t) ∧ w'.cell? ⟨w.heap.size, 1, none⟩ = some (.int .i64 n) ∧ w'.cell? ⟨w.heap.size + 1, 0, none⟩ = some (.int .i64 t') ∧ w'.cell? ⟨w.heap.size + 1, 1, none⟩ = some (.int .i64 n') ∧ TwoBox w.heap.size t n t' n' w w') ((refine two_S ?_; first | (with_reducible assumption) | exact two_drew (by assumption))) (first | (go_at_call 18; (with_reducible refine (clkCmp _ _ _ _ _).mono ?_); rintro e w3 ⟨rfl, hb⟩; rw [H2.out]; have g3 := two_below hb (by first | assumption | exact two_of (by assumption)); clear hb; obtain ⟨p3, q3, r3, s3, _⟩ := two_S g3) | (go_at_call 19; (with_reducible refine (clkLess _ _ _ _ _).mono ?_); rintro e w4 ⟨rfl, hb⟩; rw [H2.out]; have g4 := two_below hb (by first | assumption | exact two_of (by assumption)); clear hb; obtain ⟨p4, q4, r4, s4, _⟩ := two_S g4) | (go_at_call 20; (with_reducible refine (clkValid _ _ _).mono ?_); rintro e w5 ⟨rfl, hb⟩; skip; have g5 := two_below hb (by first | assumption | exact two_of (by assumption)); clear hb; obtain ⟨p5, q5, r5, s5, _⟩ := two_S g5) | (go_at_call 21; (with_reducible refine (refValid _ _ _).mono ?_); rintro e w6 ⟨rfl, hb⟩; skip; have g6 := two_below hb (by first | assumption | exact two_of (by assumption)); clear hb; obtain ⟨p6, q6, r6, s6, _⟩ := two_S g6))
  go_wp2
  go_ret
  exact ⟨rfl, (two_of (by assumption)).2.2⟩
set_option maxHeartbeats 1000000 in
theorem clockOrder_mid (t n t' n' : Int) (w : World) (H1 : Hid ((decide (t < t') || decide (t = t') && decide (n < n')) = false)) (H3 : Hid ((decide (t' < t) || decide (t' = t) && decide (n' < n)) = false)) (H2 : Hid (cmpID t n t' n' = 0)) : Calls Try.prog 4 #[.agg #[.int .i64 t, .int .i64 n], .agg #[.int .i64 t', .int .i64 n']] w (ClkBegun w) := by
  have g0 := two_start w t n t' n'
  go_enter Try.func4, Try.ntmps4
  go_wp2_with (first | (go_at_call 16; (with_reducible refine (clkBegun _).mono ?_); rintro e w1 ⟨rfl, hb⟩; skip; have g1 := two_below hb (by first | assumption | exact two_of (by assumption)); clear hb; obtain ⟨p1, q1, r1, s1, _⟩ := two_S g1) | (go_at_call 17; (with_reducible refine (refLess t n t' n' _).mono ?_); rintro e w2 ⟨rfl, hb⟩; rw [H1.out]; have g2 := two_below hb (by first | assumption | exact two_of (by assumption)); clear hb; obtain ⟨p2, q2, r2, s2, _⟩ := two_S g2) | (go_at_call 17; (with_reducible refine (refLess t' n' t n _).mono ?_); rintro e w7 ⟨rfl, hb⟩; rw [H3.out]; have g7 := two_below hb (by first | assumption | exact two_of (by assumption)); clear hb; obtain ⟨p7, q7, r7, s7, _⟩ := two_S g7))
  go_region_held3 (fun w' => w'.cell? ⟨w.heap.size, 0, none⟩ = some (.int .i64 t) ∧ w'.cell? ⟨w.heap.size, 1, none⟩ = some (.int .i64 n) ∧ w'.cell? ⟨w.heap.size + 1, 0, none⟩ = some (.int .i64 t') ∧ w'.cell? ⟨w.heap.size + 1, 1, none⟩ = some (.int .i64 n') ∧ TwoBox w.heap.size t n t' n' w w') ((refine two_S ?_; first | (with_reducible assumption) | exact two_drew (by assumption))) (first | (go_at_call 18; (with_reducible refine (clkCmp _ _ _ _ _).mono ?_); rintro e w3 ⟨rfl, hb⟩; rw [H2.out]; have g3 := two_below hb (by first | assumption | exact two_of (by assumption)); clear hb; obtain ⟨p3, q3, r3, s3, _⟩ := two_S g3) | (go_at_call 19; (with_reducible refine (clkLess _ _ _ _ _).mono ?_); rintro e w4 ⟨rfl, hb⟩; rw [H2.out]; have g4 := two_below hb (by first | assumption | exact two_of (by assumption)); clear hb; obtain ⟨p4, q4, r4, s4, _⟩ := two_S g4) | (go_at_call 20; (with_reducible refine (clkValid _ _ _).mono ?_); rintro e w5 ⟨rfl, hb⟩; skip; have g5 := two_below hb (by first | assumption | exact two_of (by assumption)); clear hb; obtain ⟨p5, q5, r5, s5, _⟩ := two_S g5) | (go_at_call 21; (with_reducible refine (refValid _ _ _).mono ?_); rintro e w6 ⟨rfl, hb⟩; skip; have g6 := two_below hb (by first | assumption | exact two_of (by assumption)); clear hb; obtain ⟨p6, q6, r6, s6, _⟩ := two_S g6))
  go_wp2
  go_ret
  exact ⟨rfl, (two_of (by assumption)).2.2⟩
set_option maxHeartbeats 1000000 in
theorem clockOrder_pos (t n t' n' : Int) (w : World) (H1 : Hid ((decide (t < t') || decide (t = t') && decide (n < n')) = false)) (H3 : Hid ((decide (t' < t) || decide (t' = t) && decide (n' < n)) = true)) (H2 : Hid (cmpID t n t' n' = 1)) : Calls Try.prog 4 #[.agg #[.int .i64 t, .int .i64 n], .agg #[.int .i64 t', .int .i64 n']] w (ClkBegun w) := by
  have g0 := two_start w t n t' n'
  go_enter Try.func4, Try.ntmps4
  go_wp2_with (first | (go_at_call 16; (with_reducible refine (clkBegun _).mono ?_); rintro e w1 ⟨rfl, hb⟩; skip; have g1 := two_below hb (by first | assumption | exact two_of (by assumption)); clear hb; obtain ⟨p1, q1, r1, s1, _⟩ := two_S g1) | (go_at_call 17; (with_reducible refine (refLess t n t' n' _).mono ?_); rintro e w2 ⟨rfl, hb⟩; rw [H1.out]; have g2 := two_below hb (by first | assumption | exact two_of (by assumption)); clear hb; obtain ⟨p2, q2, r2, s2, _⟩ := two_S g2) | (go_at_call 17; (with_reducible refine (refLess t' n' t n _).mono ?_); rintro e w7 ⟨rfl, hb⟩; rw [H3.out]; have g7 := two_below hb (by first | assumption | exact two_of (by assumption)); clear hb; obtain ⟨p7, q7, r7, s7, _⟩ := two_S g7))
  go_region_held3 (fun w' => w'.cell? ⟨w.heap.size, 0, none⟩ = some (.int .i64 t) ∧ w'.cell? ⟨w.heap.size, 1, none⟩ = some (.int .i64 n) ∧ w'.cell? ⟨w.heap.size + 1, 0, none⟩ = some (.int .i64 t') ∧ w'.cell? ⟨w.heap.size + 1, 1, none⟩ = some (.int .i64 n') ∧ TwoBox w.heap.size t n t' n' w w') ((refine two_S ?_; first | (with_reducible assumption) | exact two_drew (by assumption))) (first | (go_at_call 18; (with_reducible refine (clkCmp _ _ _ _ _).mono ?_); rintro e w3 ⟨rfl, hb⟩; rw [H2.out]; have g3 := two_below hb (by first | assumption | exact two_of (by assumption)); clear hb; obtain ⟨p3, q3, r3, s3, _⟩ := two_S g3) | (go_at_call 19; (with_reducible refine (clkLess _ _ _ _ _).mono ?_); rintro e w4 ⟨rfl, hb⟩; rw [H2.out]; have g4 := two_below hb (by first | assumption | exact two_of (by assumption)); clear hb; obtain ⟨p4, q4, r4, s4, _⟩ := two_S g4) | (go_at_call 20; (with_reducible refine (clkValid _ _ _).mono ?_); rintro e w5 ⟨rfl, hb⟩; skip; have g5 := two_below hb (by first | assumption | exact two_of (by assumption)); clear hb; obtain ⟨p5, q5, r5, s5, _⟩ := two_S g5) | (go_at_call 21; (with_reducible refine (refValid _ _ _).mono ?_); rintro e w6 ⟨rfl, hb⟩; skip; have g6 := two_below hb (by first | assumption | exact two_of (by assumption)); clear hb; obtain ⟨p6, q6, r6, s6, _⟩ := two_S g6))
  go_wp2
  go_ret
  exact ⟨rfl, (two_of (by assumption)).2.2⟩
theorem clockOrder_walk (t n t' n' : Int) (w : World) : Calls Try.prog 4 #[.agg #[.int .i64 t, .int .i64 n], .agg #[.int .i64 t', .int .i64 n']] w (ClkBegun w) := by
  by_cases h1 : t < t' ∨ t = t' ∧ n < n'
  · exact clockOrder_neg t n t' n' w (Lib.hid (by simpa using h1)) (Lib.hid (by simp; omega)) (Lib.hid (cmpID_neg h1))
  · by_cases h2 : t' < t ∨ t' = t ∧ n' < n
    · exact clockOrder_pos t n t' n' w (Lib.hid (by simp; omega)) (Lib.hid (by simpa using h2)) (Lib.hid (cmpID_pos h2))
    · obtain rfl : t = t' := by omega
      obtain rfl : n = n' := by omega
      exact clockOrder_mid t n t n w (Lib.hid (by simp)) (Lib.hid (by simp)) (Lib.hid (cmpID_zero t n))
end Go.Proofs.Ytgpfkdlnmifiiaa

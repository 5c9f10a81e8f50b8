/- Contracts of package clock. -/
import Derived.Test.YtgpfkdlnmifiiaaChecked
import Derived.WalkKit
import Derived.Outline
import Derived.WalkSpells
import Derived.WalkLawsBesides
import Derived.Deep.QuietTactic
import Derived.Deep.RegionWith
import Derived.Deep.DeepMust
import Derived.BigQuiet
import Derived.Test.YtgpfkdlnmifiiaaMem
import Derived.RegionTactic
import Derived.ChangeAlike
import Derived.StillTailTactics
namespace Go.Proofs.Ytgpfkdlnmifiiaa
open Go.RowKit
set_option linter.unusedVariables false
set_option linter.unusedSimpArgs false
def Clk (w : World) (b : Nat) (node time lease : Int) : Prop := Blk w b #[.int .i64 node, .int .i64 time, .int .i64 lease] 101

def ClkNewPost (n time lease : Int) (w : World) (e : Ending) (w' : World) : Prop :=
  ∃ b : Nat, e = .returned (.pointer (some ⟨b, 0, none⟩)) ∧ w.heap.size ≤ b ∧ Clk w' b n time lease ∧ Chg (fun _ => False) w w'
theorem clkNew_ok (n time lease : Int) (w : World) (hn0 : 0 ≤ n) (hn : n < 64) (ht : 0 ≤ time) (hl : time ≤ lease) (hm : lease ≤ 1152921504606846976) :
    Calls Try.prog 79 #[.int .i64 n, .int .i64 time, .int .i64 lease] w (ClkNewPost n time lease w) := by
  go_enter Try.func79, Try.ntmps79
  go_wp2
  go_ret
  exact ⟨_, rfl, Nat.le_refl _, Blk.new _ _ _, (Chg.refl _ _).alloc _⟩

def ClkToPost (b : Nat) (node lease t : Int) (up : Bool) (w : World) (e : Ending) (w' : World) : Prop :=
  e = .returned (.bool up) ∧ Clk w' b node t (if up = true then min (t + 4096) 1152921504606846976 else lease) ∧ Chg (· = b) w w'
theorem clkTo_no (b : Nat) (node time lease t : Int) (w : World) (h : Clk w b node time lease) (hl : t ≤ lease) :
    Calls Try.prog 96 #[.pointer (some ⟨b, 0, none⟩), .int .i64 t] w (ClkToPost b node lease t false w) := by
  have hb := h.lt
  have h2 := h.cell (o := 2) rfl
  have h1 := h.cell (o := 1) rfl
  have f1 := h.free 1
  have HC := Lib.hid h; clear h
  go_enter Try.func96, Try.ntmps96
  go_wp2
  go_ret
  exact ⟨rfl, HC.out.set 1 _, by (repeat (first | exact Chg.refl _ _ | apply Chg.drew | apply Chg.drewN | apply Chg.alloc | (refine Chg.set ?_ (fun hh_ => by first | rfl | (simp at hh_; omega) | (simp at hh_) | simp_all) _) | assumption))⟩
theorem clkTo_up (b : Nat) (node time lease t : Int) (w : World) (h : Clk w b node time lease) (hl : lease < t) (ht : t ≤ 1152921504606846976) (h0 : 0 ≤ t) :
    Calls Try.prog 96 #[.pointer (some ⟨b, 0, none⟩), .int .i64 t] w (ClkToPost b node lease t true w) := by
  have hb := h.lt
  have h2 := h.cell (o := 2) rfl
  have h1 := h.cell (o := 1) rfl
  have f1 := h.free 1
  have f2 := h.free 2
  have HC := Lib.hid h; clear h
  go_enter Try.func96, Try.ntmps96
  go_wp2
  all_goals
    go_ret
    refine ⟨rfl, ?_, by (repeat (first | exact Chg.refl _ _ | apply Chg.drew | apply Chg.drewN | apply Chg.alloc | (refine Chg.set ?_ (fun hh_ => by first | rfl | (simp at hh_; omega) | (simp at hh_) | simp_all) _) | assumption))⟩
  · rw [if_pos rfl, show min (t + 4096) 1152921504606846976 = 1152921504606846976 from by omega]
    exact (HC.out.set 1 _).set 2 _
  · rw [if_pos rfl, show min (t + 4096) 1152921504606846976 = t + 4096 from by omega]
    exact (HC.out.set 1 _).set 2 _

def ClkNextPost (b : Nat) (node time lease : Int) (up : Bool) (w : World) (e : Ending) (w' : World) : Prop :=
  e = .returned (.tuple #[.agg #[.int .i64 (time + 1), .int .i64 node], .bool up, .int .i64 0]) ∧ Clk w' b node (time + 1) (if up = true then min (time + 1 + 4096) 1152921504606846976 else lease) ∧ Chg (· = b) w w'
theorem clkNext_nil (w : World) : Calls Try.prog 53 #[.pointer none] w fun e w' => e = .returned (.tuple #[.agg #[.int .i64 0, .int .i64 0], .bool false, .int .i64 75]) ∧ Below w.heap.size w w' := by
  go_enter Try.func53, Try.ntmps53
  go_wp2
  exact bodyPost_ret (v := .tuple #[.agg #[.int .i64 0, .int .i64 0], .bool false, .int .i64 75]) (by simp [results, Try.results53, go_sem]) rfl ⟨rfl, (Below.refl _ _).alloc (Nat.le_refl _) _⟩
theorem clkNext_ok (b : Nat) (node time lease : Int) (up : Bool) (w : World) (h : Clk w b node time lease) (h0 : 0 ≤ time) (ht : time < 1152921504606846976) (hu : up = decide (lease < time + 1)) :
    Calls Try.prog 53 #[.pointer (some ⟨b, 0, none⟩)] w (ClkNextPost b node time lease up w) := by
  have hto : ∀ w2 : World, Clk w2 b node time lease → Calls Try.prog 96 #[.pointer (some ⟨b, 0, none⟩), .int .i64 (time + 1)] w2 (ClkToPost b node lease (time + 1) up w2) := by
    intro w2 h2
    by_cases hl : lease < time + 1
    · obtain rfl : up = true := by simp [hu, hl]
      exact clkTo_up b node time lease _ w2 h2 hl (by omega) (by omega)
    · obtain rfl : up = false := by simp [hu, hl]
      exact clkTo_no b node time lease _ w2 h2 (by omega)
  clear hu
  have HT := Lib.hid hto; clear hto
  have hb := h.lt
  have h1 := h.cell (o := 1) rfl
  have HC := Lib.hid h; clear h
  go_enter Try.func53, Try.ntmps53
  go_wp2_with fail
  refine (HT.out _ (HC.out.alloc _)).mono ?_
  rintro e w1 ⟨rfl, c1, g1⟩
  have hb1 := c1.lt
  have k0 := c1.cell (o := 0) rfl
  have k1 := c1.cell (o := 1) rfl
  have hz := g1.size
  simp at hz
  have hr := g1.blk (Blk.new w #[.int .i64 0, .int .i64 0] 27) (by have := HC.out.lt; omega)
  have r0 := hr.cell (o := 0) rfl
  have r1 := hr.cell (o := 1) rfl
  have q0 := hr.free 0
  have q1 := hr.free 1
  have HR := Lib.hid hr; clear hr
  have HC1 := Lib.hid c1; clear c1
  have HG1 := Lib.hid g1; clear g1
  go_wp2
  go_region
  go_wp2
  have hx := ((Chg.refl (· = b) w).alloc (.cells #[.int .i64 0, .int .i64 0] 27)).trans HG1.out
  refine bodyPost_ret (v := .tuple #[.agg #[.int .i64 (time + 1), .int .i64 node], .bool up, .int .i64 0]) (by simp [results, Try.results53, go_sem, r0, r1]) rfl ⟨rfl, ?_, ?_⟩
  · have hne : b ≠ w.heap.size := by omega
    exact ((HC1.out.set_ne (a := ⟨w.heap.size, 0, none⟩) hne _).set_ne (a := ⟨w.heap.size, 1, none⟩) hne _).drew
  · exact ((hx.set (fun hh => absurd hh (by simp)) _).set (fun hh => absurd hh (by simp)) _).drew

theorem clkLease (b : Nat) (node time lease : Int) (w : World) (h : Clk w b node time lease) :
    Calls Try.prog 56 #[.pointer (some ⟨b, 0, none⟩)] w fun e w' => e = .returned (.int .i64 lease) ∧ w = w' := by
  have hb := h.lt
  have h2 := h.cell (o := 2) rfl
  clear h
  go_enter Try.func56, Try.ntmps56
  go_wp2
  go_ret
  exact ⟨rfl, rfl⟩

def cmpZ (x y : Int) : Int := if x < y then -1 else if y < x then 1 else 0
theorem cmp64 (x y : Int) (w : World) : Calls Try.prog 80 #[.int .i64 x, .int .i64 y] w fun e w' => e = .returned (.int .i64 (cmpZ x y)) ∧ w = w' := by
  by_cases h1 : x < y
  · go_enter Try.func80, Try.ntmps80
    go_wp2
    go_ret
    exact ⟨by simp [cmpZ, h1], rfl⟩
  · by_cases h2 : y < x
    · go_enter Try.func80, Try.ntmps80
      go_wp2
      go_ret
      exact ⟨by simp [cmpZ, h1, h2], rfl⟩
    · go_enter Try.func80, Try.ntmps80
      go_wp2
      go_ret
      exact ⟨congrArg (fun z => Ending.returned (.int .i64 z)) (show 0 = cmpZ x y from by unfold cmpZ; rw [if_neg (by omega), if_neg (by omega)]), rfl⟩
theorem cmpInt (x y : Int) (w : World) : Calls Try.prog 81 #[.int .i64 x, .int .i64 y] w fun e w' => e = .returned (.int .i64 (cmpZ x y)) ∧ w = w' := by
  by_cases h1 : x < y
  · go_enter Try.func81, Try.ntmps81
    go_wp2
    go_ret
    exact ⟨by simp [cmpZ, h1], rfl⟩
  · by_cases h2 : y < x
    · go_enter Try.func81, Try.ntmps81
      go_wp2
      go_ret
      exact ⟨by simp [cmpZ, h1, h2], rfl⟩
    · go_enter Try.func81, Try.ntmps81
      go_wp2
      go_ret
      exact ⟨congrArg (fun z => Ending.returned (.int .i64 z)) (show 0 = cmpZ x y from by unfold cmpZ; rw [if_neg (by omega), if_neg (by omega)]), rfl⟩

def idV (t n : Int) : Value := .agg #[.int .i64 t, .int .i64 n]
def cmpID (t n t' n' : Int) : Int := if cmpZ t t' = 0 then cmpZ n n' else cmpZ t t'
theorem clkCmp (t n t' n' : Int) (w : World) : Calls Try.prog 18 #[.agg #[.int .i64 t, .int .i64 n], .agg #[.int .i64 t', .int .i64 n']] w fun e w' => e = .returned (.int .i64 (cmpID t n t' n')) ∧ Below w.heap.size w w' := by
  by_cases h : cmpZ t t' = 0
  · have hb : (cmpZ t t' == 0) = true := beq_iff_eq.2 h
    have hb' : (cmpZ t t' != 0) = false := by simp [h]
    have H := Lib.hid h; clear h
    go_enter Try.func18, Try.ntmps18
    go_wp2_with (first | (go_at_call 80; refine (cmp64 _ _ _).mono ?_; rintro e w' ⟨rfl, rfl⟩) | (go_at_call 81; refine (cmpInt _ _ _).mono ?_; rintro e w' ⟨rfl, rfl⟩))
    go_ret
    exact ⟨by simp [cmpID, H.out], by (repeat (first | exact Below.refl _ _ | (with_reducible assumption) | apply Below.drew | (refine Below.alloc ?_ (by first | exact Nat.le_refl _ | omega | (simp; done) | (simp; omega)) _) | (refine Below.setCell ?_ (by first | exact Nat.le_refl _ | omega | (simp; done) | (simp; omega)) _) | (refine Below.trans ?_ (Below.mono (by with_reducible assumption) (by first | omega | (simp; done) | (simp; omega))))))⟩
  · have hb : (cmpZ t t' == 0) = false := by simpa using h
    have hb' : (cmpZ t t' != 0) = true := by simpa using h
    go_enter Try.func18, Try.ntmps18
    go_wp2_with (first | (go_at_call 80; refine (cmp64 _ _ _).mono ?_; rintro e w' ⟨rfl, rfl⟩) | (go_at_call 81; refine (cmpInt _ _ _).mono ?_; rintro e w' ⟨rfl, rfl⟩))
    go_ret
    exact ⟨by simp [cmpID, h], by (repeat (first | exact Below.refl _ _ | (with_reducible assumption) | apply Below.drew | (refine Below.alloc ?_ (by first | exact Nat.le_refl _ | omega | (simp; done) | (simp; omega)) _) | (refine Below.setCell ?_ (by first | exact Nat.le_refl _ | omega | (simp; done) | (simp; omega)) _) | (refine Below.trans ?_ (Below.mono (by with_reducible assumption) (by first | omega | (simp; done) | (simp; omega))))))⟩
theorem clkLess (t n t' n' : Int) (w : World) : Calls Try.prog 19 #[.agg #[.int .i64 t, .int .i64 n], .agg #[.int .i64 t', .int .i64 n']] w fun e w' => e = .returned (.bool (decide (cmpID t n t' n' < 0))) ∧ Below w.heap.size w w' := by
  go_enter Try.func19, Try.ntmps19
  go_wp2_with (go_at_call 18; refine (clkCmp _ _ _ _ _).mono ?_; rintro e w1 ⟨rfl, hb⟩)
  go_ret
  exact ⟨rfl, by (repeat (first | exact Below.refl _ _ | (with_reducible assumption) | apply Below.drew | (refine Below.alloc ?_ (by first | exact Nat.le_refl _ | omega | (simp; done) | (simp; omega)) _) | (refine Below.setCell ?_ (by first | exact Nat.le_refl _ | omega | (simp; done) | (simp; omega)) _) | (refine Below.trans ?_ (Below.mono (by with_reducible assumption) (by first | omega | (simp; done) | (simp; omega))))))⟩
def validID (t n : Int) : Bool := decide (1 ≤ t) && decide (t ≤ 1152921504606846976) && (decide (0 ≤ n) && decide (n < 64))
theorem clkValid (t n : Int) (w : World) : Calls Try.prog 20 #[.agg #[.int .i64 t, .int .i64 n]] w fun e w' => e = .returned (.bool (validID t n)) ∧ Below w.heap.size w w' := by
  go_enter Try.func20, Try.ntmps20
  go_wp2
  all_goals
    go_ret
    refine ⟨congrArg (fun x => Ending.returned (.bool x)) ?_, by (repeat (first | exact Below.refl _ _ | (with_reducible assumption) | apply Below.drew | (refine Below.alloc ?_ (by first | exact Nat.le_refl _ | omega | (simp; done) | (simp; omega)) _) | (refine Below.setCell ?_ (by first | exact Nat.le_refl _ | omega | (simp; done) | (simp; omega)) _) | (refine Below.trans ?_ (Below.mono (by with_reducible assumption) (by first | omega | (simp; done) | (simp; omega))))))⟩
    unfold validID
    simp [*]
    try omega
/-- The stamps told at the law's begin. -/
def ClkBegun (w : World) (e : Ending) (w' : World) : Prop := e = .returned (.bool true) ∧ Below w.heap.size w w'
set_option maxHeartbeats 1000000 in
theorem clkBegun (w : World) : Calls Try.prog 16 #[] w (ClkBegun w) := by
  go_enter Try.func16, Try.ntmps16
  go_wp2_with fail
  refine (clkNew_ok _ _ _ _ (by omega) (by omega) (by omega) (by omega) (by omega)).mono ?_
  rintro e w1 ⟨b, rfl, hb, hc, hg⟩
  have HC := Lib.hid hc; clear hc
  have HG := Lib.hid hg; clear hg
  go_wp2_with fail
  refine (clkNext_ok b 3 5 6 false _ HC.out (by omega) (by omega) (by decide)).mono ?_
  rintro e w2 ⟨rfl, hc2, hg2⟩
  have HC2 : Hid (Clk w2 b 3 6 6) := Lib.hid hc2
  have HG2 := Lib.hid hg2; clear hc2 hg2
  go_wp2_with fail
  refine (clkNext_ok b 3 6 6 true _ (HC2.out.alloc _) (by omega) (by omega) (by decide)).mono ?_
  rintro e w3 ⟨rfl, hc3, hg3⟩
  have HC3 : Hid (Clk w3 b 3 7 4103) := Lib.hid hc3
  have hz := hg3.size
  simp at hz
  have hz' : w2.heap.size < w3.heap.size := by omega
  have ha := hg3.blk (Blk.new w2 #[.int .i64 6, .int .i64 3] 27) (by have := HC2.out.lt; omega)
  have r0 := ha.cell (o := 0) rfl
  have r1 := ha.cell (o := 1) rfl
  have HA := Lib.hid ha; clear ha
  have HG3 := Lib.hid hg3; clear hc3 hg3
  go_wp2_with (go_at_call 56; go_must (refine (clkLease b 3 7 4103 _ (HC3.out.alloc _)).mono ?_; rintro e w4 ⟨rfl, rfl⟩))
  refine (clkLess _ _ _ _ _).mono ?_
  rintro e w5 ⟨rfl, hb5⟩
  have ha5 := blkBelow hb5 (HA.out.alloc _) (by simp; omega)
  have s0 := ha5.cell (o := 0) rfl
  have s1 := ha5.cell (o := 1) rfl
  clear ha5
  have HB5 := Lib.hid hb5; clear hb5
  go_wp2_with (go_at_call 20; go_must (refine (clkValid _ _ _).mono ?_; rintro e w6 ⟨rfl, hb6⟩))
  go_ret
  have z1 := HG.out.size
  have z2 := HG2.out.size
  have z3 := HG3.out.size
  have b1 : Below w.heap.size w w1 := HG.out.below (Nat.le_refl _) (fun _ _ h => h)
  have b2 := Chg.below_trans b1 HG2.out z1 (fun i hi h => by omega)
  have b3 := Chg.below_trans (b2.alloc (by omega) (.cells #[.int .i64 6, .int .i64 3] 27)) HG3.out (by simp; omega) (fun i hi h => by omega)
  simp at z3
  have b5 := (b3.alloc (by omega) (.cells #[.int .i64 7, .int .i64 3] 27)).trans (HB5.out.mono (by simp; omega))
  have z5 := HB5.out.size
  simp at z5
  exact ⟨rfl, b5.trans (hb6.mono (by omega))⟩

theorem clkSee_nil (t n : Int) (w : World) : Calls Try.prog 54 #[.pointer none, .agg #[.int .i64 t, .int .i64 n]] w fun e w' => e = .returned (.tuple #[.bool false, .int .i64 22]) ∧ Below w.heap.size w w' := by
  go_enter Try.func54, Try.ntmps54
  go_wp2
  go_ret2
  exact ⟨rfl, by (repeat (first | exact Below.refl _ _ | (with_reducible assumption) | apply Below.drew | (refine Below.alloc ?_ (by first | exact Nat.le_refl _ | omega | (simp; done) | (simp; omega)) _) | (refine Below.setCell ?_ (by first | exact Nat.le_refl _ | omega | (simp; done) | (simp; omega)) _) | (refine Below.trans ?_ (Below.mono (by with_reducible assumption) (by first | omega | (simp; done) | (simp; omega))))))⟩
theorem clockNone_walk (w : World) : Calls Try.prog 10 #[] w (ClkBegun w) := by
  go_enter Try.func10, Try.ntmps10
  go_wp2_with fail
  refine (clkNext_nil _).mono ?_
  rintro e w1 ⟨rfl, hb1⟩
  have z1 := hb1.size
  go_wp2_with fail
  refine (clkSee_nil _ _ _).mono ?_
  rintro e w2 ⟨rfl, hb2⟩
  have z2 := hb2.size
  simp at z2
  go_wp2_with fail
  refine (clkBegun _).mono ?_
  rintro e w3 ⟨rfl, hb3⟩
  go_wp2
  go_ret
  exact ⟨rfl, by (repeat (first | exact Below.refl _ _ | (with_reducible assumption) | apply Below.drew | (refine Below.alloc ?_ (by first | exact Nat.le_refl _ | omega | (simp; done) | (simp; omega)) _) | (refine Below.setCell ?_ (by first | exact Nat.le_refl _ | omega | (simp; done) | (simp; omega)) _) | (refine Below.trans ?_ (Below.mono (by with_reducible assumption) (by first | omega | (simp; done) | (simp; omega))))))⟩
theorem refLess (t n t' n' : Int) (w : World) : Calls Try.prog 17 #[.agg #[.int .i64 t, .int .i64 n], .agg #[.int .i64 t', .int .i64 n']] w fun e w' => e = .returned (.bool (decide (t < t') || decide (t = t') && decide (n < n'))) ∧ Below w.heap.size w w' := by
  go_enter Try.func17, Try.ntmps17
  go_wp2
  all_goals
    go_ret
    refine ⟨congrArg (fun x => Ending.returned (.bool x)) ?_, by (repeat (first | exact Below.refl _ _ | (with_reducible assumption) | apply Below.drew | (refine Below.alloc ?_ (by first | exact Nat.le_refl _ | omega | (simp; done) | (simp; omega)) _) | (refine Below.setCell ?_ (by first | exact Nat.le_refl _ | omega | (simp; done) | (simp; omega)) _) | (refine Below.trans ?_ (Below.mono (by with_reducible assumption) (by first | omega | (simp; done) | (simp; omega))))))⟩
    simp [*]
    try omega
theorem refValid (t n : Int) (w : World) : Calls Try.prog 21 #[.agg #[.int .i64 t, .int .i64 n]] w fun e w' => e = .returned (.bool (validID t n)) ∧ Below w.heap.size w w' := by
  go_enter Try.func21, Try.ntmps21
  go_wp2
  all_goals
    go_ret
    refine ⟨congrArg (fun x => Ending.returned (.bool x)) ?_, by (repeat (first | exact Below.refl _ _ | (with_reducible assumption) | apply Below.drew | (refine Below.alloc ?_ (by first | exact Nat.le_refl _ | omega | (simp; done) | (simp; omega)) _) | (refine Below.setCell ?_ (by first | exact Nat.le_refl _ | omega | (simp; done) | (simp; omega)) _) | (refine Below.trans ?_ (Below.mono (by with_reducible assumption) (by first | omega | (simp; done) | (simp; omega))))))⟩
    unfold validID
    simp [*]
    try omega
end Go.Proofs.Ytgpfkdlnmifiiaa

/- Stamps compared: clock's and the reference's. Operations: ops.seen, earlier, May; the reference's May. Operations: ops.May. -/
import Derived.Test.YthbalmoafpggdaaGreatChecked
import Derived.WalkKit
import Derived.Outline
import Derived.WalkSpells
import Derived.WalkLawsBesides
import Derived.Deep.QuietTactic
import Derived.Deep.RegionWith
import Derived.Deep.DeepMust
import Derived.BigQuiet
import Derived.RegionTactic
import Derived.ChangeAlike
import Derived.StillTailTactics
import Derived.Deep.LoopGhost
import Derived.BigRegion
import Derived.Deep.RegionHeld
import Derived.Deep.RegionHeld3
import Derived.Deep.DeepCutAuto
import Derived.Deep.CutBlock
import Derived.Test.YthbalmoafpggdaaGreatM1
import Derived.Test.YthbalmoafpggdaaGreatM5
namespace Go.Proofs.YthbalmoafpggdaaGreat
open Go.RowKit
set_option linter.unusedVariables false
set_option linter.unusedSimpArgs false
def cmpZ (x y : Int) : Int := if x < y then -1 else if y < x then 1 else 0
theorem cmp64 (x y : Int) (w : World) : Calls Tryz.prog 107 #[.int .i64 x, .int .i64 y] w fun e w' => e = .returned (.int .i64 (cmpZ x y)) ∧ w = w' := by
  by_cases h1 : x < y
  · go_enter Tryz.func107, Tryz.ntmps107
    go_wp2
    go_ret
    exact ⟨by simp [cmpZ, h1], rfl⟩
  · by_cases h2 : y < x
    · go_enter Tryz.func107, Tryz.ntmps107
      go_wp2
      go_ret
      exact ⟨by simp [cmpZ, h1, h2], rfl⟩
    · go_enter Tryz.func107, Tryz.ntmps107
      go_wp2
      go_ret
      exact ⟨congrArg (fun z => Ending.returned (.int .i64 z)) (show 0 = cmpZ x y from by unfold cmpZ; rw [if_neg (by omega), if_neg (by omega)]), rfl⟩
theorem cmpInt (x y : Int) (w : World) : Calls Tryz.prog 108 #[.int .i64 x, .int .i64 y] w fun e w' => e = .returned (.int .i64 (cmpZ x y)) ∧ w = w' := by
  by_cases h1 : x < y
  · go_enter Tryz.func108, Tryz.ntmps108
    go_wp2
    go_ret
    exact ⟨by simp [cmpZ, h1], rfl⟩
  · by_cases h2 : y < x
    · go_enter Tryz.func108, Tryz.ntmps108
      go_wp2
      go_ret
      exact ⟨by simp [cmpZ, h1, h2], rfl⟩
    · go_enter Tryz.func108, Tryz.ntmps108
      go_wp2
      go_ret
      exact ⟨congrArg (fun z => Ending.returned (.int .i64 z)) (show 0 = cmpZ x y from by unfold cmpZ; rw [if_neg (by omega), if_neg (by omega)]), rfl⟩

def idV (t n : Int) : Value := .agg #[.int .i64 t, .int .i64 n]
def cmpID (t n t' n' : Int) : Int := if cmpZ t t' = 0 then cmpZ n n' else cmpZ t t'
theorem clkCmp (t n t' n' : Int) (w : World) : Calls Tryz.prog 102 #[.agg #[.int .i64 t, .int .i64 n], .agg #[.int .i64 t', .int .i64 n']] w fun e w' => e = .returned (.int .i64 (cmpID t n t' n')) ∧ Below w.heap.size w w' := by
  by_cases h : cmpZ t t' = 0
  · have hb : (cmpZ t t' == 0) = true := beq_iff_eq.2 h
    have hb' : (cmpZ t t' != 0) = false := by simp [h]
    have H := Lib.hid h; clear h
    go_enter Tryz.func102, Tryz.ntmps102
    go_wp2_with (first | (go_at_call 107; refine (cmp64 _ _ _).mono ?_; rintro e w' ⟨rfl, rfl⟩) | (go_at_call 108; refine (cmpInt _ _ _).mono ?_; rintro e w' ⟨rfl, rfl⟩))
    go_ret
    exact ⟨by simp [cmpID, H.out], by (repeat (first | exact Below.refl _ _ | (with_reducible assumption) | apply Below.drew | (refine Below.alloc ?_ (by first | exact Nat.le_refl _ | omega | (simp; done) | (simp; omega)) _) | (refine Below.setCell ?_ (by first | exact Nat.le_refl _ | omega | (simp; done) | (simp; omega)) _) | (refine Below.trans ?_ (Below.mono (by with_reducible assumption) (by first | omega | (simp; done) | (simp; omega))))))⟩
  · have hb : (cmpZ t t' == 0) = false := by simpa using h
    have hb' : (cmpZ t t' != 0) = true := by simpa using h
    go_enter Tryz.func102, Tryz.ntmps102
    go_wp2_with (first | (go_at_call 107; refine (cmp64 _ _ _).mono ?_; rintro e w' ⟨rfl, rfl⟩) | (go_at_call 108; refine (cmpInt _ _ _).mono ?_; rintro e w' ⟨rfl, rfl⟩))
    go_ret
    exact ⟨by simp [cmpID, h], by (repeat (first | exact Below.refl _ _ | (with_reducible assumption) | apply Below.drew | (refine Below.alloc ?_ (by first | exact Nat.le_refl _ | omega | (simp; done) | (simp; omega)) _) | (refine Below.setCell ?_ (by first | exact Nat.le_refl _ | omega | (simp; done) | (simp; omega)) _) | (refine Below.trans ?_ (Below.mono (by with_reducible assumption) (by first | omega | (simp; done) | (simp; omega))))))⟩
theorem clkLess (t n t' n' : Int) (w : World) : Calls Tryz.prog 100 #[.agg #[.int .i64 t, .int .i64 n], .agg #[.int .i64 t', .int .i64 n']] w fun e w' => e = .returned (.bool (decide (cmpID t n t' n' < 0))) ∧ Below w.heap.size w w' := by
  go_enter Tryz.func100, Tryz.ntmps100
  go_wp2_with (go_at_call 102; refine (clkCmp _ _ _ _ _).mono ?_; rintro e w1 ⟨rfl, hb⟩)
  go_ret
  exact ⟨rfl, by (repeat (first | exact Below.refl _ _ | (with_reducible assumption) | apply Below.drew | (refine Below.alloc ?_ (by first | exact Nat.le_refl _ | omega | (simp; done) | (simp; omega)) _) | (refine Below.setCell ?_ (by first | exact Nat.le_refl _ | omega | (simp; done) | (simp; omega)) _) | (refine Below.trans ?_ (Below.mono (by with_reducible assumption) (by first | omega | (simp; done) | (simp; omega))))))⟩
def validID (t n : Int) : Bool := decide (1 ≤ t) && decide (t ≤ 1152921504606846976) && (decide (0 ≤ n) && decide (n < 64))
theorem clkValid (t n : Int) (w : World) : Calls Tryz.prog 72 #[.agg #[.int .i64 t, .int .i64 n]] w fun e w' => e = .returned (.bool (validID t n)) ∧ Below w.heap.size w w' := by
  go_enter Tryz.func72, Tryz.ntmps72
  go_wp2
  all_goals
    go_ret
    refine ⟨congrArg (fun x => Ending.returned (.bool x)) ?_, by (repeat (first | exact Below.refl _ _ | (with_reducible assumption) | apply Below.drew | (refine Below.alloc ?_ (by first | exact Nat.le_refl _ | omega | (simp; done) | (simp; omega)) _) | (refine Below.setCell ?_ (by first | exact Nat.le_refl _ | omega | (simp; done) | (simp; omega)) _) | (refine Below.trans ?_ (Below.mono (by with_reducible assumption) (by first | omega | (simp; done) | (simp; omega))))))⟩
    unfold validID
    simp [*]
    try omega
/-- The stamps told at the law's begin. -/
def ClkBegun (w : World) (e : Ending) (w' : World) : Prop := e = .returned (.bool true) ∧ Below w.heap.size w w'
set_option maxHeartbeats 1000000 in
theorem refLess (t n t' n' : Int) (w : World) : Calls Tryz.prog 89 #[.agg #[.int .i64 t, .int .i64 n], .agg #[.int .i64 t', .int .i64 n']] w fun e w' => e = .returned (.bool (decide (t < t') || decide (t = t') && decide (n < n'))) ∧ Below w.heap.size w w' := by
  go_enter Tryz.func89, Tryz.ntmps89
  go_wp2
  all_goals
    go_ret
    refine ⟨congrArg (fun x => Ending.returned (.bool x)) ?_, by (repeat (first | exact Below.refl _ _ | (with_reducible assumption) | apply Below.drew | (refine Below.alloc ?_ (by first | exact Nat.le_refl _ | omega | (simp; done) | (simp; omega)) _) | (refine Below.setCell ?_ (by first | exact Nat.le_refl _ | omega | (simp; done) | (simp; omega)) _) | (refine Below.trans ?_ (Below.mono (by with_reducible assumption) (by first | omega | (simp; done) | (simp; omega))))))⟩
    simp [*]
    try omega
theorem refValid (t n : Int) (w : World) : Calls Tryz.prog 50 #[.agg #[.int .i64 t, .int .i64 n]] w fun e w' => e = .returned (.bool (validID t n)) ∧ Below w.heap.size w w' := by
  go_enter Tryz.func50, Tryz.ntmps50
  go_wp2
  all_goals
    go_ret
    refine ⟨congrArg (fun x => Ending.returned (.bool x)) ?_, by (repeat (first | exact Below.refl _ _ | (with_reducible assumption) | apply Below.drew | (refine Below.alloc ?_ (by first | exact Nat.le_refl _ | omega | (simp; done) | (simp; omega)) _) | (refine Below.setCell ?_ (by first | exact Nat.le_refl _ | omega | (simp; done) | (simp; omega)) _) | (refine Below.trans ?_ (Below.mono (by with_reducible assumption) (by first | omega | (simp; done) | (simp; omega))))))⟩
    unfold validID
    simp [*]
    try omega
def idLt (t n t' n' : Int) : Bool := decide (t < t') || decide (t = t') && decide (n < n')
theorem cmpID_lt (t n t' n' : Int) : decide (cmpID t n t' n' < 0) = idLt t n t' n' := by
  unfold cmpID cmpZ idLt
  rw [Bool.eq_iff_iff]
  simp only [decide_eq_true_eq, Bool.or_eq_true, Bool.and_eq_true]
  repeat' split
  all_goals omega
theorem clkLess' (t n t' n' : Int) (w : World) : Calls Tryz.prog 100 #[.agg #[.int .i64 t, .int .i64 n], .agg #[.int .i64 t', .int .i64 n']] w fun e w' => e = .returned (.bool (idLt t n t' n')) ∧ Below w.heap.size w w' := by
  rw [← cmpID_lt]; exact clkLess t n t' n' w
theorem refLess' (t n t' n' : Int) (w : World) : Calls Tryz.prog 89 #[.agg #[.int .i64 t, .int .i64 n], .agg #[.int .i64 t', .int .i64 n']] w fun e w' => e = .returned (.bool (idLt t n t' n')) ∧ Below w.heap.size w w' := refLess t n t' n' w
end Go.Proofs.YthbalmoafpggdaaGreat
namespace Go.Proofs.YthbalmoafpggdaaGreat
open Go.RowKit
set_option linter.unusedVariables false
set_option linter.unusedSimpArgs false
structure Opr where
  time : Int
  node : Int
  seq : Int
  kind : Int
  ot : Int
  on : Int
  pt : Int
  pn : Int
  name : ByteArray
  data : List Int
  seen : List Int
/-- May the vector of an operation be? -/
def seenB (xs : List Int) (node seq : Int) : Bool := vecMayB (cutL xs) && decide ((cutL xs).length ≤ 64) && decide (atZ xs node = seq - 1)
theorem mayB_bad (xs : List Int) (m k : Nat) (hk : k < m) (hm : m ≤ xs.length) (hf : ¬ (0 ≤ xs.getD k 0 ∧ xs.getD k 0 ≤ 1152921504606846976)) : vecMayB (xs.take m) = false := by
  have e : (xs.take m).getD k 0 = xs.getD k 0 := by simp [List.getD_eq_getElem?_getD, List.getElem?_take_of_lt hk]
  refine vecMayB_false _ k (by simp; omega) ?_
  rw [e]; exact hf
theorem rdv_cell {enc : Int → Value} {w : World} {b o n c : Nat} {xs : List Int} (h : Rdv enc w (.slice (some ⟨b, o, none⟩) n c) xs) (k : Nat) (hk : k < xs.length) : w.cell? ⟨b, o + k, none⟩ = some (enc (xs.getD k 0)) := by
  obtain ⟨b', o', e, hc⟩ := rdv_at h k hk
  injection e with e
  injection e with e1 e2
  subst e1 e2
  exact hc
set_option maxHeartbeats 2000000 in
set_option maxRecDepth 100000 in
theorem opsSeen (o : Opr) (d s : Value) (w : World) (hs : Rdv i64v w s o.seen) (h1 : 1 ≤ o.seq) (h2 : o.seq ≤ 1152921504606846976) :
    Calls Tryz.prog 73 #[.agg #[.int .i64 (o).time, .int .i64 (o).node, .int .i64 (o).seq, .int .i64 (o).kind, .int .i64 (o).ot, .int .i64 (o).on, .int .i64 (o).pt, .int .i64 (o).pn, .string (o).name, d, s]] w fun e w' => e = .returned (.bool (seenB o.seen o.node o.seq)) ∧ Below w.heap.size w w' := by
  obtain ⟨time, node, seq, kind, ot, on, pt, pn, name, data, xs⟩ := o
  simp only at *
  obtain ⟨a, n, c, rfl⟩ := hs.shape
  obtain ⟨rfl, c1, c2, c3⟩ := hs.cap
  unfold maxLen at c2
  have HX := Lib.hid (fun w' hb => hs.below (w' := w') hb)
  have HX0 := Lib.hid hs
  have KA := Lib.hid (fun (w' : World) hb => vecAt _ xs node w' (hs.below (w' := w') hb))
  clear hs c3
  go_enter Tryz.func73, Tryz.ntmps73
  go_wp2
  obtain ⟨w1, hw1⟩ : ∃ w1, w1 = w.alloc (.cells #[.int .i64 time, .int .i64 node, .int .i64 seq, .int .i64 kind, .int .i64 ot, .int .i64 on, .int .i64 pt, .int .i64 pn, .string name, d, .slice a xs.length c] 46) := ⟨_, rfl⟩
  have hB := (Below.refl w.heap.size w).alloc (Nat.le_refl _) (.cells #[.int .i64 time, .int .i64 node, .int .i64 seq, .int .i64 kind, .int .i64 ot, .int .i64 on, .int .i64 pt, .int .i64 pn, .string name, d, .slice a xs.length c] 46)
  have bk : Blk w1 w.heap.size #[.int .i64 time, .int .i64 node, .int .i64 seq, .int .i64 kind, .int .i64 ot, .int .i64 on, .int .i64 pt, .int .i64 pn, .string name, d, .slice a xs.length c] 46 := by rw [hw1]; exact Blk.new _ _ _
  rw [← hw1] at hB ⊢
  have e10 : w1.cell? ⟨w.heap.size, 10, none⟩ = some (.slice a xs.length c) := bk.cell (o := 10) rfl
  have e1 : w1.cell? ⟨w.heap.size, 1, none⟩ = some (.int .i64 node) := bk.cell (o := 1) rfl
  have e2 : w1.cell? ⟨w.heap.size, 2, none⟩ = some (.int .i64 seq) := bk.cell (o := 2) rfl
  have HB := Lib.hid hB
  have HX1 := Lib.hid (HX.out w1 hB)
  clear hw1 hB bk
  go_loop [3] (fun nv => ∃ m : Nat, m ≤ xs.length ∧ nv = .int .i64 m ∧ cutTo xs xs.length = cutTo xs m) (fun nv => (intOf nv).toNat)
  case atStart => exact ⟨_, Nat.le_refl _, rfl, rfl⟩
  case round =>
    obtain ⟨m, hm, rfl, he⟩ := hrel
    have HE := Lib.hid he
    clear he
    by_cases hmid : 0 < m ∧ xs.getD (m - 1) 0 = 0
    · obtain ⟨hpos, hz⟩ := hmid
      obtain ⟨k, rfl⟩ : ∃ k, m = k + 1 := ⟨m - 1, by omega⟩
      rw [Nat.add_sub_cancel] at hz
      obtain ⟨bl, ol, rfl, hcell⟩ := rdv_at HX1.out k (by omega)
      have HE2 := Lib.hid (HE.out.trans (cutTo_down xs k hz))
      rw [hz] at hcell
      clear hz
      go_wp2
      go_round
      case rel => exact ⟨k, by omega, by go_num, HE2.out⟩
      case measure => simp [intOf]
    · have HN : Hid (cutTo xs xs.length = m) := Lib.hid (by
        rw [HE.out]
        cases m with
        | zero => rfl
        | succ k => exact cutTo_stop xs k (by simpa using hmid))
      have hcut : cutL xs = xs.take m := by unfold cutL; rw [HN.out]
      have hlen : (cutL xs).length = m := by rw [cutL_len, HN.out]
      have HC := Lib.hid hcut
      have HL := Lib.hid hlen
      clear hcut hlen
      rcases Nat.eq_zero_or_pos m with hm0 | hpos
      · have hm1 : ¬ ((0 : Int) < m) := by omega
        have hm2 : m ≤ 0 := by omega
        clear hmid hm0
        by_cases h64 : m ≤ 64
        · have h64' : (m : Int) ≤ 64 := by omega
          have hmx : (m : Int) ≤ c := by omega
          go_wp2
          go_loop [29] (fun i => ∃ k : Nat, k ≤ m ∧ i = .int .i64 k ∧ vecMayB (xs.take k) = true) (fun i => m - (intOf i).toNat)
          case atStart => exact ⟨0, Nat.zero_le _, rfl, rfl⟩
          case round =>
            obtain ⟨k, hk, rfl, hok⟩ := hrel
            have HOK := Lib.hid hok
            clear hok
            by_cases hlt : k < m
            · exact absurd hlt (by omega)
            · obtain rfl : k = m := by omega
              have HV : Hid (vecMayB (cutL xs) = true) := Lib.hid (by rw [HC.out]; exact HOK.out)
              clear HOK
              go_wp2
              go_quiet ((go_at_call 98; refine Calls.quiet_of_same ((KA.out _ (HB.out.trans ((Drw.below ⟨_, rfl⟩).mono HB.out.size))).mono fun _ _ h => ⟨h.1, h.2.symm⟩)))
              go_wp2
              go_ret
              refine ⟨ret_b ?_, HB.out.trans ((Drw.below ⟨_, rfl⟩).mono HB.out.size)⟩
              unfold seenB
              rw [HV.out, HL.out, decide_eq_true h64, Bool.eq_iff_iff]
              simp
        · have h64' : (64 : Int) < m := by omega
          exfalso; omega
      · obtain ⟨bl, ol, rfl, hcell⟩ := rdv_at HX1.out (m - 1) (by omega)
        have hnz : xs.getD (m - 1) 0 ≠ 0 := fun e => hmid ⟨hpos, e⟩
        have hz2 : (xs.getD (m - 1) 0 == 0) = false := beq_false_of_ne hnz
        have p0 : (0 : Int) < m := by omega
        have p1 : (0 : Int) ≤ (m : Int) - 1 := by omega
        have p2 : (m : Int) - 1 < xs.length := by omega
        have p3 : ((m : Int) - 1).toNat = m - 1 := by omega
        generalize xs.getD (m - 1) 0 = q at *
        clear hmid hnz
        by_cases h64 : m ≤ 64
        · have h64' : (m : Int) ≤ 64 := by omega
          have hmx : (m : Int) ≤ c := by omega
          go_wp2
          go_loop [29] (fun i => ∃ k : Nat, k ≤ m ∧ i = .int .i64 k ∧ vecMayB (xs.take k) = true) (fun i => m - (intOf i).toNat)
          case atStart => exact ⟨0, Nat.zero_le _, rfl, rfl⟩
          case round =>
            obtain ⟨k, hk, rfl, hok⟩ := hrel
            have HOK := Lib.hid hok
            clear hok
            by_cases hlt : k < m
            · have hcell2 := rdv_cell HX1.out k (by omega)
              by_cases hq : 0 ≤ xs.getD k 0 ∧ xs.getD k 0 ≤ 1152921504606846976
              · have HS := Lib.hid (vecMayB_take xs k (by omega))
                obtain ⟨q1, q2⟩ := hq
                have HV : Hid (vecMayB (xs.take (k + 1)) = true) := Lib.hid (by rw [HS.out, HOK.out, decide_eq_true q1, decide_eq_true q2]; rfl)
                clear HS
                generalize xs.getD k 0 = q3 at *
                go_wp2
                go_round
                case rel => exact ⟨k + 1, by omega, by go_num, HV.out⟩
                case measure => simp [intOf]; omega
              · have HV : Hid (vecMayB (cutL xs) = false) := Lib.hid (by rw [HC.out]; exact mayB_bad xs m k hlt hm hq)
                by_cases q0 : xs.getD k 0 < 0
                · generalize xs.getD k 0 = q3 at *
                  clear hq
                  go_wp2
                  go_ret
                  exact ⟨ret_b (by unfold seenB; rw [HV.out]; rfl), HB.out⟩
                · have q1 : 1152921504606846976 < xs.getD k 0 := by omega
                  generalize xs.getD k 0 = q3 at *
                  clear hq
                  go_wp2
                  go_ret
                  exact ⟨ret_b (by unfold seenB; rw [HV.out]; rfl), HB.out⟩
            · obtain rfl : k = m := by omega
              have HV : Hid (vecMayB (cutL xs) = true) := Lib.hid (by rw [HC.out]; exact HOK.out)
              clear HOK
              go_wp2
              go_quiet ((go_at_call 98; refine Calls.quiet_of_same ((KA.out _ (HB.out.trans ((Drw.below ⟨_, rfl⟩).mono HB.out.size))).mono fun _ _ h => ⟨h.1, h.2.symm⟩)))
              go_wp2
              go_ret
              refine ⟨ret_b ?_, HB.out.trans ((Drw.below ⟨_, rfl⟩).mono HB.out.size)⟩
              unfold seenB
              rw [HV.out, HL.out, decide_eq_true h64, Bool.eq_iff_iff]
              simp
        · have h64' : (64 : Int) < m := by omega
          go_wp2
          go_ret
          exact ⟨ret_b (by unfold seenB; rw [HL.out, decide_eq_false h64]; simp), HB.out⟩
theorem eqID (a b c d : Int) (w : World) : (binOp .eql 44 (.agg #[.int .i64 a, .int .i64 b]) (.agg #[.int .i64 c, .int .i64 d])).run Tryz.prog w = .ok (.bool (decide (a = c) && decide (b = d))) w := by
  go_simp
  by_cases h : a = c <;> by_cases h2 : b = d <;> simp [h, h2]
def earlyB (t n t' n' : Int) : Bool := validID t n && idLt t n t' n'
set_option maxHeartbeats 2000000 in
set_option maxRecDepth 100000 in
theorem opsEarlier (t n : Int) (o : Opr) (d s : Value) (w : World) :
    Calls Tryz.prog 76 #[.agg #[.int .i64 t, .int .i64 n], .agg #[.int .i64 (o).time, .int .i64 (o).node, .int .i64 (o).seq, .int .i64 (o).kind, .int .i64 (o).ot, .int .i64 (o).on, .int .i64 (o).pt, .int .i64 (o).pn, .string (o).name, d, s]] w fun e w' => e = .returned (.bool (earlyB t n o.time o.node)) ∧ Below w.heap.size w w' := by
  obtain ⟨time, node, seq, kind, ot, on, pt, pn, name, data, xs⟩ := o
  simp only
  have KV := Lib.hid (fun w' => clkValid t n w')
  have KL := Lib.hid (fun w' => clkLess' t n time node w')
  cases hv : validID t n
  · rw [hv] at KV
    have HV := Lib.hid hv
    clear hv
    go_enter Tryz.func76, Tryz.ntmps76
    go_wp2_with fail
    refine (KV.out _).mono ?_
    rintro e w1 ⟨rfl, hb1⟩
    have HB := Lib.hid hb1
    clear hb1
    go_wp2
    go_ret
    exact ⟨ret_b (by unfold earlyB; rw [HV.out]; rfl), (((Below.refl w.heap.size w).alloc (Nat.le_refl _) _).alloc (by simp) _).trans (HB.out.mono (by simp; omega))⟩
  · rw [hv] at KV
    have HV := Lib.hid hv
    clear hv
    go_enter Tryz.func76, Tryz.ntmps76
    go_wp2_with fail
    refine (KV.out _).mono ?_
    rintro e w1 ⟨rfl, hb1⟩
    have bk : Blk w1 (w.heap.size + 1) #[.int .i64 time, .int .i64 node, .int .i64 seq, .int .i64 kind, .int .i64 ot, .int .i64 on, .int .i64 pt, .int .i64 pn, .string name, d, s] 46 := blkBelow hb1 (by have := Blk.new (w.alloc (.cells #[.int .i64 t, .int .i64 n] 44)) #[.int .i64 time, .int .i64 node, .int .i64 seq, .int .i64 kind, .int .i64 ot, .int .i64 on, .int .i64 pt, .int .i64 pn, .string name, d, s] 46; simpa using this) (by simp)
    have bk2 : Blk w1 w.heap.size #[.int .i64 t, .int .i64 n] 44 := blkBelow hb1 ((Blk.new w _ _).alloc _) (by simp; omega)
    have e0 : w1.cell? ⟨w.heap.size + 1, 0, none⟩ = some (.int .i64 time) := bk.cell (o := 0) rfl
    have e1 : w1.cell? ⟨w.heap.size + 1, 1, none⟩ = some (.int .i64 node) := bk.cell (o := 1) rfl
    have e2 : w1.cell? ⟨w.heap.size, 0, none⟩ = some (.int .i64 t) := bk2.cell (o := 0) rfl
    have e3 : w1.cell? ⟨w.heap.size, 1, none⟩ = some (.int .i64 n) := bk2.cell (o := 1) rfl
    have HB : Hid (Below w.heap.size w w1) := Lib.hid ((((Below.refl w.heap.size w).alloc (Nat.le_refl _) _).alloc (by simp) _).trans (hb1.mono (by simp; omega)))
    clear hb1 bk bk2
    go_wp2_with fail
    refine (KL.out _).mono ?_
    rintro e w2 ⟨rfl, hb2⟩
    have HB2 := Lib.hid hb2
    clear hb2
    go_wp2
    go_ret
    exact ⟨ret_b (by unfold earlyB; rw [HV.out]; rfl), HB.out.trans (HB2.out.mono HB.out.size)⟩
theorem opsRoot (w : World) : Calls Tryz.prog 75 #[] w fun e w' => e = .returned (.agg #[.int .i64 0, .int .i64 0]) ∧ Below w.heap.size w w' := by
  go_enter Tryz.func75, Tryz.ntmps75
  go_wp2
  exact bodyPost_ret (v := .agg #[.int .i64 0, .int .i64 0]) (by simp [results, Tryz.results75, go_sem] <;> rfl) rfl ⟨rfl, (Below.refl _ _).alloc (Nat.le_refl _) _⟩
theorem opsTrash (w : World) : Calls Tryz.prog 77 #[] w fun e w' => e = .returned (.agg #[.int .i64 0, .int .i64 1]) ∧ Below w.heap.size w w' := by
  go_enter Tryz.func77, Tryz.ntmps77
  go_wp2
  exact bodyPost_ret (v := .agg #[.int .i64 0, .int .i64 1]) (by simp [results, Tryz.results77, go_sem] <;> rfl) rfl ⟨rfl, (Below.refl _ _).alloc (Nat.le_refl _) _⟩
end Go.Proofs.YthbalmoafpggdaaGreat
namespace Go.Proofs.YthbalmoafpggdaaGreat
open Go.RowKit
set_option linter.unusedVariables false
set_option linter.unusedSimpArgs false
def namedB (o : Opr) : Bool := decide (nameE o.name.data.toList = 0) && decide (o.data.length = 0)
def parB (o : Opr) : Bool := decide (o.pt = 0 ∧ o.pn = 0) || earlyB o.pt o.pn o.time o.node
def kindB (o : Opr) : Bool :=
  if o.kind = 1 ∨ o.kind = 2 then decide (o.ot = o.time ∧ o.on = o.node) && parB o && namedB o
  else if o.kind = 3 then earlyB o.ot o.on o.time o.node && (parB o || decide (o.pt = 0 ∧ o.pn = 1)) && namedB o
  else if o.kind = 4 then earlyB o.ot o.on o.time o.node && decide (o.pt = 0 ∧ o.pn = 0) && decide (o.name.data.toList = []) && decide (o.data.length ≤ 65536)
  else false
/-- May an operation be? -/
def mayB (o : Opr) : Bool := validID o.time o.node && decide (1 ≤ o.seq) && decide (o.seq ≤ 1152921504606846976) && seenB o.seen o.node o.seq && kindB o
/-- An operation's box, kept. -/
structure OMid (w : World) (b : Nat) (cs : Array Value) (w' : World) : Prop where
  blk : Blk w' b cs 46
  bel : Below w.heap.size w w'
theorem OMid.below {w W w' : World} {b : Nat} {cs : Array Value} (h : OMid w b cs W) (hb : Below W.heap.size W w') : OMid w b cs w' := ⟨blkBelow hb h.blk h.blk.lt, h.bel.trans (hb.mono h.bel.size)⟩
theorem OMid.drew {w W : World} {b : Nat} {cs : Array Value} (h : OMid w b cs W) : OMid w b cs W.drew := h.below (Below.drew (Below.refl _ _))
theorem OMid.drewN {w W : World} {b : Nat} {cs : Array Value} (h : OMid w b cs W) (n : Nat) : OMid w b cs (W.drewN n) := h.below (Drw.below ⟨n, rfl⟩)
theorem OMid.size {w W : World} {b : Nat} {cs : Array Value} (h : OMid w b cs W) : w.heap.size ≤ W.heap.size := h.bel.size
theorem om_S {w w' : World} {b : Nat} {time node seq kind ot on pt pn : Int} {name : ByteArray} {d s : Value} (h : OMid w b #[.int .i64 time, .int .i64 node, .int .i64 seq, .int .i64 kind, .int .i64 ot, .int .i64 on, .int .i64 pt, .int .i64 pn, .string name, d, s] w') : (w'.cell? ⟨b, 0, none⟩ = some (.int .i64 time) ∧ w'.cell? ⟨b, 1, none⟩ = some (.int .i64 node) ∧ w'.cell? ⟨b, 2, none⟩ = some (.int .i64 seq) ∧ w'.cell? ⟨b, 3, none⟩ = some (.int .i64 kind) ∧ w'.cell? ⟨b, 4, none⟩ = some (.int .i64 ot) ∧ w'.cell? ⟨b, 5, none⟩ = some (.int .i64 on) ∧ w'.cell? ⟨b, 6, none⟩ = some (.int .i64 pt) ∧ w'.cell? ⟨b, 7, none⟩ = some (.int .i64 pn) ∧ w'.cell? ⟨b, 8, none⟩ = some (.string name) ∧ w'.cell? ⟨b, 9, none⟩ = some (d) ∧ w'.cell? ⟨b, 10, none⟩ = some (s)) ∧ OMid w b #[.int .i64 time, .int .i64 node, .int .i64 seq, .int .i64 kind, .int .i64 ot, .int .i64 on, .int .i64 pt, .int .i64 pn, .string name, d, s] w' := by
  have B := h.blk
  exact ⟨⟨B.cell (o := 0) rfl, B.cell (o := 1) rfl, B.cell (o := 2) rfl, B.cell (o := 3) rfl, B.cell (o := 4) rfl, B.cell (o := 5) rfl, B.cell (o := 6) rfl, B.cell (o := 7) rfl, B.cell (o := 8) rfl, B.cell (o := 9) rfl, B.cell (o := 10) rfl⟩, h⟩
set_option maxHeartbeats 4000000 in
set_option maxRecDepth 100000 in
theorem opsMayN (o : Opr) (d s : Value) (w : World) (hd : Rdv u8v w d o.data) (hs : Rdv i64v w s o.seen) (hn : o.name.size < 4294967281) (hkk : ¬ o.kind = 3) :
    Calls Tryz.prog 33 #[.agg #[.int .i64 (o).time, .int .i64 (o).node, .int .i64 (o).seq, .int .i64 (o).kind, .int .i64 (o).ot, .int .i64 (o).on, .int .i64 (o).pt, .int .i64 (o).pn, .string (o).name, d, s]] w fun e w' => e = .returned (.bool (mayB o)) ∧ Below w.heap.size w w' := by
  obtain ⟨O, hO⟩ : ∃ O, O = o := ⟨_, rfl⟩
  obtain ⟨time, node, seq, kind, ot, on, pt, pn, name, data, xs⟩ := o
  simp only at *
  have HKK := Lib.hid hkk
  clear hkk
  have KV := Lib.hid (fun w' => clkValid time node w')
  have KN := Lib.hid (fun w' => opsName name w' hn)
  have KS := Lib.hid (fun h1 h2 w' hb => opsSeen O d s w' (by rw [hO]; exact hs.below (w' := w') hb) (by rw [hO]; exact h1) (by rw [hO]; exact h2))
  have KE := Lib.hid (fun t n w' => opsEarlier t n O d s w')
  rw [hO] at KS KE
  simp only at KS KE
  have HO := Lib.hid hO
  obtain ⟨da, dn, dc, rfl⟩ := hd.shape
  obtain ⟨rfl, _, _, _⟩ := hd.cap
  have HM : Hid (mayB O = (validID time node && decide (1 ≤ seq) && decide (seq ≤ 1152921504606846976) && seenB xs node seq && kindB O)) := Lib.hid (by rw [hO]; rfl)
  clear hd hs hO
  have HB0 := (Below.refl w.heap.size w).alloc (Nat.le_refl _) (.cells #[.int .i64 time, .int .i64 node, .int .i64 seq, .int .i64 kind, .int .i64 ot, .int .i64 on, .int .i64 pt, .int .i64 pn, .string name, .slice da data.length dc, s] 46)
  have bk0 := Blk.new w #[.int .i64 time, .int .i64 node, .int .i64 seq, .int .i64 kind, .int .i64 ot, .int .i64 on, .int .i64 pt, .int .i64 pn, .string name, .slice da data.length dc, s] 46
  have OM0 := Lib.hid (OMid.mk bk0 HB0)
  clear bk0 HB0
  cases hv : validID time node
  · rw [hv] at KV
    have HV := Lib.hid hv
    clear hv
    go_enter Tryz.func33, Tryz.ntmps33
    go_wp2_with fail
    refine (KV.out _).mono ?_
    rintro e w1 ⟨rfl, hb1⟩
    have OM1 := Lib.hid (OM0.out.below hb1)
    clear hb1
    go_wp2
    go_ret
    exact ⟨ret_b (by rw [← HO.out, HM.out, HV.out]; rfl), OM1.out.bel⟩
  · rw [hv] at KV
    have HV := Lib.hid hv
    clear hv
    go_enter Tryz.func33, Tryz.ntmps33
    go_wp2_with fail
    refine (KV.out _).mono ?_
    rintro e w1 ⟨rfl, hb1⟩
    have OM1 := Lib.hid (OM0.out.below hb1)
    clear hb1
    have c_0 : w1.cell? ⟨w.heap.size, 0, none⟩ = some (.int .i64 time) := (OM1.out.blk).cell (o := 0) rfl
    have c_1 : w1.cell? ⟨w.heap.size, 1, none⟩ = some (.int .i64 node) := (OM1.out.blk).cell (o := 1) rfl
    have c_2 : w1.cell? ⟨w.heap.size, 2, none⟩ = some (.int .i64 seq) := (OM1.out.blk).cell (o := 2) rfl
    have c_3 : w1.cell? ⟨w.heap.size, 3, none⟩ = some (.int .i64 kind) := (OM1.out.blk).cell (o := 3) rfl
    have c_4 : w1.cell? ⟨w.heap.size, 4, none⟩ = some (.int .i64 ot) := (OM1.out.blk).cell (o := 4) rfl
    have c_5 : w1.cell? ⟨w.heap.size, 5, none⟩ = some (.int .i64 on) := (OM1.out.blk).cell (o := 5) rfl
    have c_6 : w1.cell? ⟨w.heap.size, 6, none⟩ = some (.int .i64 pt) := (OM1.out.blk).cell (o := 6) rfl
    have c_7 : w1.cell? ⟨w.heap.size, 7, none⟩ = some (.int .i64 pn) := (OM1.out.blk).cell (o := 7) rfl
    have c_8 : w1.cell? ⟨w.heap.size, 8, none⟩ = some (.string name) := (OM1.out.blk).cell (o := 8) rfl
    have c_9 : w1.cell? ⟨w.heap.size, 9, none⟩ = some (.slice da data.length dc) := (OM1.out.blk).cell (o := 9) rfl
    have c_10 : w1.cell? ⟨w.heap.size, 10, none⟩ = some (s) := (OM1.out.blk).cell (o := 10) rfl
    by_cases hq : 1 ≤ seq ∧ seq ≤ 1152921504606846976
    · obtain ⟨hq1, hq2⟩ := hq
      have KS1 := Lib.hid (KS.out hq1 hq2)
      cases hsn : seenB xs node seq
      · rw [hsn] at KS1
        have HSN := Lib.hid hsn
        clear hsn
        go_wp2_with fail
        refine (KS1.out _ OM1.out.bel).mono ?_
        rintro e w2 ⟨rfl, hb2⟩
        have OM2 := Lib.hid (OM1.out.below hb2)
        clear hb2 c_0 c_1 c_2 c_3 c_4 c_5 c_6 c_7 c_8 c_9 c_10
        go_wp2
        go_ret
        exact ⟨ret_b (by rw [← HO.out, HM.out, HSN.out]; simp), OM2.out.bel⟩
      · rw [hsn] at KS1
        have HM2 : Hid (mayB O = kindB O) := Lib.hid (by rw [HM.out, HV.out, hsn, decide_eq_true hq1, decide_eq_true hq2]; rfl)
        clear hsn
        go_wp2_with fail
        refine (KS1.out _ OM1.out.bel).mono ?_
        rintro e w2 ⟨rfl, hb2⟩
        have OM2 := Lib.hid (OM1.out.below hb2)
        clear hb2 c_0 c_1 c_2 c_3 c_4 c_5 c_6 c_7 c_8 c_9 c_10 OM1 OM0 HM KV KS KS1
        have c_0 : w2.cell? ⟨w.heap.size, 0, none⟩ = some (.int .i64 time) := (OM2.out.blk).cell (o := 0) rfl
        have c_1 : w2.cell? ⟨w.heap.size, 1, none⟩ = some (.int .i64 node) := (OM2.out.blk).cell (o := 1) rfl
        have c_2 : w2.cell? ⟨w.heap.size, 2, none⟩ = some (.int .i64 seq) := (OM2.out.blk).cell (o := 2) rfl
        have c_3 : w2.cell? ⟨w.heap.size, 3, none⟩ = some (.int .i64 kind) := (OM2.out.blk).cell (o := 3) rfl
        have c_4 : w2.cell? ⟨w.heap.size, 4, none⟩ = some (.int .i64 ot) := (OM2.out.blk).cell (o := 4) rfl
        have c_5 : w2.cell? ⟨w.heap.size, 5, none⟩ = some (.int .i64 on) := (OM2.out.blk).cell (o := 5) rfl
        have c_6 : w2.cell? ⟨w.heap.size, 6, none⟩ = some (.int .i64 pt) := (OM2.out.blk).cell (o := 6) rfl
        have c_7 : w2.cell? ⟨w.heap.size, 7, none⟩ = some (.int .i64 pn) := (OM2.out.blk).cell (o := 7) rfl
        have c_8 : w2.cell? ⟨w.heap.size, 8, none⟩ = some (.string name) := (OM2.out.blk).cell (o := 8) rfl
        have c_9 : w2.cell? ⟨w.heap.size, 9, none⟩ = some (.slice da data.length dc) := (OM2.out.blk).cell (o := 9) rfl
        have c_10 : w2.cell? ⟨w.heap.size, 10, none⟩ = some (s) := (OM2.out.blk).cell (o := 10) rfl
        go_upto_region 3 with fail
        go_cut [3] (fun s3 wx => s3 = .bool (namedB O) ∧ OMid w w.heap.size #[.int .i64 time, .int .i64 node, .int .i64 seq, .int .i64 kind, .int .i64 ot, .int .i64 on, .int .i64 pt, .int .i64 pn, .string name, .slice da data.length dc, s] wx)
        case first =>
          have HNM : Hid (namedB O = (decide (nameE name.data.toList = 0) && decide (data.length = 0))) := Lib.hid (by rw [HO.out]; rfl)
          go_wp2_with fail
          refine (KN.out _).mono ?_
          rintro e w3 ⟨rfl, hb3⟩
          have OM3 := Lib.hid (OM2.out.below hb3)
          clear hb3 c_0 c_1 c_2 c_3 c_4 c_5 c_6 c_7 c_8 c_9 c_10 OM2 KN
          have c_0 : w3.cell? ⟨w.heap.size, 0, none⟩ = some (.int .i64 time) := (OM3.out.blk).cell (o := 0) rfl
          have c_1 : w3.cell? ⟨w.heap.size, 1, none⟩ = some (.int .i64 node) := (OM3.out.blk).cell (o := 1) rfl
          have c_2 : w3.cell? ⟨w.heap.size, 2, none⟩ = some (.int .i64 seq) := (OM3.out.blk).cell (o := 2) rfl
          have c_3 : w3.cell? ⟨w.heap.size, 3, none⟩ = some (.int .i64 kind) := (OM3.out.blk).cell (o := 3) rfl
          have c_4 : w3.cell? ⟨w.heap.size, 4, none⟩ = some (.int .i64 ot) := (OM3.out.blk).cell (o := 4) rfl
          have c_5 : w3.cell? ⟨w.heap.size, 5, none⟩ = some (.int .i64 on) := (OM3.out.blk).cell (o := 5) rfl
          have c_6 : w3.cell? ⟨w.heap.size, 6, none⟩ = some (.int .i64 pt) := (OM3.out.blk).cell (o := 6) rfl
          have c_7 : w3.cell? ⟨w.heap.size, 7, none⟩ = some (.int .i64 pn) := (OM3.out.blk).cell (o := 7) rfl
          have c_8 : w3.cell? ⟨w.heap.size, 8, none⟩ = some (.string name) := (OM3.out.blk).cell (o := 8) rfl
          have c_9 : w3.cell? ⟨w.heap.size, 9, none⟩ = some (.slice da data.length dc) := (OM3.out.blk).cell (o := 9) rfl
          have c_10 : w3.cell? ⟨w.heap.size, 10, none⟩ = some (s) := (OM3.out.blk).cell (o := 10) rfl
          generalize nameE name.data.toList = ne at *
          by_cases h0 : ne = 0
          · subst h0
            by_cases h1 : data.length = 0
            · have h2 : ((data.length : Int) == 0) = true := by rw [h1]; rfl
              have HN1 : Hid (namedB O = true) := Lib.hid (by rw [HNM.out, h1]; rfl)
              clear h1
              go_wp2
              go_meet
              exact ⟨by rw [HN1.out], OM3.out⟩
            · have h2 : ((data.length : Int) == 0) = false := beq_eq_false_iff_ne.2 (by omega)
              have HN1 : Hid (namedB O = false) := Lib.hid (by rw [HNM.out, decide_eq_false h1]; rfl)
              clear h1
              go_wp2
              go_meet
              exact ⟨by rw [HN1.out], OM3.out⟩
          · have h2 : (ne == 0) = false := beq_eq_false_iff_ne.2 h0
            have HN1 : Hid (namedB O = false) := Lib.hid (by rw [HNM.out, decide_eq_false h0]; rfl)
            clear h0
            go_wp2
            go_meet
            exact ⟨by rw [HN1.out], OM3.out⟩
        case rest =>
          obtain ⟨rfl, hOM⟩ := hcut
          have OM3 := Lib.hid hOM
          clear hOM c_0 c_1 c_2 c_3 c_4 c_5 c_6 c_7 c_8 c_9 c_10 OM2 KN
          go_wp2
          go_cut [4] (fun s4 wx => s4 = .bool (parB O) ∧ OMid w w.heap.size #[.int .i64 time, .int .i64 node, .int .i64 seq, .int .i64 kind, .int .i64 ot, .int .i64 on, .int .i64 pt, .int .i64 pn, .string name, .slice da data.length dc, s] wx)
          case first =>
            obtain ⟨w4, rfl⟩ : ∃ w4, w4 = wc := ⟨_, rfl⟩
            have hws := OM3.out.bel.size
            have hwl := OM3.out.blk.lt
            have c_0 : w4.cell? ⟨w.heap.size, 0, none⟩ = some (.int .i64 time) := (OM3.out.blk).cell (o := 0) rfl
            have c_1 : w4.cell? ⟨w.heap.size, 1, none⟩ = some (.int .i64 node) := (OM3.out.blk).cell (o := 1) rfl
            have c_2 : w4.cell? ⟨w.heap.size, 2, none⟩ = some (.int .i64 seq) := (OM3.out.blk).cell (o := 2) rfl
            have c_3 : w4.cell? ⟨w.heap.size, 3, none⟩ = some (.int .i64 kind) := (OM3.out.blk).cell (o := 3) rfl
            have c_4 : w4.cell? ⟨w.heap.size, 4, none⟩ = some (.int .i64 ot) := (OM3.out.blk).cell (o := 4) rfl
            have c_5 : w4.cell? ⟨w.heap.size, 5, none⟩ = some (.int .i64 on) := (OM3.out.blk).cell (o := 5) rfl
            have c_6 : w4.cell? ⟨w.heap.size, 6, none⟩ = some (.int .i64 pt) := (OM3.out.blk).cell (o := 6) rfl
            have c_7 : w4.cell? ⟨w.heap.size, 7, none⟩ = some (.int .i64 pn) := (OM3.out.blk).cell (o := 7) rfl
            have c_8 : w4.cell? ⟨w.heap.size, 8, none⟩ = some (.string name) := (OM3.out.blk).cell (o := 8) rfl
            have c_9 : w4.cell? ⟨w.heap.size, 9, none⟩ = some (.slice da data.length dc) := (OM3.out.blk).cell (o := 9) rfl
            have c_10 : w4.cell? ⟨w.heap.size, 10, none⟩ = some (s) := (OM3.out.blk).cell (o := 10) rfl
            have HP : Hid (parB O = (decide (pt = 0 ∧ pn = 0) || earlyB pt pn time node)) := Lib.hid (by rw [HO.out]; rfl)
            by_cases hr : pt = 0 ∧ pn = 0
            · have HP1 : Hid (parB O = true) := Lib.hid (by rw [HP.out, decide_eq_true hr]; rfl)
              have hE : ∀ w, (binOp .eql 44 (.agg #[.int .i64 pt, .int .i64 pn]) (.agg #[.int .i64 0, .int .i64 0])).run Tryz.prog w = .ok (.bool true) w := fun w => by rw [eqID, hr.1, hr.2]; rfl
              clear hr
              first | (go_region_with ((go_at_call 75; (with_reducible refine (opsRoot _).mono ?_); rintro e w5 ⟨rfl, hb5⟩; (try replace hb5 := undrew hb5); (try replace hb5 := undrewN hb5); have z5 := hb5.size; (try simp at z5); skip; obtain ⟨c5, f5⟩ := bcell hb5))) | fail
              all_goals
                go_wp2
                go_meet
                exact ⟨by rw [HP1.out], OM3.out.below hb5⟩
            · have hE : ∀ w, (binOp .eql 44 (.agg #[.int .i64 pt, .int .i64 pn]) (.agg #[.int .i64 0, .int .i64 0])).run Tryz.prog w = .ok (.bool false) w := fun w => by
                rw [eqID]
                have e : (decide (pt = 0) && decide (pn = 0)) = false := by rw [Bool.and_eq_false_iff]; by_cases h : pt = 0 <;> simp [h] <;> omega
                rw [e]
              have HP1 : Hid (parB O = earlyB pt pn time node) := Lib.hid (by rw [HP.out, decide_eq_false hr]; rfl)
              clear hr
              clear c_0 c_1 c_2 c_3 c_4 c_5 c_6 c_7 c_8 c_9 c_10
              go_region_held3 (fun w' => (w'.cell? ⟨w.heap.size, 0, none⟩ = some (.int .i64 time) ∧ w'.cell? ⟨w.heap.size, 1, none⟩ = some (.int .i64 node) ∧ w'.cell? ⟨w.heap.size, 2, none⟩ = some (.int .i64 seq) ∧ w'.cell? ⟨w.heap.size, 3, none⟩ = some (.int .i64 kind) ∧ w'.cell? ⟨w.heap.size, 4, none⟩ = some (.int .i64 ot) ∧ w'.cell? ⟨w.heap.size, 5, none⟩ = some (.int .i64 on) ∧ w'.cell? ⟨w.heap.size, 6, none⟩ = some (.int .i64 pt) ∧ w'.cell? ⟨w.heap.size, 7, none⟩ = some (.int .i64 pn) ∧ w'.cell? ⟨w.heap.size, 8, none⟩ = some (.string name) ∧ w'.cell? ⟨w.heap.size, 9, none⟩ = some (.slice da data.length dc) ∧ w'.cell? ⟨w.heap.size, 10, none⟩ = some (s)) ∧ OMid w w.heap.size #[.int .i64 time, .int .i64 node, .int .i64 seq, .int .i64 kind, .int .i64 ot, .int .i64 on, .int .i64 pt, .int .i64 pn, .string name, .slice da data.length dc, s] w') ((refine om_S ?_; first | (with_reducible assumption) | exact OM3.out | exact OM3.out.drew | exact OMid.drew (And.right (by assumption)) | exact And.right (by assumption))) (first | (go_at_call 75; (with_reducible refine (opsRoot _).mono ?_); rintro e w9 ⟨rfl, hb⟩; have g9 := OMid.below (by first | assumption | exact OM3.out.drew | exact And.right (by assumption)) hb; clear hb) | (go_at_call 76; (with_reducible refine (KE.out _ _ _).mono ?_); rintro e w9 ⟨rfl, hb⟩; have g9 := OMid.below (by first | assumption | exact OM3.out.drew | exact And.right (by assumption)) hb; clear hb))
              go_wp2
              go_meet
              exact ⟨by rw [HP1.out], by first | assumption | exact And.right (by assumption)⟩
          case rest =>
            obtain ⟨rfl, hOM⟩ := hcut
            clear OM3
            have OM3 := Lib.hid hOM
            clear hOM
            obtain ⟨w4, rfl⟩ : ∃ w4, w4 = wc := ⟨_, rfl⟩
            obtain ⟨pb, hpb⟩ : ∃ pb, parB O = pb := ⟨_, rfl⟩
            obtain ⟨nb, hnb⟩ : ∃ nb, namedB O = nb := ⟨_, rfl⟩
            have HK : Hid (mayB O = if kind = 1 ∨ kind = 2 then decide (ot = time ∧ on = node) && pb && nb
              else if kind = 3 then earlyB ot on time node && (pb || decide (pt = 0 ∧ pn = 1)) && nb
              else if kind = 4 then earlyB ot on time node && decide (pt = 0 ∧ pn = 0) && decide (name.data.toList = []) && decide (data.length ≤ 65536)
              else false) := Lib.hid (by rw [HM2.out, ← hpb, ← hnb, HO.out]; rfl)
            rw [hpb, hnb]
            clear hpb hnb HM2
            have hws := OM3.out.bel.size
            have hwl := OM3.out.blk.lt
            have c_0 : w4.cell? ⟨w.heap.size, 0, none⟩ = some (.int .i64 time) := (OM3.out.blk).cell (o := 0) rfl
            have c_1 : w4.cell? ⟨w.heap.size, 1, none⟩ = some (.int .i64 node) := (OM3.out.blk).cell (o := 1) rfl
            have c_2 : w4.cell? ⟨w.heap.size, 2, none⟩ = some (.int .i64 seq) := (OM3.out.blk).cell (o := 2) rfl
            have c_3 : w4.cell? ⟨w.heap.size, 3, none⟩ = some (.int .i64 kind) := (OM3.out.blk).cell (o := 3) rfl
            have c_4 : w4.cell? ⟨w.heap.size, 4, none⟩ = some (.int .i64 ot) := (OM3.out.blk).cell (o := 4) rfl
            have c_5 : w4.cell? ⟨w.heap.size, 5, none⟩ = some (.int .i64 on) := (OM3.out.blk).cell (o := 5) rfl
            have c_6 : w4.cell? ⟨w.heap.size, 6, none⟩ = some (.int .i64 pt) := (OM3.out.blk).cell (o := 6) rfl
            have c_7 : w4.cell? ⟨w.heap.size, 7, none⟩ = some (.int .i64 pn) := (OM3.out.blk).cell (o := 7) rfl
            have c_8 : w4.cell? ⟨w.heap.size, 8, none⟩ = some (.string name) := (OM3.out.blk).cell (o := 8) rfl
            have c_9 : w4.cell? ⟨w.heap.size, 9, none⟩ = some (.slice da data.length dc) := (OM3.out.blk).cell (o := 9) rfl
            have c_10 : w4.cell? ⟨w.heap.size, 10, none⟩ = some (s) := (OM3.out.blk).cell (o := 10) rfl
            by_cases hk1 : kind = 1 ∨ kind = 2
            · have HK1 : Hid (mayB O = (decide (ot = time ∧ on = node) && pb && nb)) := Lib.hid (by rw [HK.out, if_pos hk1])
              clear HK
              have hE : ∀ w, (binOp .eql 44 (.agg #[.int .i64 ot, .int .i64 on]) (.agg #[.int .i64 time, .int .i64 node])).run Tryz.prog w = .ok (.bool (decide (ot = time ∧ on = node))) w := fun w => by rw [eqID, Bool.decide_and]
              generalize decide (ot = time ∧ on = node) = eb at *
              rcases hk1 with rfl | rfl
              all_goals
                cases eb
                all_goals
                  cases pb
                  all_goals
                    go_wp2
                    go_ret
                    exact ⟨ret_b (by rw [← HO.out, HK1.out]; rfl), OM3.out.bel⟩
            · have k1 : (kind == 1) = false := beq_eq_false_iff_ne.2 (fun e => hk1 (.inl e))
              have k2 : (kind == 2) = false := beq_eq_false_iff_ne.2 (fun e => hk1 (.inr e))
              have hk3 : ¬ kind = 3 := HKK.out
              have k3 : (kind == 3) = false := beq_eq_false_iff_ne.2 hk3
              by_cases hk4 : kind = 4
              · have HK4 : Hid (mayB O = (earlyB ot on time node && decide (pt = 0 ∧ pn = 0) && decide (name.data.toList = []) && decide (data.length ≤ 65536))) := Lib.hid (by rw [HK.out, if_neg hk1, if_neg hk3, if_pos hk4])
                subst hk4
                clear HK hk1 hk3 k1 k2 k3
                have KE3 := Lib.hid (KE.out ot on)
                have hE : ∀ w, (binOp .eql 44 (.agg #[.int .i64 pt, .int .i64 pn]) (.agg #[.int .i64 0, .int .i64 0])).run Tryz.prog w = .ok (.bool (decide (pt = 0 ∧ pn = 0))) w := fun w => by rw [eqID, Bool.decide_and]
                generalize earlyB ot on time node = be at *
                generalize decide (pt = 0 ∧ pn = 0) = tb at *
                go_wp2_with fail
                refine (KE3.out _).mono ?_
                rintro e w5 ⟨rfl, hb5⟩
                clear c_0 c_1 c_2 c_3 c_4 c_5 c_6 c_7 c_8 c_9 c_10
                have OM5 := Lib.hid (OM3.out.below hb5)
                clear hb5
                have c_6 : w5.cell? ⟨w.heap.size, 6, none⟩ = some (.int .i64 pt) := OM5.out.blk.cell (o := 6) rfl
                have c_7 : w5.cell? ⟨w.heap.size, 7, none⟩ = some (.int .i64 pn) := OM5.out.blk.cell (o := 7) rfl
                have c_8 : w5.cell? ⟨w.heap.size, 8, none⟩ = some (.string name) := OM5.out.blk.cell (o := 8) rfl
                have c_9 : w5.cell? ⟨w.heap.size, 9, none⟩ = some (.slice da data.length dc) := OM5.out.blk.cell (o := 9) rfl
                cases be
                · go_wp2
                  go_ret
                  exact ⟨ret_b (by rw [← HO.out, HK4.out]; rfl), OM5.out.bel⟩
                · cases tb
                  · go_wp2
                    go_ret
                    exact ⟨ret_b (by rw [← HO.out, HK4.out]; rfl), OM5.out.bel⟩
                  · have e1 := Lib.hid (Lib.toList_data name)
                    by_cases hne : name.toList = []
                    · have hne2 : name.toList.isEmpty = true := by simpa using hne
                      have HK5 : Hid (mayB O = decide (data.length ≤ 65536)) := Lib.hid (by rw [HK4.out, ← e1.out, decide_eq_true hne]; rfl)
                      clear hne HK4
                      go_wp2
                      go_ret
                      exact ⟨ret_b (by rw [← HO.out, HK5.out]; first | rfl | exact decide_eq_decide.2 (by omega)), OM5.out.bel⟩
                    · have hne2 : name.toList.isEmpty = false := by simpa using hne
                      have HK5 : Hid (mayB O = false) := Lib.hid (by rw [HK4.out, ← e1.out, decide_eq_false hne]; rfl)
                      clear HK4
                      go_wp2
                      go_ret
                      exact ⟨ret_b (by rw [← HO.out, HK5.out]), OM5.out.bel⟩
              · have k4 : (kind == 4) = false := beq_eq_false_iff_ne.2 hk4
                have HK4 : Hid (mayB O = false) := Lib.hid (by rw [HK.out, if_neg hk1, if_neg hk3, if_neg hk4])
                clear HK hk1 hk3 hk4
                go_wp2
                go_ret
                exact ⟨ret_b (by rw [← HO.out, HK4.out]), OM3.out.bel⟩
    · have HQ : Hid (mayB O = false) := Lib.hid (by rw [HM.out]; simp; intros; omega)
      by_cases hq1 : seq < 1
      · clear hq
        go_wp2
        go_ret
        exact ⟨ret_b (by rw [← HO.out, HQ.out]), OM1.out.bel⟩
      · have hq2 : 1152921504606846976 < seq := by omega
        clear hq
        go_wp2
        go_ret
        exact ⟨ret_b (by rw [← HO.out, HQ.out]), OM1.out.bel⟩
end Go.Proofs.YthbalmoafpggdaaGreat

/- The reference's table of descriptors: Is, Open, Len. -/
import Derived.Test.YtfcddpbpfckjfaaChecked
import Derived.WalkKit
import Derived.Outline
import Derived.WalkSpells
import Derived.WalkLawsBesides
import Derived.Deep.QuietTactic
import Derived.Deep.RegionWith
import Derived.Deep.DeepMust
import Derived.BigQuiet
import Derived.Test.YtfcddpbpfckjfaaMem
import Derived.RegionTactic
import Derived.ChangeAlike
import Derived.StillTailTactics
import Derived.BigRegion
import Derived.BigGuardPart
import Derived.Deep.RegionHeld3
import Derived.Deep.RegionLaw
import Derived.Test.YtfcddpbpfckjfaaFg6
namespace Go.Proofs.Ytfcddpbpfckjfaa
open Go.RowKit
set_option linter.unusedVariables false
set_option linter.unusedSimpArgs false
def refC (f : Fil) : List Value := [.bool f.op, .int .i64 f.time, .int .i64 f.node, .int .i64 f.flags, .int .i64 f.at_]
def rrow (rs : List Fil) : List Value := rs.flatMap refC
theorem rrow_at : ∀ (fs : List Fil) (k j : Nat), k < fs.length → j < 5 → (rrow fs)[k * 5 + j]? = (refC (fs.getD k zFil))[j]?
  | f :: fs, 0, j, _, hj => by
    rw [rrow, List.flatMap_cons, List.getElem?_append_left (by simp [refC]; omega)]
    simp
  | f :: fs, k + 1, j, hk, hj => by
    have := rrow_at fs k j (by simpa using hk) hj
    rw [rrow, List.flatMap_cons, List.getElem?_append_right (by simp [refC]; omega)]
    rw [show (k + 1) * 5 + j - (refC f).length = k * 5 + j by simp [refC]; omega]
    exact this
theorem rset5 (x : Fil) (l : List Value) (j : Nat) (a : Value) : (refC x ++ l).set (j + 5) a = refC x ++ l.set j a := by simp [refC]
theorem rrow_put : ∀ (fs : List Fil) (k : Nat) (f : Fil), k < fs.length → rrow (fs.set k f) = (((((rrow fs).set (k * 5) (.bool f.op)).set (k * 5 + 1) (.int .i64 f.time)).set (k * 5 + 2) (.int .i64 f.node)).set (k * 5 + 3) (.int .i64 f.flags)).set (k * 5 + 4) (.int .i64 f.at_)
  | x :: fs, 0, f, _ => by simp [rrow, refC]
  | x :: fs, k + 1, f, h => by
    have ih := rrow_put fs k f (by simpa using h)
    unfold rrow at ih
    rw [List.set_cons_succ, rrow, List.flatMap_cons, rrow, List.flatMap_cons, ih, show (k + 1) * 5 = k * 5 + 5 by omega, show k * 5 + 5 + 1 = k * 5 + 1 + 5 by omega, show k * 5 + 5 + 2 = k * 5 + 2 + 5 by omega, show k * 5 + 5 + 3 = k * 5 + 3 + 5 by omega, show k * 5 + 5 + 4 = k * 5 + 4 + 5 by omega, rset5, rset5, rset5, rset5, rset5]
theorem rrow_op : ∀ (fs : List Fil) (k : Nat) (o : Bool), k < fs.length → rrow (fs.set k {fs.getD k zFil with op := o}) = (rrow fs).set (k * 5) (.bool o)
  | x :: fs, 0, o, _ => by simp [rrow, refC]
  | x :: fs, k + 1, o, h => by
    have ih := rrow_op fs k o (by simpa using h)
    unfold rrow at ih
    rw [List.set_cons_succ, rrow, List.flatMap_cons, rrow, List.flatMap_cons, List.getD_cons_succ, ih, show (k + 1) * 5 = k * 5 + 5 by omega, rset5]
theorem rrow_at4 : ∀ (fs : List Fil) (k : Nat) (n : Int), k < fs.length → rrow (fs.set k {fs.getD k zFil with at_ := n}) = (rrow fs).set (k * 5 + 4) (.int .i64 n)
  | x :: fs, 0, o, _ => by simp [rrow, refC]
  | x :: fs, k + 1, o, h => by
    have ih := rrow_at4 fs k o (by simpa using h)
    unfold rrow at ih
    rw [List.set_cons_succ, rrow, List.flatMap_cons, rrow, List.flatMap_cons, List.getD_cons_succ, ih, show (k + 1) * 5 + 4 = k * 5 + 4 + 5 by omega, rset5]
structure RTab (w : World) (q : Nat) (rs : List Fil) : Prop where
  blk : Blk w q (rrow rs).toArray 41
  len : rs.length = 32
theorem RTab.below {w w' : World} {q : Nat} {rs : List Fil} (h : RTab w q rs) (g : Below w.heap.size w w') : RTab w' q rs := ⟨blkBelow g h.blk h.blk.lt, h.len⟩
theorem RTab.chg {S : Nat → Prop} {w w' : World} {q : Nat} {rs : List Fil} (h : RTab w q rs) (g : Chg S w w') (hn : ¬ S q) : RTab w' q rs := ⟨g.blk h.blk hn, h.len⟩
theorem RTab.cells {w : World} {q : Nat} {rs : List Fil} (h : RTab w q rs) (k : Nat) (hk : k < 32) :
    w.cell? ⟨q, k * 5, none⟩ = some (.bool (rs.getD k zFil).op) ∧ w.cell? ⟨q, k * 5 + 1, none⟩ = some (.int .i64 (rs.getD k zFil).time) ∧ w.cell? ⟨q, k * 5 + 2, none⟩ = some (.int .i64 (rs.getD k zFil).node) ∧ w.cell? ⟨q, k * 5 + 3, none⟩ = some (.int .i64 (rs.getD k zFil).flags) ∧ w.cell? ⟨q, k * 5 + 4, none⟩ = some (.int .i64 (rs.getD k zFil).at_) := by
  have hl := h.len
  have K : ∀ j u, j < 5 → (refC (rs.getD k zFil))[j]? = some u → (rrow rs).toArray[k * 5 + j]? = some u := by
    intro j u hj hu
    rw [List.getElem?_toArray, rrow_at rs k j (by omega) hj]
    exact hu
  exact ⟨h.blk.cell (K 0 _ (by omega) rfl), h.blk.cell (K 1 _ (by omega) rfl), h.blk.cell (K 2 _ (by omega) rfl), h.blk.cell (K 3 _ (by omega) rfl), h.blk.cell (K 4 _ (by omega) rfl)⟩
def rOpB (rs : List Fil) (fd : Int) : Bool := decide (0 ≤ fd ∧ fd < 32) && (rs.getD fd.toNat zFil).op
theorem rIs (q : Nat) (rs : List Fil) (fd : Int) (w : World) (h : RTab w q rs) (hb : -9223372036854775808 ≤ fd ∧ fd ≤ 9223372036854775807) : Calls Try.prog 19 #[.pointer (some ⟨q, 0, none⟩), .int .i64 fd] w fun e w' => e = .returned (.bool (rOpB rs fd)) ∧ Drw w w' := by
  obtain ⟨b1, b2⟩ := hb
  have hz := h.blk.lt
  by_cases h0 : 0 ≤ fd
  · by_cases h1 : fd < 32
    · obtain ⟨k, rfl⟩ := Int.eq_ofNat_of_zero_le h0
      have e : rOpB rs k = (rs.getD k zFil).op := by
        unfold rOpB
        rw [decide_eq_true (by omega)]
        simp
      obtain ⟨c0, _⟩ := h.cells k (by omega)
      rw [e]
      generalize (rs.getD k zFil).op = o at *
      clear h
      go_enter Try.func19, Try.ntmps19
      go_wp2
      go_ret
      exact ⟨rfl, 0, rfl⟩
    · have e : rOpB rs fd = false := by unfold rOpB; rw [decide_eq_false (by omega)]; rfl
      rw [e]
      clear h
      go_enter Try.func19, Try.ntmps19
      go_wp2
      go_ret
      exact ⟨rfl, 0, rfl⟩
  · have e : rOpB rs fd = false := by unfold rOpB; rw [decide_eq_false (by omega)]; rfl
    rw [e]
    have h1 : fd < 0 := by omega
    clear h
    go_enter Try.func19, Try.ntmps19
    go_wp2
    go_ret
    exact ⟨rfl, 0, rfl⟩
theorem take_count (rs : List Fil) (k : Nat) (hk : k < rs.length) : (rs.take (k + 1)).countP (·.op) = (rs.take k).countP (·.op) + (if (rs.getD k zFil).op then 1 else 0) := by
  rw [List.take_succ_eq_append_getElem hk, List.countP_append]
  simp [hk]
theorem rLen (q : Nat) (rs : List Fil) (w : World) (h : RTab w q rs) : Calls Try.prog 23 #[.pointer (some ⟨q, 0, none⟩)] w fun e w' => e = .returned (.int .i64 (rs.countP (·.op))) ∧ Drw w w' := by
  have hz := h.blk.lt
  have H := Lib.hid h
  clear h
  go_enter Try.func23, Try.ntmps23
  go_wp2
  go_loop [3, 4] (fun n i => ∃ k : Nat, ∃ m : Nat, k ≤ 32 ∧ m ≤ k ∧ i = .int .i64 k ∧ n = .int .i64 m ∧ Hid (m = (rs.take k).countP (·.op))) (fun _ i => 32 - (intOf i).toNat)
  case atStart => exact ⟨0, 0, by omega, by omega, rfl, rfl, Lib.hid (by simp)⟩
  case round =>
    obtain ⟨k, m, hk, hm, rfl, rfl, HM⟩ := hrel
    by_cases hlt : k < 32
    · obtain ⟨c0, _⟩ := H.out.cells k hlt
      have HT := Lib.hid (take_count rs k (by have := H.out.len; omega))
      have n0 : (0 : Int) ≤ k := by omega
      have n1 : (k : Int) < 32 := by omega
      cases ho : (rs.getD k zFil).op
      · have HO := Lib.hid ho
        rw [ho] at c0
        clear ho
        go_wp2
        go_round
        case rel => exact ⟨k + 1, m, by omega, by omega, by go_num, rfl, Lib.hid (by rw [HT.out, HO.out, ← HM.out]; simp)⟩
        case measure => simp [intOf]; omega
      · have HO := Lib.hid ho
        rw [ho] at c0
        clear ho
        go_wp2
        go_round
        case rel => exact ⟨k + 1, m + 1, by omega, by omega, by go_num, by go_num, Lib.hid (by rw [HT.out, HO.out, ← HM.out]; simp)⟩
        case measure => simp [intOf]; omega
    · obtain rfl : k = 32 := by omega
      go_wp2
      go_ret
      exact ⟨by rw [HM.out, List.take_of_length_le (by have := H.out.len; omega)]; rfl, 0, rfl⟩
def ROpen (q : Nat) (rs' : List Fil) (k r : Int) (w : World) (e : Ending) (w' : World) : Prop := e = .returned (.tuple #[.int .i64 k, .int .i64 r]) ∧ RTab w' q rs' ∧ ∀ S : Nat → Prop, S q → Chg S w w'
theorem RTab.put {w : World} {q : Nat} {rs : List Fil} (h : RTab w q rs) (k : Nat) (hk : k < 32) (f : Fil) : RTab (((((w.setCell ⟨q, k * 5, none⟩ (.bool f.op)).setCell ⟨q, k * 5 + 1, none⟩ (.int .i64 f.time)).setCell ⟨q, k * 5 + 2, none⟩ (.int .i64 f.node)).setCell ⟨q, k * 5 + 3, none⟩ (.int .i64 f.flags)).setCell ⟨q, k * 5 + 4, none⟩ (.int .i64 f.at_)) q (rs.set k f) := by
  have hl := h.len
  refine ⟨?_, by simpa using hl⟩
  have B5 := ((((h.blk.set (k * 5) (.bool f.op)).set (k * 5 + 1) (.int .i64 f.time)).set (k * 5 + 2) (.int .i64 f.node)).set (k * 5 + 3) (.int .i64 f.flags)).set (k * 5 + 4) (.int .i64 f.at_)
  rw [rrow_put rs k f (by omega)]
  simpa using B5
theorem RTab.setOp {w : World} {q : Nat} {rs : List Fil} (h : RTab w q rs) (k : Nat) (hk : k < 32) (o : Bool) : RTab (w.setCell ⟨q, k * 5, none⟩ (.bool o)) q (rs.set k {rs.getD k zFil with op := o}) := by
  have hl := h.len
  refine ⟨?_, by simpa using hl⟩
  have B5 := h.blk.set (k * 5) (.bool o)
  rw [rrow_op rs k o (by omega)]
  simpa using B5
theorem RTab.setAt {w : World} {q : Nat} {rs : List Fil} (h : RTab w q rs) (k : Nat) (hk : k < 32) (n : Int) : RTab (w.setCell ⟨q, k * 5 + 4, none⟩ (.int .i64 n)) q (rs.set k {rs.getD k zFil with at_ := n}) := by
  have hl := h.len
  refine ⟨?_, by simpa using hl⟩
  have B5 := h.blk.set (k * 5 + 4) (.int .i64 n)
  rw [rrow_at4 rs k n (by omega)]
  simpa using B5
theorem RTab.drew {w : World} {q : Nat} {rs : List Fil} (h : RTab w q rs) : RTab w.drew q rs := ⟨h.blk, h.len⟩
theorem ropen_end {w : World} {q : Nat} {rs : List Fil} {o : Obj} (h : RTab w q rs) (k : Nat) (hk : k < 32) (t n fl : Int) :
    RTab ((((((w.setCell ⟨q, k * 5, none⟩ (.bool true)).setCell ⟨q, k * 5 + 1, none⟩ (.int .i64 t)).setCell ⟨q, k * 5 + 2, none⟩ (.int .i64 n)).setCell ⟨q, k * 5 + 3, none⟩ (.int .i64 fl)).setCell ⟨q, k * 5 + 4, none⟩ (.int .i64 0)).alloc o).drew q (rs.set k ⟨t, n, fl, 0, true⟩) ∧
    ∀ S : Nat → Prop, S q → Chg S w ((((((w.setCell ⟨q, k * 5, none⟩ (.bool true)).setCell ⟨q, k * 5 + 1, none⟩ (.int .i64 t)).setCell ⟨q, k * 5 + 2, none⟩ (.int .i64 n)).setCell ⟨q, k * 5 + 3, none⟩ (.int .i64 fl)).setCell ⟨q, k * 5 + 4, none⟩ (.int .i64 0)).alloc o).drew := by
  have h2 := h.put k hk ⟨t, n, fl, 0, true⟩
  have c1 := fun (S : Nat → Prop) (hS : S q) => chg_put5' (w := w) hS (a0 := k * 5) (a1 := k * 5 + 1) (a2 := k * 5 + 2) (a3 := k * 5 + 3) (a4 := k * 5 + 4) (u0 := .bool true) (u1 := .int .i64 t) (u2 := .int .i64 n) (u3 := .int .i64 fl) (u4 := .int .i64 0)
  generalize ((((w.setCell ⟨q, k * 5, none⟩ (.bool true)).setCell ⟨q, k * 5 + 1, none⟩ (.int .i64 t)).setCell ⟨q, k * 5 + 2, none⟩ (.int .i64 n)).setCell ⟨q, k * 5 + 3, none⟩ (.int .i64 fl)).setCell ⟨q, k * 5 + 4, none⟩ (.int .i64 0) = w5 at *
  exact ⟨(h2.below ((Below.refl _ _).alloc (Nat.le_refl _) _)).drew, fun S hS => (Chg.alloc (c1 S hS) _).drew⟩
set_option maxRecDepth 100000 in
theorem rOpenAt (q : Nat) (rs : List Fil) (t n fl : Int) (k : Nat) (w : World) (h : RTab w q rs) (hk : k < 32) (ho : ∀ i, i < k → (rs.getD i zFil).op = true) (hc : (rs.getD k zFil).op = false) : Calls Try.prog 20 #[.pointer (some ⟨q, 0, none⟩), .agg #[.int .i64 t, .int .i64 n], .int .i64 fl] w (ROpen q (rs.set k ⟨t, n, fl, 0, true⟩) k 0 w) := by
  have hz := h.blk.lt
  have H := Lib.hid h
  have HO := Lib.hid ho
  have HC := Lib.hid hc
  clear h ho hc
  go_enter Try.func20, Try.ntmps20
  go_wp2
  go_loop [8] (fun i => ∃ j : Nat, j ≤ k ∧ i = .int .i64 j) (fun i => 32 - (intOf i).toNat)
  case atStart => exact ⟨0, by omega, rfl⟩
  case round =>
    obtain ⟨j, hj, rfl⟩ := hrel
    have n0 : (0 : Int) ≤ j := by omega
    have n1 : (j : Int) < 32 := by omega
    obtain ⟨c0, _⟩ := H.out.cells j (by omega)
    by_cases hlt : j < k
    · rw [HO.out j hlt] at c0
      have hj32 : j < 32 := by omega
      go_wp2
      go_round
      case rel => exact ⟨j + 1, by omega, by go_num⟩
      case measure => simp [intOf]; omega
    · obtain rfl : k = j := by omega
      rw [HC.out] at c0
      obtain ⟨_, c1, c2, c3, c4⟩ := H.out.cells k (by omega)
      have kf0 := H.out.blk.free (k * 5)
      have kf1 := H.out.blk.free (k * 5 + 1)
      have kf2 := H.out.blk.free (k * 5 + 2)
      have kf3 := H.out.blk.free (k * 5 + 3)
      have kf4 := H.out.blk.free (k * 5 + 4)
      go_wp2_with fail
      go_region
      all_goals go_wp2
      all_goals go_ret2
      all_goals exact ⟨rfl, ropen_end H.out k hk t n fl⟩
set_option maxRecDepth 100000 in
theorem rOpenFull (q : Nat) (rs : List Fil) (t n fl : Int) (w : World) (h : RTab w q rs) (ho : ∀ i, i < 32 → (rs.getD i zFil).op = true) : Calls Try.prog 20 #[.pointer (some ⟨q, 0, none⟩), .agg #[.int .i64 t, .int .i64 n], .int .i64 fl] w (ROpen q rs 0 23 w) := by
  have hz := h.blk.lt
  have H := Lib.hid h
  have HO := Lib.hid ho
  clear h ho
  go_enter Try.func20, Try.ntmps20
  go_wp2
  go_loop [8] (fun i => ∃ j : Nat, j ≤ 32 ∧ i = .int .i64 j) (fun i => 32 - (intOf i).toNat)
  case atStart => exact ⟨0, by omega, rfl⟩
  case round =>
    obtain ⟨j, hj, rfl⟩ := hrel
    by_cases hlt : j < 32
    · have n0 : (0 : Int) ≤ j := by omega
      have n1 : (j : Int) < 32 := by omega
      obtain ⟨c0, _⟩ := H.out.cells j (by omega)
      rw [HO.out j hlt] at c0
      go_wp2
      go_round
      case rel => exact ⟨j + 1, by omega, by go_num⟩
      case measure => simp [intOf]; omega
    · obtain rfl : j = 32 := by omega
      go_wp2
      go_ret2
      exact ⟨rfl, H.out.below ((Below.refl _ _).alloc (Nat.le_refl _) _), fun S hS => Chg.alloc (Chg.refl S w) _⟩
end Go.Proofs.Ytfcddpbpfckjfaa

/- merge.Sorted: lists go into the queue. -/
import Derived.Test.YthbalmoafpggdaaChecked
import Derived.WalkKit
import Derived.Outline
import Derived.WalkSpells
import Derived.WalkLawsBesides
import Derived.Deep.QuietTactic
import Derived.Deep.RegionWith
import Derived.Deep.DeepMust
import Derived.BigQuiet
import Derived.Test.YthbalmoafpggdaaMem
import Derived.RegionTactic
import Derived.ChangeAlike
import Derived.StillTailTactics
import Derived.BigRegion
import Derived.Deep.RegionHeld3
import Derived.Deep.RegionLaw
import Derived.Deep.AppendLies
import Derived.Deep.DeepCutAuto
import Derived.Deep.CutBlock
import Derived.Test.YthbalmoafpggdaaMq4
namespace Go.Proofs.Ythbalmoafpggdaa
open Go.RowKit
set_option linter.unusedVariables false
set_option linter.unusedSimpArgs false
structure P3 where
  time : Int
  node : Int
  mark : Int
def p3C (p : P3) : List Value := [.int .i64 p.time, .int .i64 p.node, .int .i64 0, .int .i64 p.mark, .int .i64 0, .int .i64 0, .int .i64 0, .int .i64 0, .string ByteArray.empty, .slice none 0 0, .slice none 0 0]
structure PcAt (w : World) (g o : Nat) (p : P3) : Prop where
  c0 : w.cell? ⟨g, o, none⟩ = some (.int .i64 p.time)
  c1 : w.cell? ⟨g, o + 1, none⟩ = some (.int .i64 p.node)
  c2 : w.cell? ⟨g, o + 2, none⟩ = some (.int .i64 0)
  c3 : w.cell? ⟨g, o + 3, none⟩ = some (.int .i64 p.mark)
  c4 : w.cell? ⟨g, o + 4, none⟩ = some (.int .i64 0)
  c5 : w.cell? ⟨g, o + 5, none⟩ = some (.int .i64 0)
  c6 : w.cell? ⟨g, o + 6, none⟩ = some (.int .i64 0)
  c7 : w.cell? ⟨g, o + 7, none⟩ = some (.int .i64 0)
  c8 : w.cell? ⟨g, o + 8, none⟩ = some (.string ByteArray.empty)
  c9 : w.cell? ⟨g, o + 9, none⟩ = some (.slice none 0 0)
  c10 : w.cell? ⟨g, o + 10, none⟩ = some (.slice none 0 0)
def OpsRd (w : World) (v : Value) (ps : List P3) : Prop := ∃ a c, v = .slice a ps.length c ∧ ps.length ≤ c ∧ c ≤ maxLen ∧ (ps = [] ∨ ∃ g o, a = some ⟨g, o, none⟩ ∧ ∀ i p, ps[i]? = some p → PcAt w g (o + i * 11) p)
theorem PcAt.of_cells {w w' : World} {g o : Nat} {p : P3} (h : PcAt w g o p) (hc : ∀ a u, w.cell? a = some u → w'.cell? a = some u) : PcAt w' g o p := ⟨hc _ _ h.c0, hc _ _ h.c1, hc _ _ h.c2, hc _ _ h.c3, hc _ _ h.c4, hc _ _ h.c5, hc _ _ h.c6, hc _ _ h.c7, hc _ _ h.c8, hc _ _ h.c9, hc _ _ h.c10⟩
theorem OpsRd.below {w w' : World} {v : Value} {ps : List P3} (h : OpsRd w v ps) (hb : Below w.heap.size w w') : OpsRd w' v ps := by
  obtain ⟨a, c, h1, h2, h3, h4⟩ := h
  refine ⟨a, c, h1, h2, h3, ?_⟩
  rcases h4 with h4 | ⟨g, o, h4, h5⟩
  · exact .inl h4
  · exact .inr ⟨g, o, h4, fun i p hp => (h5 i p hp).of_cells (below_cell hb)⟩
def LstRd (w : World) (v : Value) (ls : List (List P3)) : Prop := ∃ a c, v = .slice a ls.length c ∧ ls.length ≤ c ∧ c ≤ maxLen ∧ (ls = [] ∨ ∃ g o, a = some ⟨g, o, none⟩ ∧ ∀ i l, ls[i]? = some l → ∃ u, w.cell? ⟨g, o + i, none⟩ = some u ∧ OpsRd w u l)
theorem LstRd.below {w w' : World} {v : Value} {ls : List (List P3)} (h : LstRd w v ls) (hb : Below w.heap.size w w') : LstRd w' v ls := by
  obtain ⟨a, c, h1, h2, h3, h4⟩ := h
  refine ⟨a, c, h1, h2, h3, ?_⟩
  rcases h4 with h4 | ⟨g, o, h4, h5⟩
  · exact .inl h4
  · refine .inr ⟨g, o, h4, fun i l hl => ?_⟩
    obtain ⟨u, h6, h7⟩ := h5 i l hl
    exact ⟨u, below_cell hb _ _ h6, h7.below hb⟩
/-- The operations as items, by when they came. -/
def num : Nat → List P3 → List Mit
  | _, [] => []
  | n, p :: ps => ⟨p.time, p.node, p.mark, ((n + 1 : Nat) : Int)⟩ :: num (n + 1) ps
theorem num_len : ∀ (ps : List P3) (n : Nat), (num n ps).length = ps.length
  | [], _ => rfl
  | p :: ps, n => by simp [num, num_len ps]
theorem num_snoc : ∀ (ps : List P3) (n : Nat) (p : P3), num n (ps ++ [p]) = num n ps ++ [⟨p.time, p.node, p.mark, ((n + ps.length + 1 : Nat) : Int)⟩]
  | [], n, p => by simp [num]
  | q :: ps, n, p => by
    have := num_snoc ps (n + 1) p
    simp only [List.cons_append, num, this, List.length_cons, List.cons.injEq, true_and]
    congr 3
    omega
structure SSt (back : Bool) (F : Value) (w : World) (b : Nat) (done : List P3) (wr : World) : Prop where
  q : ∃ v xs, QAt wr b F done.length v xs ∧ Hq.IsHeap (mlt back) xs xs.size ∧ xs.toList.Perm (num 0 done)
  bel : Below w.heap.size w wr
theorem SSt.below {back : Bool} {F : Value} {w wr w' : World} {b : Nat} {done : List P3} (h : SSt back F w b done wr) (g : Below wr.heap.size wr w') : SSt back F w b done w' := by
  obtain ⟨v, xs, h1, h2⟩ := h.q
  exact ⟨⟨v, xs, h1.below g, h2⟩, h.bel.trans (g.mono h.bel.size)⟩
def SPush (back : Bool) (F : Value) (w : World) (b : Nat) (done : List P3) (wr : World) (e : Ending) (w' : World) : Prop := e = .returned (.tuple #[]) ∧ SSt back F w b done w' ∧ Below b wr w'
theorem sPush {back : Bool} {F : Value} (hF : LessOk back F) {w wr : World} {b : Nat} {done : List P3} (hb : w.heap.size ≤ b) (h : SSt back F w b done wr) (hz : done.length ≤ 900) (p : P3) :
    Calls Try.prog 33 #[.pointer (some ⟨b, 0, none⟩), .agg #[.int .i64 p.time, .int .i64 p.node, .int .i64 0, .int .i64 p.mark, .int .i64 0, .int .i64 0, .int .i64 0, .int .i64 0, .string ByteArray.empty, .slice none 0 0, .slice none 0 0]] wr (SPush back F w b (done ++ [p]) wr) := by
  obtain ⟨v, xs, h1, h2, h3⟩ := h.q
  have hl : xs.size = done.length := by have := h3.length_eq; rw [num_len] at this; simpa using this
  refine (qPush hF b done.length v xs p.time p.node p.mark wr h1 h2 (by omega) (by omega) (by omega)).mono ?_
  rintro e w' ⟨he, v', ys, k1, k2, k3, k4, k5⟩
  have hB : Below b wr w' := k5.below (Nat.le_of_lt h1.blk.lt) (fun i hi e => by have := h1.sle e; omega)
  refine ⟨he, ⟨⟨v', ys, ?_, k4, ?_⟩, ?_⟩, hB⟩
  · have e : (done.length : Int) + 1 = ((done ++ [p]).length : Int) := by simp
    rw [← e]; exact k1
  · refine k3.trans ?_
    rw [num_snoc, Array.toList_push, show ((0 + done.length + 1 : Nat) : Int) = (done.length : Int) + 1 by omega]
    exact List.Perm.append_right _ h3
  · exact h.bel.trans (k5.below h.bel.size (fun i hi e => by have := h1.sle e; omega))
set_option maxRecDepth 100000 in
theorem atC (t n m : Int) (w : World) : Calls Try.prog 26 #[.agg #[.int .i64 t, .int .i64 n], .int .i64 m] w fun e w' => e = .returned (.agg #[.int .i64 t, .int .i64 n, .int .i64 0, .int .i64 m, .int .i64 0, .int .i64 0, .int .i64 0, .int .i64 0, .string ByteArray.empty, .slice none 0 0, .slice none 0 0]) ∧ Below w.heap.size w w' := by
  go_enter Try.func26, Try.ntmps26
  go_wp2
  exact bodyPost_ret (v := .agg #[.int .i64 t, .int .i64 n, .int .i64 0, .int .i64 m, .int .i64 0, .int .i64 0, .int .i64 0, .int .i64 0, .string ByteArray.empty, .slice none 0 0, .slice none 0 0]) (by simp [results, Try.results26, go_sem] <;> rfl) rfl ⟨rfl, by (repeat first | exact Below.refl _ _ | refine Below.drew ?_ | refine Below.alloc ?_ (by simp <;> omega) _ | refine Below.setCell ?_ (by simp) _)⟩
theorem OpsRd.shape {w : World} {v : Value} {ps : List P3} (h : OpsRd w v ps) : ∃ a c, v = .slice a ps.length c ∧ ps.length ≤ c ∧ c ≤ 9223372036854775807 := by
  obtain ⟨a, c, h1, h2, h3, _⟩ := h
  exact ⟨a, c, h1, h2, by unfold maxLen at h3; omega⟩
end Go.Proofs.Ythbalmoafpggdaa

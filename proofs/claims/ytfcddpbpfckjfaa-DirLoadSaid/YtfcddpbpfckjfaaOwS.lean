/- A byte of a row of the call's own is turned. -/
import Derived.Test.YtfcddpbpfckjfaaChecked
import Derived.WalkKit
import Derived.Outline
import Derived.WalkSpells
import Derived.WalkLawsBesides
import Derived.Deep.QuietTactic
import Derived.Deep.RegionWith
import Derived.Deep.DeepMust
import Derived.BigQuiet
import Derived.Laws.BitsAllLaws
import Derived.Test.YtfcddpbpfckjfaaCln
namespace Go.Proofs.Ytfcddpbpfckjfaa
open Go.RowKit
set_option linter.unusedVariables false
set_option linter.unusedSimpArgs false
theorem own_store {w : World} {B n : Nat} {v : Value} {l : List Int} (h : w.ownsRow B 5 1 v n (l.map u8v)) (i : Nat) (hi : i < l.length) : ∃ g c, v = .slice (some ⟨g, 0, none⟩) l.length c ∧ l.length ≤ c ∧ c ≤ maxLen ∧ B ≤ g ∧ g < w.heap.size ∧ w.cell? ⟨g, i, none⟩ = some (.int .u8 (l.getD i 0)) ∧ w.frozen? ⟨g, i, none⟩ = false ∧
    ∀ y, Rdv u8v (w.setCell ⟨g, i, none⟩ (.int .u8 y)) (.slice (some ⟨g, 0, none⟩) l.length c) (l.set i y) := by
  have hr := Rdv.of_owns h
  have hn : n = l.length := by have := h.1; simp at this; omega
  subst hn
  rcases h.2 with ⟨_, h0⟩ | ⟨g, c, cur, rfl, hB, hh, h1, h2, h3, h4⟩
  · omega
  have hb : Blk w g cur 5 := hh
  obtain ⟨a', c', e, _, _, h5⟩ := hr
  rw [Value.slice.injEq] at e
  obtain ⟨rfl, _, rfl⟩ := e
  rcases h5 with rfl | ⟨b', o', e, h5⟩
  · simp at hi
  injection e with e
  injection e with e1 e2
  subst e1; subst e2
  refine ⟨g, c, rfl, h1, h2, hB, hb.lt, by have := h5 i hi; rw [Nat.zero_add] at this; exact this, hb.free i, fun y => ⟨_, _, by simp, by simpa using h1, h2, .inr ⟨g, 0, rfl, fun j hj => ?_⟩⟩⟩
  simp at hj
  have hj' := h5 j hj
  rw [Nat.zero_add] at hj' ⊢
  by_cases hij : i = j
  · subst hij
    rw [show (l.set i y).getD i 0 = y from by simp [List.getD_eq_getElem?_getD, hj]]
    exact (hb.set i (.int .u8 y)).cell (by rw [Array.getElem?_setIfInBounds, if_pos rfl, if_pos (by omega)])
  · rw [World.cell?_setCell_other _ _ _ _ (by intro e; injection e with _ e _; omega), hj']
    simp [List.getD_eq_getElem?_getD, hij]

theorem xor_byt (a b : Nat) (ha : a < 256) (hb : b < 256) : ∃ c : Nat, bits .xor .u8 (a : Int) (b : Int) = c ∧ c < 256 :=
  ⟨a ^^^ b, u8_xor_nat a b ha hb, Nat.xor_lt_two_pow (n := 8) ha hb⟩
theorem Byt.set {l : List Int} (h : Byt l) (i : Nat) (y : Nat) (hy : y < 256) : Byt (l.set i y) := by
  intro q hq
  rcases List.mem_or_eq_of_mem_set hq with h' | h'
  · exact h q h'
  · omega
theorem own_store2 {w : World} {B n : Nat} {v : Value} {l : List Int} (h : w.ownsRow B 5 1 v n (l.map u8v)) (i : Nat) (hi : i < l.length) : ∃ g c, v = .slice (some ⟨g, 0, none⟩) l.length c ∧ l.length ≤ c ∧ c ≤ maxLen ∧ B ≤ g ∧ g < w.heap.size ∧ w.cell? ⟨g, i, none⟩ = some (.int .u8 (l.getD i 0)) ∧ w.frozen? ⟨g, i, none⟩ = false ∧
    ∀ y, (w.setCell ⟨g, i, none⟩ (.int .u8 y)).ownsRow B 5 1 (.slice (some ⟨g, 0, none⟩) l.length c) l.length ((l.set i y).map u8v) := by
  obtain ⟨g, c, rfl, h1, h2, h3, h4, h5, h6, _⟩ := own_store h i hi
  refine ⟨g, c, rfl, h1, h2, h3, h4, h5, h6, fun y => ?_⟩
  obtain ⟨e1, e2⟩ := h
  have hn : n = l.length := by simp at e1; omega
  subst hn
  refine ⟨by simp, ?_⟩
  rcases e2 with ⟨e, _⟩ | ⟨g', cap, cur, e, hg, hh, hn, hc, hs, ht⟩
  · rw [Value.slice.injEq] at e; cases e.1
  · rw [Value.slice.injEq] at e
    obtain ⟨e1, _, rfl⟩ := e
    injection e1 with e1
    injection e1 with e1 _
    subst e1
    have hb : Blk w g cur 5 := hh
    refine .inr ⟨g, c, cur.setIfInBounds i (.int .u8 y), rfl, hg, hb.set i _, hn, hc, by simpa using hs, ?_⟩
    rw [Array.toList_setIfInBounds, List.take_set, ht, List.map_set]
end Go.Proofs.Ytfcddpbpfckjfaa

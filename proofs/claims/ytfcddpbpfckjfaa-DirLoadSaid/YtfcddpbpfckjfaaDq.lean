/- A directory of names: its bytes, in plain words. -/
import Derived.Test.YtfcddpbpfckjfaaChecked
import Derived.WalkKit
import Derived.Outline
import Derived.WalkSpells
import Derived.WalkLawsBesides
import Derived.Deep.QuietTactic
import Derived.Deep.RegionWith
import Derived.Deep.DeepMust
import Derived.BigQuiet
import Derived.Test.YtfcddpbpfckjfaaDp
namespace Go.Proofs.Ytfcddpbpfckjfaa
open Go.RowKit
set_option linter.unusedVariables false
set_option linter.unusedSimpArgs false
def padB (x : List Int) : List Int := x ++ List.replicate (512 - x.length) 0
def rowsB (L : List Ent) : Nat := (L.length + 3) / 4
def fillB (L : List Ent) (k : Nat) : List (List Int) := (L.take k).foldl putB (List.replicate (rowsB L) [])
def dirB (L : List Ent) : List Int := ((fillB L L.length).map padB).flatten
structure InvB (m : Nat) (xss : List (List Int)) (k : Nat) : Prop where
  len : xss.length = m
  each : ∀ i, i < m → (xss.getD i []).length ≤ 512
  sum : (xss.map List.length).sum ≤ 69 * k
theorem sum_ge (c : Nat) : ∀ (xss : List (List Int)), (∀ i, i < xss.length → c ≤ (xss.getD i []).length) → c * xss.length ≤ (xss.map List.length).sum
  | [], _ => by simp
  | x :: r, h => by
    have h0 := h 0 (by simp)
    have ih := sum_ge c r (fun i hi => by simpa using h (i + 1) (by simpa using hi))
    simp only [List.map_cons, List.sum_cons, List.length_cons, Nat.mul_add, Nat.mul_one]
    simp at h0
    omega
theorem sum_set : ∀ (xss : List (List Int)) (i : Nat) (y : List Int), i < xss.length → ((xss.set i y).map List.length).sum + (xss.getD i []).length = (xss.map List.length).sum + y.length
  | [], _, _, h => by simp at h
  | x :: r, 0, y, _ => by simp; omega
  | x :: r, i + 1, y, h => by
    have ih := sum_set r i y (by simpa using h)
    simp only [List.set_cons_succ, List.map_cons, List.sum_cons, List.getD_cons_succ]
    omega
theorem InvB.room {m k n : Nat} {xss : List (List Int)} (h : InvB m xss k) (hn : n ≤ 69) (hk : k < 4 * m) : RoomB xss n := by
  apply Classical.byContradiction
  intro hc
  have h2 : 444 * xss.length ≤ (xss.map List.length).sum := sum_ge 444 xss fun i hi => by
    apply Classical.byContradiction
    intro h3
    exact hc ⟨i, hi, by unfold fitB; rw [decide_eq_true_eq]; omega⟩
  have := h.len
  have := h.sum
  omega
theorem slot_lt {xss : List (List Int)} (n : Nat) {i0 : Nat} (h : 0 < xss.length) : slotB xss n i0 < xss.length := goB_lt h _ _
theorem InvB.put {m k : Nat} {xss : List (List Int)} (h : InvB m xss k) (p : Ent) (hp : p.1.size ≤ 64) (hk : k < 4 * m) : InvB m (putB xss p) (k + 1) := by
  have hl := h.len
  have hm : 0 < xss.length := by omega
  have hr := h.room (n := (entB p).length) (by rw [entB_len]; omega) hk
  have hd := dist_spec (i0 := crcOf (strL p.1) % xss.length) hr (Nat.mod_lt _ hm)
  have hs : slotB xss (entB p).length (crcOf (strL p.1) % xss.length) < xss.length := slot_lt _ hm
  unfold putB
  simp only
  generalize slotB xss (entB p).length (crcOf (strL p.1) % xss.length) = t at *
  have hf := hd.2.1
  unfold fitB at hf
  rw [decide_eq_true_eq] at hf
  refine ⟨by simp [hl], fun i hi => ?_, ?_⟩
  · simp only [List.getD_eq_getElem?_getD, List.getElem?_set] at hf ⊢
    by_cases e : t = i
    · subst e
      simp only [if_true, hs, Option.getD_some, List.length_append]
      omega
    · rw [if_neg e]
      have := h.each i hi
      rw [List.getD_eq_getElem?_getD] at this
      exact this
  · have h1 := sum_set xss t (xss.getD t [] ++ entB p) hs
    rw [List.length_append, entB_len] at h1
    have := h.sum
    omega
theorem inv_fill {L : List Ent} (h : OkL L) : ∀ k, k ≤ L.length → InvB (rowsB L) (fillB L k) k
  | 0, _ => by
    unfold fillB
    refine ⟨by simp, fun i hi => ?_, ?_⟩
    · simp [List.getD_eq_getElem?_getD, hi]
    · simp
  | k + 1, hk => by
    have ih := inv_fill h k (by omega)
    have e : fillB L (k + 1) = putB (fillB L k) L[k] := by
      unfold fillB
      rw [List.take_succ_eq_append_getElem (by omega), List.foldl_append]
      rfl
    rw [e]
    exact ih.put _ (h.size (List.getElem_mem _)).2 (by unfold rowsB; omega)
theorem fill_succ (L : List Ent) (k : Nat) (hk : k < L.length) : fillB L (k + 1) = putB (fillB L k) L[k] := by
  unfold fillB
  rw [List.take_succ_eq_append_getElem (by omega), List.foldl_append]
  rfl
theorem pad_len {x : List Int} (h : x.length ≤ 512) : (padB x).length = 512 := by unfold padB; simp; omega
theorem flat_len (xss : List (List Int)) (h : ∀ x ∈ xss, x.length ≤ 512) : ((xss.map padB).flatten).length = 512 * xss.length := by
  induction xss with
  | nil => rfl
  | cons x r ih =>
    rw [List.map_cons, List.flatten_cons, List.length_append, pad_len (h x List.mem_cons_self), ih fun y hy => h y (List.mem_cons_of_mem _ hy), List.length_cons]
    omega
end Go.Proofs.Ytfcddpbpfckjfaa

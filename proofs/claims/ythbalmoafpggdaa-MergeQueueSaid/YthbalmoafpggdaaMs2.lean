/- MergeSorted, the lists are built. -/
import Derived.Test.YthbalmoafpggdaaChecked
import Derived.WalkKit
import Derived.Outline
import Derived.WalkSpells
import Derived.WalkLawsBesides
import Derived.Deep.QuietTactic
import Derived.Deep.RegionWith
import Derived.Deep.DeepMust
import Derived.BigQuiet
import Derived.Test.YthbalmoafpggdaaMem
import Derived.RegionTactic
import Derived.ChangeAlike
import Derived.StillTailTactics
import Derived.BigRegion
import Derived.Deep.RegionHeld3
import Derived.Deep.RegionLaw
import Derived.Deep.AppendLies
import Derived.Deep.DeepCutAuto
import Derived.Deep.CutBlock
import Derived.IntWalk
import Derived.Test.YthbalmoafpggdaaMs
namespace Go.Proofs.Ythbalmoafpggdaa
open Go.RowKit
set_option linter.unusedVariables false
set_option linter.unusedSimpArgs false
theorem own_T {w w' : World} {B e e' s s' n m : Nat} {v v' : Value} {xs ys : List Value} {B' : Nat} (h : w.ownsRow B e s v n xs) (h' : w.ownsRow B' e' s' v' m ys) (hne : e ≠ e') (hg : w.grownBy w' v'.ownBlock) : w'.ownsRow B e s v n xs := by
  refine ownsRow_chg (S := fun k => v'.ownBlock = some k) h ((Chg.refl _ _).grown hg (fun k e _ => e)) (fun k e1 e2 => ?_)
  obtain ⟨_, c1, h1⟩ := own_type h e1
  obtain ⟨_, c2, h2⟩ := own_type h' e2
  exact hne (type_ne h1 h2)
theorem own_N {w w' : World} {B e s n : Nat} {v v' : Value} {xs : List Value} (h : w.ownsRow B e s v n xs) (hne : v.ownBlock = none ∨ v.ownBlock ≠ v'.ownBlock) (hg : w.grownBy w' v'.ownBlock) : w'.ownsRow B e s v n xs := by
  refine ownsRow_chg (S := fun k => v'.ownBlock = some k) h ((Chg.refl _ _).grown hg (fun k e _ => e)) (fun k e1 e2 => ?_)
  rcases hne with hne | hne
  · rw [hne] at e1; cases e1
  · exact hne (by rw [e1, e2])
/-- The list of lists has grown by one, the row of all not yet. -/
structure BMid (w : World) (ls : List (List Iid)) (i : Nat) (s4 s5 s7 : Value) (us : List Value) (ps : List P3) (wr : World) : Prop where
  l : wr.ownsRow w.heap.size 55 1 s4 (us.length + 1) (us ++ [s7])
  all : wr.ownsRow w.heap.size 58 11 s5 (allk ls i).length (prow (allk ls i))
  len : us.length = (rowsk ls i).length
  each : ∀ (j : Nat) (u : Value), us[j]? = some u → ∃ ps, (rowsk ls i)[j]? = some ps ∧ wr.ownsRow w.heap.size 58 11 u ps.length (prow ps) ∧ (u.ownBlock = none ∨ u.ownBlock ≠ s5.ownBlock)
  m : wr.ownsRow w.heap.size 58 11 s7 ps.length (prow ps)
  sep : s7.ownBlock = none ∨ s7.ownBlock ≠ s5.ownBlock
  bel : Below w.heap.size w wr
theorem bst_l {w wr w2 : World} {ls : List (List Iid)} {i Bm : Nat} {s4 s4' s5 s7 : Value} {us : List Value} {ps : List P3} (h : BSt w ls i s4 s5 us wr) (hm : wr.ownsRow Bm 58 11 s7 ps.length (prow ps)) (hB : w.heap.size ≤ Bm) (hs : ∀ g, s5.ownBlock = some g → g < Bm)
    (hg : wr.grownBy w2 s4.ownBlock) (ho : w2.ownsRow w.heap.size 55 1 s4' (us.length + 1) (us ++ [s7])) : BMid w ls i s4' s5 s7 us ps w2 := by
  refine ⟨ho, own_T h.all h.l (by decide) hg, h.len, fun j u hu => ?_, own_mono (own_T hm h.l (by decide) hg) hB, ?_, h.bel.grown hg h.bel.size (fun k e => (own_type h.l e).1)⟩
  · obtain ⟨q, h1, h2, h3⟩ := h.each j u hu
    exact ⟨q, h1, own_T h2 h.l (by decide) hg, h3⟩
  · cases e : s7.ownBlock with
    | none => exact .inl rfl
    | some g =>
      right
      intro e2
      have h1 := (own_type hm e).1
      have h2 := hs g e2.symm
      omega
theorem bst_each {w w' : World} {ls : List (List Iid)} {i : Nat} {l : List Iid} {us : List Value} {s7 s5' : Value} {ps : List P3} (hl : ls[i]? = some l) (hps : ps = rowk i l (min 20 l.length)) (hlen : us.length = (rowsk ls i).length)
    (h1 : ∀ (j : Nat) (u : Value), us[j]? = some u → ∃ ps, (rowsk ls i)[j]? = some ps ∧ w'.ownsRow w.heap.size 58 11 u ps.length (prow ps) ∧ (u.ownBlock = none ∨ u.ownBlock ≠ s5'.ownBlock))
    (h2 : w'.ownsRow w.heap.size 58 11 s7 ps.length (prow ps) ∧ (s7.ownBlock = none ∨ s7.ownBlock ≠ s5'.ownBlock)) :
    ∀ (j : Nat) (u : Value), (us ++ [s7])[j]? = some u → ∃ ps, (rowsk ls (i + 1))[j]? = some ps ∧ w'.ownsRow w.heap.size 58 11 u ps.length (prow ps) ∧ (u.ownBlock = none ∨ u.ownBlock ≠ s5'.ownBlock) := by
  intro j u hu
  rw [rowsk_succ ls i l hl, ← hps]
  rcases Nat.lt_or_ge j us.length with hj | hj
  · rw [List.getElem?_append_left hj] at hu
    obtain ⟨q, k1, k2⟩ := h1 j u hu
    exact ⟨q, by rw [List.getElem?_append_left (by omega)]; exact k1, k2⟩
  · rw [List.getElem?_append_right hj] at hu
    have hj2 : j = us.length := by
      rcases Nat.eq_or_lt_of_le hj with e | e
      · exact e.symm
      · rw [List.getElem?_eq_none (by simp; omega)] at hu; cases hu
    subst hj2
    simp at hu
    subst hu
    exact ⟨ps, by rw [List.getElem?_append_right (by omega), hlen]; simp, h2⟩
theorem bst_none {w wr : World} {ls : List (List Iid)} {i : Nat} {l : List Iid} {s4 s5 s7 : Value} {us : List Value} {ps : List P3} (hl : ls[i]? = some l) (hps : ps = rowk i l (min 20 l.length)) (h : BMid w ls i s4 s5 s7 us ps wr) (h0 : ps = []) : BSt w ls (i + 1) s4 s5 (us ++ [s7]) wr := by
  have e : allk ls (i + 1) = (allk ls i) := by unfold allk; rw [rowsk_succ ls i l hl, ← hps, h0]; simp
  refine ⟨by have := h.l; simpa using this, by rw [e]; exact h.all, ?_, bst_each hl hps h.len h.each ⟨h.m, h.sep⟩, h.bel⟩
  rw [rowsk_succ ls i l hl]
  simp [h.len]
theorem bst_some {w wr w' : World} {ls : List (List Iid)} {i g c : Nat} {l : List Iid} {s4 s5 s7 : Value} {us : List Value} {ps : List P3} (hl : ls[i]? = some l) (hps : ps = rowk i l (min 20 l.length)) (h : BMid w ls i s4 s5 s7 us ps wr)
    (hg : wr.grownBy w' s5.ownBlock) (ha : s5.ownBlock = some g ∨ g = wr.heap.size) (ho : w'.ownsRow w.heap.size 58 11 (.slice (some ⟨g, 0, none⟩) ((allk ls i).length + ps.length) c) ((allk ls i).length + ps.length) (prow (allk ls i) ++ prow ps)) :
    BSt w ls (i + 1) s4 (.slice (some ⟨g, 0, none⟩) ((allk ls i).length + ps.length) c) (us ++ [s7]) w' := by
  have e : allk ls (i + 1) = (allk ls i) ++ ps := by unfold allk; rw [rowsk_succ ls i l hl, ← hps]; simp
  have key : ∀ (u : Value) (n : Nat) (xs : List Value), wr.ownsRow w.heap.size 58 11 u n xs → (u.ownBlock = none ∨ u.ownBlock ≠ s5.ownBlock) → w'.ownsRow w.heap.size 58 11 u n xs ∧ (u.ownBlock = none ∨ u.ownBlock ≠ (Value.slice (some ⟨g, 0, none⟩) ((allk ls i).length + ps.length) c).ownBlock) := by
    intro u n xs h1 h2
    refine ⟨own_N h1 h2 hg, ?_⟩
    rcases h2 with h2 | h2
    · exact .inl h2
    · right
      intro e2
      have e3 : u.ownBlock = some g := e2
      rcases ha with ha | ha
      · exact h2 (by rw [e3, ha])
      · have := own_lt h1 e3
        omega
  refine ⟨by have := own_T h.l h.all (by decide) hg; simpa using this, by rw [e, prow_app, List.length_append]; exact ho, ?_, bst_each hl hps h.len (fun j u hu => ?_) (key _ _ _ h.m h.sep), h.bel.grown hg h.bel.size (fun k e => (own_type h.all e).1)⟩
  · rw [rowsk_succ ls i l hl]
    simp [h.len]
  · obtain ⟨q, k1, k2, k3⟩ := h.each j u hu
    obtain ⟨k4, k5⟩ := key _ _ _ k2 k3
    exact ⟨q, k1, k4, k5⟩
end Go.Proofs.Ythbalmoafpggdaa

/- MergeQueue's truths, as an argument reads. -/
import Derived.Test.YthbalmoafpggdaaChecked
import Derived.WalkKit
import Derived.Outline
import Derived.WalkSpells
import Derived.WalkLawsBesides
import Derived.Deep.QuietTactic
import Derived.Deep.RegionWith
import Derived.Deep.DeepMust
import Derived.BigQuiet
import Derived.Test.YthbalmoafpggdaaMem
import Derived.RegionTactic
import Derived.ChangeAlike
import Derived.StillTailTactics
import Derived.Test.YthbalmoafpggdaaFrS
import Derived.Test.YthbalmoafpggdaaMx2
namespace Go.Proofs.Ythbalmoafpggdaa
open Go.RowKit Go.ChangeShapes Go.WideShapes Go.Deep
set_option linter.unusedVariables false
set_option linter.unusedSimpArgs false
section
variable {H : Type} {enc : TypeId × Value → H} {w : World}
set_option maxRecDepth 100000 in
theorem bools_of_trod {fuel : Nat} {c : Value} {x : DataW H × List MemPlace} (h : DataW.trod enc Try.prog w 0 (fun _ => true) true fuel 64 [c] = some x) : ∃ bs : List Bool, BoolsRd w c bs := by
  have hC : Try.prog.cellsOf 4 = 1 := by kernel_rfl
  rcases open_slice Try.underlying64 h with ⟨hcs, _⟩ | ⟨ad, l, c, m, n, D, Pl, hcs, _, hl, hm, hmm, _, hi⟩
  · simp at hcs
    subst hcs
    exact ⟨[], none, 0, rfl, Nat.le_refl _, Nat.zero_le _, fun i q hq => by simp at hq⟩
  · simp at hcs
    subst hcs
    rw [hC] at hi
    have hml : l ≤ m := by rw [hmm]; simpa using hl
    have key : ∀ i, i < l → ∃ q : Bool, w.cell? (ad.add i) = some (.bool q) := by
      intro i hil
      obtain ⟨cs', hc, ht⟩ := hi i (by omega)
      obtain ⟨_, hcl, hat⟩ := World.cells?_some hc
      match cs', hcl with
      | [c0], _ =>
        obtain ⟨q, e, _⟩ := DataW.trod_bool Try.underlying4 ht
        have := hat 0 (by omega)
        rw [Nat.mul_one] at this
        have e0 : (ad.add i).add 0 = ad.add i := by unfold Addr.add; simp
        rw [e0] at this
        exact ⟨q, by rw [this]; simpa using e⟩
    have hex : ∃ f : Nat → Bool, ∀ i, i < l → w.cell? (ad.add i) = some (.bool (f i)) := by
      refine ⟨fun i => if h : i < l then (key i h).choose else false, fun i h => ?_⟩
      simp only [h, dite_true]
      exact (key i h).choose_spec
    obtain ⟨f, hf⟩ := hex
    refine ⟨(List.range l).map f, some ad, c, by simp, by simpa using hl, hm, fun i q hq => ?_⟩
    have hil : i < l := by
      rcases Nat.lt_or_ge i l with h | h
      · exact h
      · rw [List.getElem?_eq_none (by simpa using h)] at hq; cases hq
    have hqf : q = f i := by
      rw [List.getElem?_map, List.getElem?_range hil] at hq
      injection hq with hq
      exact hq.symm
    subst hqf
    have hu := hf i hil
    obtain ⟨b, o, sp⟩ := ad
    have hsp : sp = none := by
      have h0 := hf 0 (by omega)
      have e0 : (⟨b, o, sp⟩ : Addr).add 0 = ⟨b, o, sp⟩ := by unfold Addr.add; simp
      rw [e0] at h0
      exact plain_of h0
    subst hsp
    rw [addr_add] at hu
    exact ⟨b, o, rfl, hu⟩
end
end Go.Proofs.Ythbalmoafpggdaa

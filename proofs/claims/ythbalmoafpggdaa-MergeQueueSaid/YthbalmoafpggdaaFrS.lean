/- MergeSorted's lists, as an argument reads. -/
import Derived.Test.YthbalmoafpggdaaChecked
import Derived.WalkKit
import Derived.Outline
import Derived.WalkSpells
import Derived.WalkLawsBesides
import Derived.Deep.QuietTactic
import Derived.Deep.RegionWith
import Derived.Deep.DeepMust
import Derived.BigQuiet
import Derived.Test.YthbalmoafpggdaaMem
import Derived.RegionTactic
import Derived.ChangeAlike
import Derived.StillTailTactics
import Derived.Deep.Slices
import Derived.ChangeSame
import Derived.OpenShut
import Derived.Test.YthbalmoafpggdaaFr
import Derived.Test.YthbalmoafpggdaaMs3
namespace Go.Proofs.Ythbalmoafpggdaa
open Go.RowKit Go.ChangeShapes Go.WideShapes Go.Deep
set_option linter.unusedVariables false
set_option linter.unusedSimpArgs false
section
variable {H : Type} {enc : TypeId × Value → H} {w : World}
set_option maxRecDepth 100000 in
theorem iid_of_trod {fuel : Nat} {cs : List Value} {x : DataW H × List MemPlace} (h : DataW.trod enc Try.prog w 0 (fun _ => true) true fuel 45 cs = some x) : ∃ q : Iid, cs = [.int .i64 q.time, .int .i64 q.node] := by
  obtain ⟨xs, n, _, _, hl, hxl, hf⟩ := DataW.trod_struct Try.underlying45 h
  have hC : Try.prog.cellsOf 45 = 2 := by kernel_rfl
  have k3 : Try.prog.cellsOf 3 = 1 := by kernel_rfl
  have k2 : Try.prog.cellsOf 2 = 1 := by kernel_rfl
  rw [hC] at hl
  match cs, hl with
  | [c0, c1], _ =>
    match xs, hxl with
    | [y0, y1], _ =>
      have g0 : DataW.trod enc Try.prog w 0 (fun _ => true) true n 2 [c0] = some y0 := by have := hf 0 _ rfl; simpa [k2] using this
      have g1 : DataW.trod enc Try.prog w 0 (fun _ => true) true n 3 [c1] = some y1 := by have := hf 1 _ rfl; simpa [k3] using this
      obtain ⟨t, e3, _, _⟩ := DataW.trod_int Try.underlying2 g0
      obtain ⟨nd, e4, _, _⟩ := DataW.trod_int Try.underlying3 g1
      simp only [List.cons.injEq, and_true] at e3 e4
      subst e3 e4
      exact ⟨⟨t, nd⟩, rfl⟩
theorem plain_of {w : World} {b o : Nat} {sp} {v : Value} (h : w.cell? ⟨b, o, sp⟩ = some v) : sp = none := World.cell?_spot h
set_option maxRecDepth 100000 in
theorem ids_of_trod {fuel : Nat} {c : Value} {x : DataW H × List MemPlace} (h : DataW.trod enc Try.prog w 0 (fun _ => true) true fuel 56 [c] = some x) : ∃ ids : List Iid, IdsRd w c ids := by
  have hC : Try.prog.cellsOf 45 = 2 := by kernel_rfl
  rcases open_slice Try.underlying56 h with ⟨hcs, _⟩ | ⟨ad, l, c, m, n, D, Pl, hcs, _, hl, hm, hmm, _, hi⟩
  · simp at hcs
    subst hcs
    exact ⟨[], none, 0, rfl, Nat.le_refl _, Nat.zero_le _, fun i q hq => by simp at hq⟩
  · simp at hcs
    subst hcs
    rw [hC] at hi
    have hml : l ≤ m := by rw [hmm]; simpa using hl
    have key : ∀ i, i < l → ∃ q : Iid, ∀ j u, ([.int .i64 q.time, .int .i64 q.node] : List Value)[j]? = some u → w.cell? ((ad.add (i * 2)).add j) = some u := by
      intro i hil
      obtain ⟨cs', hc, ht⟩ := hi i (by omega)
      obtain ⟨q, hq⟩ := iid_of_trod ht
      obtain ⟨_, hcl, hat⟩ := World.cells?_some hc
      refine ⟨q, fun j u hu => ?_⟩
      rw [← hq] at hu
      have hj : j < 2 := by
        rcases Nat.lt_or_ge j 2 with h | h
        · exact h
        · rw [List.getElem?_eq_none (by omega)] at hu; cases hu
      rw [hat j hj, hu]
    have hex : ∃ f : Nat → Iid, ∀ i, i < l → ∀ j u, ([.int .i64 (f i).time, .int .i64 (f i).node] : List Value)[j]? = some u → w.cell? ((ad.add (i * 2)).add j) = some u := by
      refine ⟨fun i => if h : i < l then (key i h).choose else ⟨0, 0⟩, fun i h => ?_⟩
      simp only [h, dite_true]
      exact (key i h).choose_spec
    obtain ⟨f, hf⟩ := hex
    refine ⟨(List.range l).map f, some ad, c, by simp, by simpa using hl, hm, fun i q hq => ?_⟩
    have hil : i < l := by
      rcases Nat.lt_or_ge i l with h | h
      · exact h
      · rw [List.getElem?_eq_none (by simpa using h)] at hq; cases hq
    have hqf : q = f i := by
      rw [List.getElem?_map, List.getElem?_range hil] at hq
      injection hq with hq
      exact hq.symm
    subst hqf
    have hcell := hf i hil
    obtain ⟨b, o, sp⟩ := ad
    have hsp : sp = none := by
      have c00 := hf 0 (by omega) 0 _ rfl
      have e0 : ((⟨b, o, sp⟩ : Addr).add (0 * 2)).add 0 = ⟨b, o, sp⟩ := by unfold Addr.add; simp
      rw [e0] at c00
      exact plain_of c00
    subst hsp
    refine ⟨b, o, rfl, ?_, ?_⟩
    · have := hcell 0 _ rfl
      rw [addr_add, addr_add] at this
      exact this
    · have := hcell 1 _ rfl
      rw [addr_add, addr_add] at this
      exact this
set_option maxRecDepth 100000 in
theorem lids_of_trod {fuel : Nat} {c : Value} {x : DataW H × List MemPlace} (h : DataW.trod enc Try.prog w 0 (fun _ => true) true fuel 53 [c] = some x) : ∃ ls : List (List Iid), LidRd w c ls := by
  have hC : Try.prog.cellsOf 56 = 1 := by kernel_rfl
  rcases open_slice Try.underlying53 h with ⟨hcs, _⟩ | ⟨ad, l, c, m, n, D, Pl, hcs, _, hl, hm, hmm, _, hi⟩
  · simp at hcs
    subst hcs
    exact ⟨[], none, 0, rfl, Nat.le_refl _, Nat.zero_le _, fun i q hq => by simp at hq⟩
  · simp at hcs
    subst hcs
    rw [hC] at hi
    have hml : l ≤ m := by rw [hmm]; simpa using hl
    have key : ∀ i, i < l → ∃ q : List Iid, ∃ u, w.cell? (ad.add i) = some u ∧ IdsRd w u q := by
      intro i hil
      obtain ⟨cs', hc, ht⟩ := hi i (by omega)
      obtain ⟨_, hcl, hat⟩ := World.cells?_some hc
      match cs', hcl with
      | [c0], _ =>
        obtain ⟨q, hq⟩ := ids_of_trod ht
        refine ⟨q, c0, ?_, hq⟩
        have := hat 0 (by omega)
        rw [Nat.mul_one] at this
        have e0 : (ad.add i).add 0 = ad.add i := by unfold Addr.add; simp
        rw [e0] at this
        simpa using this
    have hex : ∃ f : Nat → List Iid, ∀ i, i < l → ∃ u, w.cell? (ad.add i) = some u ∧ IdsRd w u (f i) := by
      refine ⟨fun i => if h : i < l then (key i h).choose else [], fun i h => ?_⟩
      simp only [h, dite_true]
      exact (key i h).choose_spec
    obtain ⟨f, hf⟩ := hex
    refine ⟨(List.range l).map f, some ad, c, by simp, by simpa using hl, hm, fun i q hq => ?_⟩
    have hil : i < l := by
      rcases Nat.lt_or_ge i l with h | h
      · exact h
      · rw [List.getElem?_eq_none (by simpa using h)] at hq; cases hq
    have hqf : q = f i := by
      rw [List.getElem?_map, List.getElem?_range hil] at hq
      injection hq with hq
      exact hq.symm
    subst hqf
    obtain ⟨u, hu, hids⟩ := hf i hil
    obtain ⟨b, o, sp⟩ := ad
    have hsp : sp = none := by
      obtain ⟨u0, h0, _⟩ := hf 0 (by omega)
      have e0 : (⟨b, o, sp⟩ : Addr).add 0 = ⟨b, o, sp⟩ := by unfold Addr.add; simp
      rw [e0] at h0
      exact plain_of h0
    subst hsp
    rw [addr_add] at hu
    exact ⟨b, o, u, rfl, hu, hids⟩
end
end Go.Proofs.Ythbalmoafpggdaa

/- CodecWrite's items, as an argument reads. -/
import Derived.Test.YthbalmoafpggdaaChecked
import Derived.WalkKit
import Derived.Outline
import Derived.WalkSpells
import Derived.WalkLawsBesides
import Derived.Deep.QuietTactic
import Derived.Deep.RegionWith
import Derived.Deep.DeepMust
import Derived.BigQuiet
import Derived.Test.YthbalmoafpggdaaMem
import Derived.RegionTactic
import Derived.ChangeAlike
import Derived.StillTailTactics
import Derived.Deep.Slices
import Derived.ChangeSame
import Derived.OpenShut
import Derived.Test.YthbalmoafpggdaaFr
import Derived.Test.YthbalmoafpggdaaCdW
namespace Go.Proofs.Ythbalmoafpggdaa
open Go.RowKit Go.ChangeShapes Go.WideShapes Go.Deep
set_option linter.unusedVariables false
set_option linter.unusedSimpArgs false
section
variable {H : Type} {enc : TypeId × Value → H} {w : World}
theorem row_of_trod {ts te : TypeId} {k : IntKind} (hs : Try.prog.underlying ts = some (.slice te)) (he : Try.prog.underlying te = some (.int k)) (hc : Try.prog.cellsOf te = 1) {fuel : Nat} {c : Value} {x : DataW H × List MemPlace} (hf : DataW.trod enc Try.prog w 0 (fun _ => true) true fuel ts [c] = some x) :
    ∃ a n cap zs, c = .slice a n cap ∧ IsRow k w a n cap zs := by
  rcases open_ints hs he hc hf with ⟨hcs, _⟩ | ⟨x, l, c, zs, hcs, _, hl, hm, hz, _, hcell, hwz⟩
  · simp at hcs
    exact ⟨none, 0, 0, [], hcs, .inl ⟨rfl, rfl, rfl, rfl⟩⟩
  · simp at hcs
    exact ⟨_, _, _, zs, hcs, .inr ⟨_, rfl, hl, hm, by simpa using hz, hcell, hwz⟩⟩
theorem IsRow.lt {k : IntKind} {a : Option Addr} {len cap : Nat} {zs : List Int} (h : IsRow k w a len cap zs) : ∀ b o, a = some ⟨b, o, none⟩ → zs.take len ≠ [] → b < w.heap.size := by
  intro b o ha hne
  rcases h with ⟨rfl, _⟩ | ⟨x, rfl, h1, h2, h3, h4, h5⟩
  · cases ha
  · injection ha with ha
    subst ha
    have h0 : 0 < zs.length := by
      rcases zs with _ | ⟨z, zs⟩
      · simp at hne
      · simp
    have := h4 0 h0
    rw [addr_add] at this
    exact World.block_lt_of_cell? w _ this
set_option maxRecDepth 100000 in
theorem item_of_trod {fuel : Nat} {cs : List Value} {x : DataW H × List MemPlace} (h : DataW.trod enc Try.prog w 0 (fun _ => true) true fuel 49 cs = some x) : ∃ q : Itm, itmC q = cs ∧ ItmOk w q := by
  obtain ⟨xs, n, _, _, hl, hxl, hf⟩ := DataW.trod_struct Try.underlying49 h
  have hC : Try.prog.cellsOf 49 = 6 := by kernel_rfl
  have k3 : Try.prog.cellsOf 3 = 1 := by kernel_rfl
  have k2 : Try.prog.cellsOf 2 = 1 := by kernel_rfl
  have k24 : Try.prog.cellsOf 24 = 1 := by kernel_rfl
  have k45 : Try.prog.cellsOf 45 = 2 := by kernel_rfl
  have k47 : Try.prog.cellsOf 47 = 1 := by kernel_rfl
  have k5 : Try.prog.cellsOf 5 = 1 := by kernel_rfl
  rw [hC] at hl
  match cs, hl with
  | [c0, c1, c2, c3, c4, c5], _ =>
    match xs, hxl with
    | [x0, x1, x2, x3, x4], _ =>
      have f0 : DataW.trod enc Try.prog w 0 (fun _ => true) true n 3 [c0] = some x0 := by have := hf 0 _ rfl; simpa [k3] using this
      have f1 : DataW.trod enc Try.prog w 0 (fun _ => true) true n 2 [c1] = some x1 := by have := hf 1 _ rfl; simpa [k2] using this
      have f2 : DataW.trod enc Try.prog w 0 (fun _ => true) true n 24 [c2] = some x2 := by have := hf 2 _ rfl; simpa [k24] using this
      have f3 : DataW.trod enc Try.prog w 0 (fun _ => true) true n 45 [c3, c4] = some x3 := by have := hf 3 _ rfl; simpa [k45] using this
      have f4 : DataW.trod enc Try.prog w 0 (fun _ => true) true n 47 [c5] = some x4 := by have := hf 4 _ rfl; simpa [k47] using this
      obtain ⟨k, e0, _, _⟩ := DataW.trod_int Try.underlying3 f0
      obtain ⟨m, e1, _, wm⟩ := DataW.trod_int Try.underlying2 f1
      obtain ⟨aB, lB, cB, zB, rfl, rB⟩ := row_of_trod Try.underlying24 Try.underlying5 k5 f2
      obtain ⟨aV, lV, cV, zV, rfl, rV⟩ := row_of_trod Try.underlying47 Try.underlying2 k2 f4
      obtain ⟨ys, n2, _, _, _, hyl, hg⟩ := DataW.trod_struct Try.underlying45 f3
      match ys, hyl with
      | [y0, y1], _ =>
        have g0 : DataW.trod enc Try.prog w 0 (fun _ => true) true n2 2 [c3] = some y0 := by have := hg 0 _ rfl; simpa [k2] using this
        have g1 : DataW.trod enc Try.prog w 0 (fun _ => true) true n2 3 [c4] = some y1 := by have := hg 1 _ rfl; simpa [k3] using this
        obtain ⟨t, e3, _, _⟩ := DataW.trod_int Try.underlying2 g0
        obtain ⟨nd, e4, _, _⟩ := DataW.trod_int Try.underlying3 g1
        simp only [List.cons.injEq, and_true] at e0 e1 e3 e4
        subst e0 e1 e3 e4
        have sB := rB.rdv
        have sV := rV.rdv
        obtain ⟨lb, _, _, _⟩ := sB.cap
        obtain ⟨lv, _, _, _⟩ := sV.cap
        refine ⟨⟨k, m, zB.take lB, t, nd, zV.take lV, aB, cB, aV, cV⟩, ?_, ?_⟩
        · simp only [itmC]
          rw [← lb, ← lv]
        · refine ⟨?_, bytR rB, fun b o e hne => rB.lt b o e hne, ?_, fun b o e hne => rV.lt b o e hne, ?_⟩
          · simp only; rw [← lb]; exact sB
          · simp only; rw [← lv]; exact sV
          · have := bounds_i64 wm; simp only; omega
set_option maxRecDepth 100000 in
theorem items_of_trod {fuel : Nat} {a : Option Addr} {len cap : Nat} {x : DataW H × List MemPlace} (h : DataW.trod enc Try.prog w 0 (fun _ => true) true fuel 43 [.slice a len cap] = some x) : ∃ its : List Itm, len = its.length ∧ its.length ≤ cap ∧ cap ≤ maxLen ∧ ItemsRd w a its := by
  have hC : Try.prog.cellsOf 49 = 6 := by kernel_rfl
  rcases open_slice Try.underlying43 h with ⟨hcs, _⟩ | ⟨ad, l, c, m, n, D, Pl, hcs, _, hl, hm, hmm, _, hi⟩
  · simp at hcs
    obtain ⟨rfl, rfl, rfl⟩ := hcs
    exact ⟨[], rfl, Nat.le_refl _, Nat.zero_le _, fun i q hq => by simp at hq⟩
  · simp at hcs
    obtain ⟨rfl, rfl, rfl⟩ := hcs
    rw [hC] at hi
    have hml : len ≤ m := by rw [hmm]; simpa using hl
    have key : ∀ i, i < len → ∃ q : Itm, ItmOk w q ∧ ∀ j u, (itmC q)[j]? = some u → w.cell? ((ad.add (i * 6)).add j) = some u := by
      intro i hil
      obtain ⟨cs', hc, ht⟩ := hi i (by omega)
      obtain ⟨q, hq, hok⟩ := item_of_trod ht
      obtain ⟨_, hcl, hat⟩ := World.cells?_some hc
      refine ⟨q, hok, fun j u hu => ?_⟩
      rw [hq] at hu
      have hj : j < 6 := by
        rcases Nat.lt_or_ge j 6 with h | h
        · exact h
        · rw [List.getElem?_eq_none (by omega)] at hu; cases hu
      rw [hat j hj, hu]
    have hex : ∃ f : Nat → Itm, ∀ i, i < len → ItmOk w (f i) ∧ ∀ j u, (itmC (f i))[j]? = some u → w.cell? ((ad.add (i * 6)).add j) = some u := by
      refine ⟨fun i => if h : i < len then (key i h).choose else ⟨0, 0, [], 0, 0, [], none, 0, none, 0⟩, fun i h => ?_⟩
      simp only [h, dite_true]
      exact (key i h).choose_spec
    obtain ⟨f, hf⟩ := hex
    refine ⟨(List.range len).map f, by simp, by simpa using hl, hm, fun i q hq => ?_⟩
    have hil : i < len := by
      rcases Nat.lt_or_ge i len with h | h
      · exact h
      · rw [List.getElem?_eq_none (by simpa using h)] at hq; cases hq
    have hqf : q = f i := by
      rw [List.getElem?_map, List.getElem?_range hil] at hq
      injection hq with hq
      exact hq.symm
    subst hqf
    obtain ⟨hok, hcell⟩ := hf i hil
    have c0 := hcell 0 _ rfl
    have hp : (ad.add (i * 6)).add 0 = ad.add (i * 6) := by unfold Addr.add; simp
    rw [hp] at c0
    obtain ⟨b, o, sp⟩ := ad
    have hsp : sp = none := by
      have c00 := (hf 0 (by omega)).2 0 _ rfl
      have e0 : ((⟨b, o, sp⟩ : Addr).add (0 * 6)).add 0 = ⟨b, o, sp⟩ := by unfold Addr.add; simp
      rw [e0] at c00
      exact World.cell?_spot c00
    subst hsp
    refine ⟨hok, b, o, rfl, ?_, fun j u hu => ?_⟩
    · rw [addr_add] at c0
      exact World.block_lt_of_cell? w _ c0
    · have := hcell j u hu
      rw [addr_add, addr_add] at this
      exact this
end
end Go.Proofs.Ythbalmoafpggdaa

/- FdsAll's steps, as an argument reads. -/
import Derived.Test.YtfcddpbpfckjfaaChecked
import Derived.WalkKit
import Derived.Outline
import Derived.WalkSpells
import Derived.WalkLawsBesides
import Derived.Deep.QuietTactic
import Derived.Deep.RegionWith
import Derived.Deep.DeepMust
import Derived.BigQuiet
import Derived.Test.YtfcddpbpfckjfaaMem
import Derived.RegionTactic
import Derived.ChangeAlike
import Derived.StillTailTactics
import Derived.Deep.Slices
import Derived.ChangeSame
import Derived.OpenShut
import Derived.Test.YtfcddpbpfckjfaaFr
import Derived.Test.YtfcddpbpfckjfaaFdL
namespace Go.Proofs.Ytfcddpbpfckjfaa
open Go.RowKit Go.ChangeShapes Go.WideShapes Go.Deep
set_option linter.unusedVariables false
set_option linter.unusedSimpArgs false
section
variable {H : Type} {enc : TypeId × Value → H} {w : World}
def DopOk (q : DOp) : Prop := I64 q.kind ∧ I64 q.fd ∧ I64 q.n
theorem i64_of {n : Int} (h : (Lit.int .i64 n).wf = true) : I64 n := by
  have := bounds_i64 h
  unfold I64
  omega
set_option maxRecDepth 100000 in
theorem dop_of_trod {fuel : Nat} {cs : List Value} {x : DataW H × List MemPlace} (h : DataW.trod enc Try.prog w 0 (fun _ => true) true fuel 43 cs = some x) : ∃ q : DOp, dopC q = cs ∧ DopOk q := by
  obtain ⟨xs, n, _, _, hl, hxl, hf⟩ := DataW.trod_struct Try.underlying43 h
  have hC : Try.prog.cellsOf 43 = 5 := by kernel_rfl
  have k3 : Try.prog.cellsOf 3 = 1 := by kernel_rfl
  have k2 : Try.prog.cellsOf 2 = 1 := by kernel_rfl
  have k45 : Try.prog.cellsOf 27 = 2 := by kernel_rfl
  rw [hC] at hl
  match cs, hl with
  | [c0, c1, c2, c3, c4], _ =>
    match xs, hxl with
    | [x0, x1, x2, x3], _ =>
      have f0 : DataW.trod enc Try.prog w 0 (fun _ => true) true n 3 [c0] = some x0 := by have := hf 0 _ rfl; simpa [k3] using this
      have f1 : DataW.trod enc Try.prog w 0 (fun _ => true) true n 3 [c1] = some x1 := by have := hf 1 _ rfl; simpa [k3] using this
      have f2 : DataW.trod enc Try.prog w 0 (fun _ => true) true n 3 [c2] = some x2 := by have := hf 2 _ rfl; simpa [k3] using this
      have f3 : DataW.trod enc Try.prog w 0 (fun _ => true) true n 27 [c3, c4] = some x3 := by have := hf 3 _ rfl; simpa [k45] using this
      obtain ⟨k, e0, _, w0⟩ := DataW.trod_int Try.underlying3 f0
      obtain ⟨m, e1, _, w1⟩ := DataW.trod_int Try.underlying3 f1
      obtain ⟨m2, e2, _, w2⟩ := DataW.trod_int Try.underlying3 f2
      obtain ⟨ys, n2, _, _, _, hyl, hg⟩ := DataW.trod_struct Try.underlying27 f3
      match ys, hyl with
      | [y0, y1], _ =>
        have g0 : DataW.trod enc Try.prog w 0 (fun _ => true) true n2 2 [c3] = some y0 := by have := hg 0 _ rfl; simpa [k2] using this
        have g1 : DataW.trod enc Try.prog w 0 (fun _ => true) true n2 3 [c4] = some y1 := by have := hg 1 _ rfl; simpa [k3] using this
        obtain ⟨t, e3, _, _⟩ := DataW.trod_int Try.underlying2 g0
        obtain ⟨nd, e4, _, _⟩ := DataW.trod_int Try.underlying3 g1
        simp only [List.cons.injEq, and_true] at e0 e1 e2 e3 e4
        subst e0 e1 e2 e3 e4
        exact ⟨⟨k, m, m2, t, nd⟩, rfl, i64_of w0, i64_of w1, i64_of w2⟩
set_option maxRecDepth 100000 in
theorem dops_of_trod {fuel : Nat} {a : Option Addr} {len cap : Nat} {x : DataW H × List MemPlace} (h : DataW.trod enc Try.prog w 0 (fun _ => true) true fuel 35 [.slice a len cap] = some x) : ∃ its : List DOp, len = its.length ∧ its.length ≤ cap ∧ cap ≤ maxLen ∧ DopsRd w a its := by
  have hC : Try.prog.cellsOf 43 = 5 := by kernel_rfl
  rcases open_slice Try.underlying35 h with ⟨hcs, _⟩ | ⟨ad, l, c, m, n, D, Pl, hcs, _, hl, hm, hmm, _, hi⟩
  · simp at hcs
    obtain ⟨rfl, rfl, rfl⟩ := hcs
    exact ⟨[], rfl, Nat.le_refl _, Nat.zero_le _, fun i q hq => by simp at hq⟩
  · simp at hcs
    obtain ⟨rfl, rfl, rfl⟩ := hcs
    rw [hC] at hi
    have hml : len ≤ m := by rw [hmm]; simpa using hl
    have key : ∀ i, i < len → ∃ q : DOp, DopOk q ∧ ∀ j u, (dopC q)[j]? = some u → w.cell? ((ad.add (i * 5)).add j) = some u := by
      intro i hil
      obtain ⟨cs', hc, ht⟩ := hi i (by omega)
      obtain ⟨q, hq, hok⟩ := dop_of_trod ht
      obtain ⟨_, hcl, hat⟩ := World.cells?_some hc
      refine ⟨q, hok, fun j u hu => ?_⟩
      rw [hq] at hu
      have hj : j < 5 := by
        rcases Nat.lt_or_ge j 5 with h | h
        · exact h
        · rw [List.getElem?_eq_none (by omega)] at hu; cases hu
      rw [hat j hj, hu]
    have hex : ∃ f : Nat → DOp, ∀ i, i < len → DopOk (f i) ∧ ∀ j u, (dopC (f i))[j]? = some u → w.cell? ((ad.add (i * 5)).add j) = some u := by
      refine ⟨fun i => if h : i < len then (key i h).choose else ⟨0, 0, 0, 0, 0⟩, fun i h => ?_⟩
      simp only [h, dite_true]
      exact (key i h).choose_spec
    obtain ⟨f, hf⟩ := hex
    refine ⟨(List.range len).map f, by simp, by simpa using hl, hm, fun i q hq => ?_⟩
    have hil : i < len := by
      rcases Nat.lt_or_ge i len with h | h
      · exact h
      · rw [List.getElem?_eq_none (by simpa using h)] at hq; cases hq
    have hqf : q = f i := by
      rw [List.getElem?_map, List.getElem?_range hil] at hq
      injection hq with hq
      exact hq.symm
    subst hqf
    obtain ⟨hok, hcell⟩ := hf i hil
    have c0 := hcell 0 _ rfl
    have hp : (ad.add (i * 5)).add 0 = ad.add (i * 5) := by unfold Addr.add; simp
    rw [hp] at c0
    obtain ⟨b, o, sp⟩ := ad
    have hsp : sp = none := by
      have c00 := (hf 0 (by omega)).2 0 _ rfl
      have e0 : ((⟨b, o, sp⟩ : Addr).add (0 * 5)).add 0 = ⟨b, o, sp⟩ := by unfold Addr.add; simp
      rw [e0] at c00
      exact World.cell?_spot c00
    subst hsp
    refine ⟨hok.1, hok.2.1, hok.2.2, b, o, rfl, ?_, fun j u hu => ?_⟩
    · rw [addr_add] at c0
      exact World.block_lt_of_cell? w _ c0
    · have := hcell j u hu
      rw [addr_add, addr_add] at this
      exact this
end
end Go.Proofs.Ytfcddpbpfckjfaa

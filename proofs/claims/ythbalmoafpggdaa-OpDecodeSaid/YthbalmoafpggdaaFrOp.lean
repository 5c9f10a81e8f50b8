/- An operation, as an argument reads. -/
import Derived.Test.YthbalmoafpggdaaChecked
import Derived.WalkKit
import Derived.Outline
import Derived.WalkSpells
import Derived.WalkLawsBesides
import Derived.Deep.QuietTactic
import Derived.Deep.RegionWith
import Derived.Deep.DeepMust
import Derived.BigQuiet
import Derived.Test.YthbalmoafpggdaaMem
import Derived.RegionTactic
import Derived.ChangeAlike
import Derived.StillTailTactics
import Derived.Deep.Slices
import Derived.ChangeSame
import Derived.OpenShut
import Derived.ChangeMaps
import Derived.Test.YthbalmoafpggdaaFr
import Derived.Test.YthbalmoafpggdaaOpDl
namespace Go.Proofs.Ythbalmoafpggdaa
open Go.RowKit Go.ChangeShapes Go.WideShapes Go.Deep
set_option linter.unusedVariables false
set_option linter.unusedSimpArgs false
section
variable {H : Type} {enc : TypeId × Value → H} {w : World}
theorem row_of_trod {ts te : TypeId} {k : IntKind} (hs : Try.prog.underlying ts = some (.slice te)) (he : Try.prog.underlying te = some (.int k)) (hc : Try.prog.cellsOf te = 1) {fuel : Nat} {c : Value} {x : DataW H × List MemPlace} (hf : DataW.trod enc Try.prog w 0 (fun _ => true) true fuel ts [c] = some x) :
    ∃ a n cap zs, c = .slice a n cap ∧ IsRow k w a n cap zs := by
  rcases open_ints hs he hc hf with ⟨hcs, _⟩ | ⟨x, l, c, zs, hcs, _, hl, hm, hz, _, hcell, hwz⟩
  · simp at hcs
    exact ⟨none, 0, 0, [], hcs, .inl ⟨rfl, rfl, rfl, rfl⟩⟩
  · simp at hcs
    exact ⟨_, _, _, zs, hcs, .inr ⟨_, rfl, hl, hm, by simpa using hz, hcell, hwz⟩⟩
theorem byt_of_row9 {w : World} {a : Option Addr} {len cap : Nat} {zs : List Int} (h : IsRow .u8 w a len cap zs) : Byt (zs.take len) := fun q hq => by
  have := bounds_u8 (h.wf q hq)
  omega
theorem lt_of_u8 {x : Int} (h : (Lit.int .u8 x).wf = true) : 0 ≤ x ∧ x < 256 := by
  have := bounds_u8 h
  omega
set_option maxRecDepth 100000 in
theorem two_of_trod {fuel : Nat} {cs : List Value} {x : DataW H × List MemPlace} (h : DataW.trod enc Try.prog w 0 (fun _ => true) true fuel 45 cs = some x) : ∃ t n : Int, cs = [.int .i64 t, .int .i64 n] := by
  obtain ⟨xs, n, _, _, hl, hxl, hf⟩ := DataW.trod_struct Try.underlying45 h
  have hC : Try.prog.cellsOf 45 = 2 := by kernel_rfl
  have k3 : Try.prog.cellsOf 3 = 1 := by kernel_rfl
  have k2 : Try.prog.cellsOf 2 = 1 := by kernel_rfl
  rw [hC] at hl
  match cs, hl with
  | [c0, c1], _ =>
    match xs, hxl with
    | [y0, y1], _ =>
      have g0 : DataW.trod enc Try.prog w 0 (fun _ => true) true n 2 [c0] = some y0 := by have := hf 0 _ rfl; simpa [k2] using this
      have g1 : DataW.trod enc Try.prog w 0 (fun _ => true) true n 3 [c1] = some y1 := by have := hf 1 _ rfl; simpa [k3] using this
      obtain ⟨t, e3, _, _⟩ := DataW.trod_int Try.underlying2 g0
      obtain ⟨nd, e4, _, _⟩ := DataW.trod_int Try.underlying3 g1
      simp only [List.cons.injEq, and_true] at e3 e4
      subst e3 e4
      exact ⟨t, nd, rfl⟩
set_option maxRecDepth 100000 in
theorem op_of_trod {fuel : Nat} {cs : List Value} {x : DataW H × List MemPlace} (h : DataW.trod enc Try.prog w 0 (fun _ => true) true fuel 58 cs = some x) : ∃ (o : Opr) (d s : Value), cs = [.int .i64 o.time, .int .i64 o.node, .int .i64 o.seq, .int .i64 o.kind, .int .i64 o.ot, .int .i64 o.on, .int .i64 o.pt, .int .i64 o.pn, .string o.name, d, s] ∧ Rdv u8v w d o.data ∧ Rdv i64v w s o.seen ∧ Byt o.data := by
  obtain ⟨xs, n, _, _, hl, hxl, hf⟩ := DataW.trod_struct Try.underlying58 h
  have hC : Try.prog.cellsOf 58 = 11 := by kernel_rfl
  have k3 : Try.prog.cellsOf 3 = 1 := by kernel_rfl
  have k2 : Try.prog.cellsOf 2 = 1 := by kernel_rfl
  have k9 : Try.prog.cellsOf 9 = 1 := by kernel_rfl
  have k24 : Try.prog.cellsOf 24 = 1 := by kernel_rfl
  have k45 : Try.prog.cellsOf 45 = 2 := by kernel_rfl
  have k47 : Try.prog.cellsOf 47 = 1 := by kernel_rfl
  have k5 : Try.prog.cellsOf 5 = 1 := by kernel_rfl
  rw [hC] at hl
  match cs, hl with
  | [c0, c1, c2, c3, c4, c5, c6, c7, c8, c9, c10], _ =>
    match xs, hxl with
    | [x0, x1, x2, x3, x4, x5, x6, x7], _ =>
      have f0 : DataW.trod enc Try.prog w 0 (fun _ => true) true n 45 [c0, c1] = some x0 := by have := hf 0 _ rfl; simpa [k45] using this
      have f1 : DataW.trod enc Try.prog w 0 (fun _ => true) true n 2 [c2] = some x1 := by have := hf 1 _ rfl; simpa [k45, k2] using this
      have f2 : DataW.trod enc Try.prog w 0 (fun _ => true) true n 3 [c3] = some x2 := by have := hf 2 _ rfl; simpa [k45, k2, k3] using this
      have f3 : DataW.trod enc Try.prog w 0 (fun _ => true) true n 45 [c4, c5] = some x3 := by have := hf 3 _ rfl; simpa [k45, k2, k3] using this
      have f4 : DataW.trod enc Try.prog w 0 (fun _ => true) true n 45 [c6, c7] = some x4 := by have := hf 4 _ rfl; simpa [k45, k2, k3] using this
      have f5 : DataW.trod enc Try.prog w 0 (fun _ => true) true n 9 [c8] = some x5 := by have := hf 5 _ rfl; simpa [k45, k2, k3, k9] using this
      have f6 : DataW.trod enc Try.prog w 0 (fun _ => true) true n 24 [c9] = some x6 := by have := hf 6 _ rfl; simpa [k45, k2, k3, k9, k24] using this
      have f7 : DataW.trod enc Try.prog w 0 (fun _ => true) true n 47 [c10] = some x7 := by have := hf 7 _ rfl; simpa [k45, k2, k3, k9, k24, k47] using this
      obtain ⟨a0, a1, e0⟩ := two_of_trod f0
      obtain ⟨a2, e2, _, _⟩ := DataW.trod_int Try.underlying2 f1
      obtain ⟨a3, e3, _, _⟩ := DataW.trod_int Try.underlying3 f2
      obtain ⟨a4, a5, e4⟩ := two_of_trod f3
      obtain ⟨a6, a7, e6⟩ := two_of_trod f4
      obtain ⟨nm, e8⟩ : ∃ nm, c8 = .string nm := by
        obtain ⟨nm, e, _⟩ := DataW.trod_string Try.underlying9 f5
        simp at e
        exact ⟨nm, e⟩
      obtain ⟨aB, lB, cB, zB, rfl, rB⟩ := row_of_trod Try.underlying24 Try.underlying5 k5 f6
      obtain ⟨aV, lV, cV, zV, rfl, rV⟩ := row_of_trod Try.underlying47 Try.underlying2 k2 f7
      simp only [List.cons.injEq, and_true] at e0 e2 e3 e4 e6
      obtain ⟨rfl, rfl⟩ := e0
      obtain ⟨rfl, rfl⟩ := e4
      obtain ⟨rfl, rfl⟩ := e6
      subst e2 e3 e8
      exact ⟨⟨a0, a1, a2, a3, a4, a5, a6, a7, nm, zB.take lB, zV.take lV⟩, _, _, rfl, rB.rdv, rV.rdv, byt_of_row9 rB⟩
end
end Go.Proofs.Ythbalmoafpggdaa

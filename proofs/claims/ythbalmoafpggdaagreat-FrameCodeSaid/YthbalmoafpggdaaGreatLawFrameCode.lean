/- For every input the law FrameCode answers true; no condition. -/
import Derived.Test.YthbalmoafpggdaaGreatRows
import Derived.Test.YthbalmoafpggdaaGreatM23
import Derived.WalkKit
import Derived.ProofKit
import Derived.OpenShut
import Derived.ShutString
import Derived.ChangeOld
import Derived.Below
import Derived.SizedLaws
import Derived.Carry
import Derived.Lib.SmallJoins
import Derived.Test.YthbalmoafpggdaaGreatM1
namespace Go.Proofs.YthbalmoafpggdaaGreat.frameCode
open Go.ChangeShapes Go.WideShapes Go.ChangeAt Go.RowKit Go.Joins
open Go.ChangeMaps (open_string shut_string)
set_option linter.unusedVariables false
theorem own : ownKnob Tryz.prog.godebug = none := by kernel_rfl
theorem laidOut : laidOutB Tryz.prog = true := by kernel_rfl
set_option maxRecDepth 100000 in
theorem lifted (os : Os) (started : os.Started) (H : Type) (enc : TypeId × Value → H) :
    ReturnsInHanded {} Tryz.checked os 3 .any (Rows.frameCodeSpec.pre6 enc Tryz.prog Tryz.f3 Rows.frameCodeRow.domain false) (Rows.frameCodeSpec.post enc Tryz.prog Tryz.f3 false true false false) := by
  refine returnsInHanded_of_change_sized (C := Tryz.checked) own started (by kernel_rfl) Tryz.func3
    (ChangeSpec.witness6 (enc := enc) (C := Tryz.checked) false ⟨#[], #[.agg #[.int .i64 0, .int .i64 0, .int .i64 0, .int .i64 0, .int .i64 0, .bool false, .slice none 0 0, .slice none 0 0]], []⟩ 8 (by kernel_rfl) (by kernel_rfl) (by kernel_rfl) (by kernel_rfl)) ?_
  intro W base args ds gs before hval0 hW hcnd hsz0 _
  have hsz : (DataW.weightsEach Tryz.prog (Tryz.f3.params.toList ++ Rows.frameCodeSpec.plain.varTypes Tryz.prog) (ds ++ gs)).all (· ≤ reachBytes) = true := hsz0
  have hval : ∀ (j : Nat) t v, Tryz.f3.params[j]? = some t → args[j]? = some v → Value.okWide Tryz.prog W .any base t v := hval0
  have hW' := hW
  obtain ⟨p, q, hA0, hV, rfl, hfz, hnd⟩ := hW
  have hA : DataW.TrodAll enc Tryz.prog W 0 (fun _ => true) true Tryz.f3.params.toList args.toList ds p := hA0
  rw [Tryz.params3] at hA hval hsz
  obtain ⟨v0, vs0, d0, ds0, p0, q0, hargs, rfl, rfl, h0, r0⟩ := trodAll_cons hA
  obtain ⟨rfl, rfl, rfl⟩ := trodAll_nil r0
  obtain rfl : args = #[v0] := by cases args; simp_all
  obtain ⟨rfl, rfl⟩ := trodVars_none hV
  have k0 := h0
  have lt0 : ∀ x ∈ p0, x.block < W.heap.size := by obtain ⟨m, hm⟩ := k0; exact DataW.trod_lt m _ _ _ hm
  obtain ⟨cs0, rfl, hcs0⟩ := okWide_struct Tryz.underlying26 (hval 0 26 v0 rfl rfl)
  obtain ⟨fr0, fv0, fo0, ec0, hfv0, hfo0, hfb0⟩ : ∃ (f : Frm) (v o : Value), cs0.toList = [.int .i64 f.kind, .int .i64 f.src, .int .i64 f.dst, .int .i64 f.sess, .int .i64 f.seq, .bool f.last, v, o] ∧ Rdv (fun n => .int .i64 n) W v f.vec ∧ OpsRd W o f.ops ∧ ∀ q ∈ f.ops, Byt q.data := by
    obtain ⟨fuel, hf⟩ := h0
    exact frm_of_trod (by simpa [Value.cells] using hf)
  obtain rfl : cs0 = #[.int .i64 fr0.kind, .int .i64 fr0.src, .int .i64 fr0.dst, .int .i64 fr0.sess, .int .i64 fr0.seq, .bool fr0.last, fv0, fo0] := Array.toList_inj.1 ec0
  clear hA0 hval0 hsz0 hsz
  refine (frameCode_walk fr0 fv0 fo0 W hfv0 hfo0 hfb0).mono fun e W' ⟨he, bel⟩ => ?_
  subst he
  exact ⟨_, rfl, _, _, _, [], _, [], hW', trodAll_mk1 (shut_bool Tryz.underlying4 _), (trodAll_cons_mk (Below.trod laidOut (by kernel_rfl) (of_decide_eq_true (by kernel_rfl)) k0 bel lt0) trodAll_mk0), rfl, bel.frame _, fun h => by cases h⟩
theorem over : Rows.frameCodeRow.holds Tryz.pinned (OpenSpec.ofChange Rows.frameCodeSpec) :=
  OpenClaim.holds_of_wide 3 Tryz.f3 rfl rfl rfl rfl rfl rfl rfl ⟨rfl, rfl, rfl, rfl, rfl⟩ rfl rfl rfl rfl rfl (by kernel_rfl) Tryz.func3 (by kernel_rfl)
    (of_decide_eq_true (by kernel_rfl)) (by unfold Func.isWrapper; first | (rw [if_pos (by decide +kernel)]; kernel_rfl) | (rw [if_neg (by decide +kernel)]; exact ⟨rfl, rfl⟩))
    (fun os started H enc _ => lifted os started H enc)
theorem proved : Rows.FrameCodeSaid := over
#print axioms proved
end Go.Proofs.YthbalmoafpggdaaGreat.frameCode
namespace Go.Proofs.YthbalmoafpggdaaGreat
/-- The row, under a short name, for the claim. -/
theorem frameCode_holds : Rows.FrameCodeSaid := frameCode.proved
end Go.Proofs.YthbalmoafpggdaaGreat

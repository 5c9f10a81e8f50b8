/- Operations compared: ops.Eq, the reference's. -/
import Derived.Test.YthbalmoafpggdaaChecked
import Derived.WalkKit
import Derived.Outline
import Derived.WalkSpells
import Derived.WalkLawsBesides
import Derived.Deep.QuietTactic
import Derived.Deep.RegionWith
import Derived.Deep.DeepMust
import Derived.BigQuiet
import Derived.Test.YthbalmoafpggdaaMem
import Derived.RegionTactic
import Derived.ChangeAlike
import Derived.StillTailTactics
import Derived.Deep.LoopGhost
import Derived.Test.YthbalmoafpggdaaOpD
import Derived.Test.YthbalmoafpggdaaOpR2
import Derived.Test.YthbalmoafpggdaaBEq
namespace Go.Proofs.Ythbalmoafpggdaa
open Go.RowKit
set_option linter.unusedVariables false
set_option linter.unusedSimpArgs false
def eqB (a b : Opr) : Bool := (decide (a.time = b.time) && decide (a.node = b.node)) && (a.seq == b.seq) && (a.kind == b.kind) && (decide (a.ot = b.ot) && decide (a.on = b.on)) && (decide (a.pt = b.pt) && decide (a.pn = b.pn)) && (a.name.toList == b.name.toList) && decide (a.data = b.data) && (leqB a.seen b.seen && leqB b.seen a.seen)
theorem leqB_refl (xs : List Int) : leqB xs xs = true := (leqB_iff xs xs).2 (fun k _ => Int.le_refl _)
theorem eqB_refl (a : Opr) : eqB a a = true := by unfold eqB; simp [leqB_refl]
set_option maxHeartbeats 4000000 in
set_option maxRecDepth 100000 in
theorem opsEq (a b : Opr) (d s d2 s2 : Value) (w : World) (hd : Rdv u8v w d a.data) (hs : Rdv i64v w s a.seen) (hd2 : Rdv u8v w d2 b.data) (hs2 : Rdv i64v w s2 b.seen) (ha : Byt a.data) (hb : Byt b.data) :
    Calls Try.prog 92 #[.agg #[.int .i64 (a).time, .int .i64 (a).node, .int .i64 (a).seq, .int .i64 (a).kind, .int .i64 (a).ot, .int .i64 (a).on, .int .i64 (a).pt, .int .i64 (a).pn, .string (a).name, d, s], .agg #[.int .i64 (b).time, .int .i64 (b).node, .int .i64 (b).seq, .int .i64 (b).kind, .int .i64 (b).ot, .int .i64 (b).on, .int .i64 (b).pt, .int .i64 (b).pn, .string (b).name, d2, s2]] w fun e w' => e = .returned (.bool (eqB a b)) ∧ Below w.heap.size w w' := by
  have KB := Lib.hid (fun w' hw => bytesEqual d d2 a.data b.data w' (hd.below hw) (hd2.below hw) ha hb : ∀ w', Below w.heap.size w w' → _)
  have KV := Lib.hid (fun w' hw => vecEq s s2 a.seen b.seen w' (hs.below hw) (hs2.below hw) : ∀ w', Below w.heap.size w w' → _)
  clear hd hs hd2 hs2 ha hb
  obtain ⟨time, node, seq, kind, ot, on, pt, pn, name, data, xs⟩ := a
  obtain ⟨time2, node2, seq2, kind2, ot2, on2, pt2, pn2, name2, data2, xs2⟩ := b
  simp only at *
  obtain ⟨b1, h1⟩ : ∃ b1, (decide (time = time2) && decide (node = node2)) = b1 := ⟨_, rfl⟩
  obtain ⟨b2, h2⟩ : ∃ b2, (seq == seq2) = b2 := ⟨_, rfl⟩
  obtain ⟨b3, h3⟩ : ∃ b3, (kind == kind2) = b3 := ⟨_, rfl⟩
  obtain ⟨b4, h4⟩ : ∃ b4, (decide (ot = ot2) && decide (on = on2)) = b4 := ⟨_, rfl⟩
  obtain ⟨b5, h5⟩ : ∃ b5, (decide (pt = pt2) && decide (pn = pn2)) = b5 := ⟨_, rfl⟩
  obtain ⟨b6, h6⟩ : ∃ b6, (name.toList == name2.toList) = b6 := ⟨_, rfl⟩
  obtain ⟨b7, h7⟩ : ∃ b7, decide (data = data2) = b7 := ⟨_, rfl⟩
  obtain ⟨b8, h8⟩ : ∃ b8, (leqB xs xs2 && leqB xs2 xs) = b8 := ⟨_, rfl⟩
  have HE : Hid (eqB ⟨time, node, seq, kind, ot, on, pt, pn, name, data, xs⟩ ⟨time2, node2, seq2, kind2, ot2, on2, pt2, pn2, name2, data2, xs2⟩ = (b1 && b2 && b3 && b4 && b5 && b6 && b7 && b8)) := Lib.hid (by unfold eqB; simp only; rw [h1, h2, h3, h4, h5, h6, h7, h8])
  have e1 : ∀ w, (binOp .eql 45 (.agg #[.int .i64 time, .int .i64 node]) (.agg #[.int .i64 time2, .int .i64 node2])).run Try.prog w = .ok (.bool b1) w := fun w => by rw [eqID, h1]
  have e4 : ∀ w, (binOp .eql 45 (.agg #[.int .i64 ot, .int .i64 on]) (.agg #[.int .i64 ot2, .int .i64 on2])).run Try.prog w = .ok (.bool b4) w := fun w => by rw [eqID, h4]
  have e5 : ∀ w, (binOp .eql 45 (.agg #[.int .i64 pt, .int .i64 pn]) (.agg #[.int .i64 pt2, .int .i64 pn2])).run Try.prog w = .ok (.bool b5) w := fun w => by rw [eqID, h5]
  rw [h7] at KB
  rw [h8] at KV
  clear h1 h4 h5 h7 h8
  have AL := Lib.hid (((Below.refl w.heap.size w).alloc (Nat.le_refl _) (.cells #[.int .i64 time, .int .i64 node, .int .i64 seq, .int .i64 kind, .int .i64 ot, .int .i64 on, .int .i64 pt, .int .i64 pn, .string name, d, s] 58)).alloc (by simp) (.cells #[.int .i64 time2, .int .i64 node2, .int .i64 seq2, .int .i64 kind2, .int .i64 ot2, .int .i64 on2, .int .i64 pt2, .int .i64 pn2, .string name2, d2, s2] 58))
  cases b1
  · go_enter Try.func92, Try.ntmps92
    go_wp2
    go_ret
    exact ⟨ret_b (by rw [HE.out]; first | rfl | simp), AL.out⟩
  cases b2
  · go_enter Try.func92, Try.ntmps92
    go_wp2
    go_ret
    exact ⟨ret_b (by rw [HE.out]; first | rfl | simp), AL.out⟩
  cases b3
  · go_enter Try.func92, Try.ntmps92
    go_wp2
    go_ret
    exact ⟨ret_b (by rw [HE.out]; first | rfl | simp), AL.out⟩
  cases b4
  · go_enter Try.func92, Try.ntmps92
    go_wp2
    go_ret
    exact ⟨ret_b (by rw [HE.out]; first | rfl | simp), AL.out⟩
  cases b5
  · go_enter Try.func92, Try.ntmps92
    go_wp2
    go_ret
    exact ⟨ret_b (by rw [HE.out]; first | rfl | simp), AL.out⟩
  cases b6
  · go_enter Try.func92, Try.ntmps92
    go_wp2
    go_ret
    exact ⟨ret_b (by rw [HE.out]; first | rfl | simp), AL.out⟩
  cases b7
  · go_enter Try.func92, Try.ntmps92
    go_wp2_with fail
    refine (KB.out _ AL.out).mono ?_
    rintro e w1 ⟨rfl, rfl⟩
    go_wp2
    go_ret
    exact ⟨ret_b (by rw [HE.out]; rfl), AL.out⟩
  go_enter Try.func92, Try.ntmps92
  go_wp2_with fail
  refine (KB.out _ AL.out).mono ?_
  rintro e w1 ⟨rfl, rfl⟩
  go_wp2_with fail
  refine (KV.out _ AL.out).mono ?_
  rintro e w2 ⟨rfl, hb2⟩
  have HB := Lib.hid (AL.out.trans (hb2.mono AL.out.size))
  clear hb2
  go_wp2
  go_ret
  exact ⟨ret_b (by rw [HE.out]; cases b8 <;> rfl), HB.out⟩
end Go.Proofs.Ythbalmoafpggdaa

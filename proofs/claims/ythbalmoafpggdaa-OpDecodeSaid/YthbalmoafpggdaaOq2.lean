/- Operations compared: the reference's Eq. -/
import Derived.Test.YthbalmoafpggdaaChecked
import Derived.WalkKit
import Derived.Outline
import Derived.WalkSpells
import Derived.WalkLawsBesides
import Derived.Deep.QuietTactic
import Derived.Deep.RegionWith
import Derived.Deep.DeepMust
import Derived.BigQuiet
import Derived.Test.YthbalmoafpggdaaMem
import Derived.RegionTactic
import Derived.ChangeAlike
import Derived.StillTailTactics
import Derived.Deep.LoopGhost
import Derived.Test.YthbalmoafpggdaaOq
namespace Go.Proofs.Ythbalmoafpggdaa
open Go.RowKit
set_option linter.unusedVariables false
set_option linter.unusedSimpArgs false
structure QMid (w : World) (b1 b2 : Nat) (cs1 cs2 : Array Value) (w' : World) : Prop where
  blk1 : Blk w' b1 cs1 58
  blk2 : Blk w' b2 cs2 58
  bel : Below w.heap.size w w'
theorem QMid.below {w W w' : World} {b1 b2 : Nat} {cs1 cs2 : Array Value} (h : QMid w b1 b2 cs1 cs2 W) (hb : Below W.heap.size W w') : QMid w b1 b2 cs1 cs2 w' := ⟨blkBelow hb h.blk1 h.blk1.lt, blkBelow hb h.blk2 h.blk2.lt, h.bel.trans (hb.mono h.bel.size)⟩
set_option maxHeartbeats 4000000 in
set_option maxRecDepth 100000 in
theorem refOpEq (a b : Opr) (d s d2 s2 : Value) (w : World) (hd : Rdv u8v w d a.data) (hs : Rdv i64v w s a.seen) (hd2 : Rdv u8v w d2 b.data) (hs2 : Rdv i64v w s2 b.seen) (ha : Byt a.data) (hb : Byt b.data) :
    Calls Try.prog 52 #[.agg #[.int .i64 (a).time, .int .i64 (a).node, .int .i64 (a).seq, .int .i64 (a).kind, .int .i64 (a).ot, .int .i64 (a).on, .int .i64 (a).pt, .int .i64 (a).pn, .string (a).name, d, s], .agg #[.int .i64 (b).time, .int .i64 (b).node, .int .i64 (b).seq, .int .i64 (b).kind, .int .i64 (b).ot, .int .i64 (b).on, .int .i64 (b).pt, .int .i64 (b).pn, .string (b).name, d2, s2]] w fun e w' => e = .returned (.bool (eqB a b)) ∧ Below w.heap.size w w' := by
  have KC1 := Lib.hid (fun w' hw => conv_rdv (P := Try.prog) 24 5 Try.underlying24 Try.underlying5 (hd.below hw) 9 Try.underlying9 : ∀ w', Below w.heap.size w w' → _)
  have KC2 := Lib.hid (fun w' hw => conv_rdv (P := Try.prog) 24 5 Try.underlying24 Try.underlying5 (hd2.below hw) 9 Try.underlying9 : ∀ w', Below w.heap.size w w' → _)
  have KV := Lib.hid (fun w' hw => refEq s s2 a.seen b.seen w' (hs.below hw) (hs2.below hw) : ∀ w', Below w.heap.size w w' → _)
  have hse := str_eq a.data b.data ha hb
  obtain ⟨da, dn, dc, rfl⟩ := hd.shape
  obtain ⟨da2, dn2, dc2, rfl⟩ := hd2.shape
  clear hd hs hd2 hs2 ha hb
  obtain ⟨time, node, seq, kind, ot, on, pt, pn, name, data, xs⟩ := a
  obtain ⟨time2, node2, seq2, kind2, ot2, on2, pt2, pn2, name2, data2, xs2⟩ := b
  simp only at *
  obtain ⟨b1, h1⟩ : ∃ b1, (decide (time = time2) && decide (node = node2)) = b1 := ⟨_, rfl⟩
  obtain ⟨b2, h2⟩ : ∃ b2, (seq == seq2) = b2 := ⟨_, rfl⟩
  obtain ⟨b3, h3⟩ : ∃ b3, (kind == kind2) = b3 := ⟨_, rfl⟩
  obtain ⟨b4, h4⟩ : ∃ b4, (decide (ot = ot2) && decide (on = on2)) = b4 := ⟨_, rfl⟩
  obtain ⟨b5, h5⟩ : ∃ b5, (decide (pt = pt2) && decide (pn = pn2)) = b5 := ⟨_, rfl⟩
  obtain ⟨b6, h6⟩ : ∃ b6, (name.toList == name2.toList) = b6 := ⟨_, rfl⟩
  obtain ⟨b7, h7⟩ : ∃ b7, decide (data = data2) = b7 := ⟨_, rfl⟩
  obtain ⟨b8, h8⟩ : ∃ b8, (leqB xs xs2 && leqB xs2 xs) = b8 := ⟨_, rfl⟩
  have HE : Hid (eqB ⟨time, node, seq, kind, ot, on, pt, pn, name, data, xs⟩ ⟨time2, node2, seq2, kind2, ot2, on2, pt2, pn2, name2, data2, xs2⟩ = (b1 && b2 && b3 && b4 && b5 && b6 && b7 && b8)) := Lib.hid (by unfold eqB; simp only; rw [h1, h2, h3, h4, h5, h6, h7, h8])
  rw [h7] at hse
  rw [h8] at KV
  have KS1 := Lib.hid (fun w => refSameG time node time2 node2 w)
  have KS4 := Lib.hid (fun w => refSameG ot on ot2 on2 w)
  have KS5 := Lib.hid (fun w => refSameG pt pn pt2 pn2 w)
  rw [h1] at KS1
  rw [h4] at KS4
  rw [h5] at KS5
  clear h1 h4 h5 h7 h8
  have AL := ((Below.refl w.heap.size w).alloc (Nat.le_refl _) (.cells #[.int .i64 time, .int .i64 node, .int .i64 seq, .int .i64 kind, .int .i64 ot, .int .i64 on, .int .i64 pt, .int .i64 pn, .string name, .slice da dn dc, s] 58)).alloc (by simp) (.cells #[.int .i64 time2, .int .i64 node2, .int .i64 seq2, .int .i64 kind2, .int .i64 ot2, .int .i64 on2, .int .i64 pt2, .int .i64 pn2, .string name2, .slice da2 dn2 dc2, s2] 58)
  have Q0 : Hid (QMid w w.heap.size (w.heap.size + 1) #[.int .i64 time, .int .i64 node, .int .i64 seq, .int .i64 kind, .int .i64 ot, .int .i64 on, .int .i64 pt, .int .i64 pn, .string name, .slice da dn dc, s] #[.int .i64 time2, .int .i64 node2, .int .i64 seq2, .int .i64 kind2, .int .i64 ot2, .int .i64 on2, .int .i64 pt2, .int .i64 pn2, .string name2, .slice da2 dn2 dc2, s2] ((w.alloc (.cells #[.int .i64 time, .int .i64 node, .int .i64 seq, .int .i64 kind, .int .i64 ot, .int .i64 on, .int .i64 pt, .int .i64 pn, .string name, .slice da dn dc, s] 58)).alloc (.cells #[.int .i64 time2, .int .i64 node2, .int .i64 seq2, .int .i64 kind2, .int .i64 ot2, .int .i64 on2, .int .i64 pt2, .int .i64 pn2, .string name2, .slice da2 dn2 dc2, s2] 58))) := Lib.hid ⟨(Blk.new _ _ _).alloc _, by have := Blk.new (w.alloc (.cells #[.int .i64 time, .int .i64 node, .int .i64 seq, .int .i64 kind, .int .i64 ot, .int .i64 on, .int .i64 pt, .int .i64 pn, .string name, .slice da dn dc, s] 58)) #[.int .i64 time2, .int .i64 node2, .int .i64 seq2, .int .i64 kind2, .int .i64 ot2, .int .i64 on2, .int .i64 pt2, .int .i64 pn2, .string name2, .slice da2 dn2 dc2, s2] 58; simpa using this, AL⟩
  clear AL
  go_enter Try.func52, Try.ntmps52
  go_wp2_with fail
  refine (KS1.out _).mono ?_
  rintro e w1 ⟨rfl, hb1⟩
  have Q1 := Lib.hid (Q0.out.below hb1)
  clear hb1
  (try clear c_0 c_1 c_2 c_3 c_4 c_5 c_6 c_7 c_8 c_9 c_10 g_0 g_1 g_2 g_3 g_4 g_5 g_6 g_7 g_8 g_9 g_10)
  have c_0 : w1.cell? ⟨w.heap.size, 0, none⟩ = some (.int .i64 time) := (Q1.out.blk1).cell (o := 0) rfl
  have c_1 : w1.cell? ⟨w.heap.size, 1, none⟩ = some (.int .i64 node) := (Q1.out.blk1).cell (o := 1) rfl
  have c_2 : w1.cell? ⟨w.heap.size, 2, none⟩ = some (.int .i64 seq) := (Q1.out.blk1).cell (o := 2) rfl
  have c_3 : w1.cell? ⟨w.heap.size, 3, none⟩ = some (.int .i64 kind) := (Q1.out.blk1).cell (o := 3) rfl
  have c_4 : w1.cell? ⟨w.heap.size, 4, none⟩ = some (.int .i64 ot) := (Q1.out.blk1).cell (o := 4) rfl
  have c_5 : w1.cell? ⟨w.heap.size, 5, none⟩ = some (.int .i64 on) := (Q1.out.blk1).cell (o := 5) rfl
  have c_6 : w1.cell? ⟨w.heap.size, 6, none⟩ = some (.int .i64 pt) := (Q1.out.blk1).cell (o := 6) rfl
  have c_7 : w1.cell? ⟨w.heap.size, 7, none⟩ = some (.int .i64 pn) := (Q1.out.blk1).cell (o := 7) rfl
  have c_8 : w1.cell? ⟨w.heap.size, 8, none⟩ = some (.string name) := (Q1.out.blk1).cell (o := 8) rfl
  have c_9 : w1.cell? ⟨w.heap.size, 9, none⟩ = some (.slice da dn dc) := (Q1.out.blk1).cell (o := 9) rfl
  have c_10 : w1.cell? ⟨w.heap.size, 10, none⟩ = some (s) := (Q1.out.blk1).cell (o := 10) rfl
  have g_0 : w1.cell? ⟨(w.heap.size + 1), 0, none⟩ = some (.int .i64 time2) := (Q1.out.blk2).cell (o := 0) rfl
  have g_1 : w1.cell? ⟨(w.heap.size + 1), 1, none⟩ = some (.int .i64 node2) := (Q1.out.blk2).cell (o := 1) rfl
  have g_2 : w1.cell? ⟨(w.heap.size + 1), 2, none⟩ = some (.int .i64 seq2) := (Q1.out.blk2).cell (o := 2) rfl
  have g_3 : w1.cell? ⟨(w.heap.size + 1), 3, none⟩ = some (.int .i64 kind2) := (Q1.out.blk2).cell (o := 3) rfl
  have g_4 : w1.cell? ⟨(w.heap.size + 1), 4, none⟩ = some (.int .i64 ot2) := (Q1.out.blk2).cell (o := 4) rfl
  have g_5 : w1.cell? ⟨(w.heap.size + 1), 5, none⟩ = some (.int .i64 on2) := (Q1.out.blk2).cell (o := 5) rfl
  have g_6 : w1.cell? ⟨(w.heap.size + 1), 6, none⟩ = some (.int .i64 pt2) := (Q1.out.blk2).cell (o := 6) rfl
  have g_7 : w1.cell? ⟨(w.heap.size + 1), 7, none⟩ = some (.int .i64 pn2) := (Q1.out.blk2).cell (o := 7) rfl
  have g_8 : w1.cell? ⟨(w.heap.size + 1), 8, none⟩ = some (.string name2) := (Q1.out.blk2).cell (o := 8) rfl
  have g_9 : w1.cell? ⟨(w.heap.size + 1), 9, none⟩ = some (.slice da2 dn2 dc2) := (Q1.out.blk2).cell (o := 9) rfl
  have g_10 : w1.cell? ⟨(w.heap.size + 1), 10, none⟩ = some (s2) := (Q1.out.blk2).cell (o := 10) rfl
  cases b1
  · go_wp2
    go_ret
    exact ⟨ret_b (by rw [HE.out]; first | rfl | simp), Q1.out.bel⟩
  cases b2
  · go_wp2
    go_ret
    exact ⟨ret_b (by rw [HE.out]; first | rfl | simp), Q1.out.bel⟩
  cases b3
  · go_wp2
    go_ret
    exact ⟨ret_b (by rw [HE.out]; first | rfl | simp), Q1.out.bel⟩
  go_wp2_with fail
  refine (KS4.out _).mono ?_
  rintro e w2 ⟨rfl, hb2⟩
  have Q2 := Lib.hid (Q1.out.below hb2)
  clear hb2
  (try clear c_0 c_1 c_2 c_3 c_4 c_5 c_6 c_7 c_8 c_9 c_10 g_0 g_1 g_2 g_3 g_4 g_5 g_6 g_7 g_8 g_9 g_10)
  have c_0 : w2.cell? ⟨w.heap.size, 0, none⟩ = some (.int .i64 time) := (Q2.out.blk1).cell (o := 0) rfl
  have c_1 : w2.cell? ⟨w.heap.size, 1, none⟩ = some (.int .i64 node) := (Q2.out.blk1).cell (o := 1) rfl
  have c_2 : w2.cell? ⟨w.heap.size, 2, none⟩ = some (.int .i64 seq) := (Q2.out.blk1).cell (o := 2) rfl
  have c_3 : w2.cell? ⟨w.heap.size, 3, none⟩ = some (.int .i64 kind) := (Q2.out.blk1).cell (o := 3) rfl
  have c_4 : w2.cell? ⟨w.heap.size, 4, none⟩ = some (.int .i64 ot) := (Q2.out.blk1).cell (o := 4) rfl
  have c_5 : w2.cell? ⟨w.heap.size, 5, none⟩ = some (.int .i64 on) := (Q2.out.blk1).cell (o := 5) rfl
  have c_6 : w2.cell? ⟨w.heap.size, 6, none⟩ = some (.int .i64 pt) := (Q2.out.blk1).cell (o := 6) rfl
  have c_7 : w2.cell? ⟨w.heap.size, 7, none⟩ = some (.int .i64 pn) := (Q2.out.blk1).cell (o := 7) rfl
  have c_8 : w2.cell? ⟨w.heap.size, 8, none⟩ = some (.string name) := (Q2.out.blk1).cell (o := 8) rfl
  have c_9 : w2.cell? ⟨w.heap.size, 9, none⟩ = some (.slice da dn dc) := (Q2.out.blk1).cell (o := 9) rfl
  have c_10 : w2.cell? ⟨w.heap.size, 10, none⟩ = some (s) := (Q2.out.blk1).cell (o := 10) rfl
  have g_0 : w2.cell? ⟨(w.heap.size + 1), 0, none⟩ = some (.int .i64 time2) := (Q2.out.blk2).cell (o := 0) rfl
  have g_1 : w2.cell? ⟨(w.heap.size + 1), 1, none⟩ = some (.int .i64 node2) := (Q2.out.blk2).cell (o := 1) rfl
  have g_2 : w2.cell? ⟨(w.heap.size + 1), 2, none⟩ = some (.int .i64 seq2) := (Q2.out.blk2).cell (o := 2) rfl
  have g_3 : w2.cell? ⟨(w.heap.size + 1), 3, none⟩ = some (.int .i64 kind2) := (Q2.out.blk2).cell (o := 3) rfl
  have g_4 : w2.cell? ⟨(w.heap.size + 1), 4, none⟩ = some (.int .i64 ot2) := (Q2.out.blk2).cell (o := 4) rfl
  have g_5 : w2.cell? ⟨(w.heap.size + 1), 5, none⟩ = some (.int .i64 on2) := (Q2.out.blk2).cell (o := 5) rfl
  have g_6 : w2.cell? ⟨(w.heap.size + 1), 6, none⟩ = some (.int .i64 pt2) := (Q2.out.blk2).cell (o := 6) rfl
  have g_7 : w2.cell? ⟨(w.heap.size + 1), 7, none⟩ = some (.int .i64 pn2) := (Q2.out.blk2).cell (o := 7) rfl
  have g_8 : w2.cell? ⟨(w.heap.size + 1), 8, none⟩ = some (.string name2) := (Q2.out.blk2).cell (o := 8) rfl
  have g_9 : w2.cell? ⟨(w.heap.size + 1), 9, none⟩ = some (.slice da2 dn2 dc2) := (Q2.out.blk2).cell (o := 9) rfl
  have g_10 : w2.cell? ⟨(w.heap.size + 1), 10, none⟩ = some (s2) := (Q2.out.blk2).cell (o := 10) rfl
  cases b4
  · go_wp2
    go_ret
    exact ⟨ret_b (by rw [HE.out]; first | rfl | simp), Q2.out.bel⟩
  go_wp2_with fail
  refine (KS5.out _).mono ?_
  rintro e w3 ⟨rfl, hb3⟩
  have Q3 := Lib.hid (Q2.out.below hb3)
  clear hb3
  (try clear c_0 c_1 c_2 c_3 c_4 c_5 c_6 c_7 c_8 c_9 c_10 g_0 g_1 g_2 g_3 g_4 g_5 g_6 g_7 g_8 g_9 g_10)
  have c_0 : w3.cell? ⟨w.heap.size, 0, none⟩ = some (.int .i64 time) := (Q3.out.blk1).cell (o := 0) rfl
  have c_1 : w3.cell? ⟨w.heap.size, 1, none⟩ = some (.int .i64 node) := (Q3.out.blk1).cell (o := 1) rfl
  have c_2 : w3.cell? ⟨w.heap.size, 2, none⟩ = some (.int .i64 seq) := (Q3.out.blk1).cell (o := 2) rfl
  have c_3 : w3.cell? ⟨w.heap.size, 3, none⟩ = some (.int .i64 kind) := (Q3.out.blk1).cell (o := 3) rfl
  have c_4 : w3.cell? ⟨w.heap.size, 4, none⟩ = some (.int .i64 ot) := (Q3.out.blk1).cell (o := 4) rfl
  have c_5 : w3.cell? ⟨w.heap.size, 5, none⟩ = some (.int .i64 on) := (Q3.out.blk1).cell (o := 5) rfl
  have c_6 : w3.cell? ⟨w.heap.size, 6, none⟩ = some (.int .i64 pt) := (Q3.out.blk1).cell (o := 6) rfl
  have c_7 : w3.cell? ⟨w.heap.size, 7, none⟩ = some (.int .i64 pn) := (Q3.out.blk1).cell (o := 7) rfl
  have c_8 : w3.cell? ⟨w.heap.size, 8, none⟩ = some (.string name) := (Q3.out.blk1).cell (o := 8) rfl
  have c_9 : w3.cell? ⟨w.heap.size, 9, none⟩ = some (.slice da dn dc) := (Q3.out.blk1).cell (o := 9) rfl
  have c_10 : w3.cell? ⟨w.heap.size, 10, none⟩ = some (s) := (Q3.out.blk1).cell (o := 10) rfl
  have g_0 : w3.cell? ⟨(w.heap.size + 1), 0, none⟩ = some (.int .i64 time2) := (Q3.out.blk2).cell (o := 0) rfl
  have g_1 : w3.cell? ⟨(w.heap.size + 1), 1, none⟩ = some (.int .i64 node2) := (Q3.out.blk2).cell (o := 1) rfl
  have g_2 : w3.cell? ⟨(w.heap.size + 1), 2, none⟩ = some (.int .i64 seq2) := (Q3.out.blk2).cell (o := 2) rfl
  have g_3 : w3.cell? ⟨(w.heap.size + 1), 3, none⟩ = some (.int .i64 kind2) := (Q3.out.blk2).cell (o := 3) rfl
  have g_4 : w3.cell? ⟨(w.heap.size + 1), 4, none⟩ = some (.int .i64 ot2) := (Q3.out.blk2).cell (o := 4) rfl
  have g_5 : w3.cell? ⟨(w.heap.size + 1), 5, none⟩ = some (.int .i64 on2) := (Q3.out.blk2).cell (o := 5) rfl
  have g_6 : w3.cell? ⟨(w.heap.size + 1), 6, none⟩ = some (.int .i64 pt2) := (Q3.out.blk2).cell (o := 6) rfl
  have g_7 : w3.cell? ⟨(w.heap.size + 1), 7, none⟩ = some (.int .i64 pn2) := (Q3.out.blk2).cell (o := 7) rfl
  have g_8 : w3.cell? ⟨(w.heap.size + 1), 8, none⟩ = some (.string name2) := (Q3.out.blk2).cell (o := 8) rfl
  have g_9 : w3.cell? ⟨(w.heap.size + 1), 9, none⟩ = some (.slice da2 dn2 dc2) := (Q3.out.blk2).cell (o := 9) rfl
  have g_10 : w3.cell? ⟨(w.heap.size + 1), 10, none⟩ = some (s2) := (Q3.out.blk2).cell (o := 10) rfl
  cases b5
  · go_wp2
    go_ret
    exact ⟨ret_b (by rw [HE.out]; first | rfl | simp), Q3.out.bel⟩
  cases b6
  · go_wp2
    go_ret
    exact ⟨ret_b (by rw [HE.out]; first | rfl | simp), Q3.out.bel⟩
  have hc1 := KC1.out _ Q3.out.bel
  have hc2 := KC2.out _ Q3.out.bel
  cases b7
  · go_wp2
    go_ret
    exact ⟨ret_b (by rw [HE.out]; first | rfl | simp), Q3.out.bel⟩
  go_wp2_with fail
  refine (KV.out _ Q3.out.bel).mono ?_
  rintro e w4 ⟨rfl, rfl⟩
  go_wp2
  go_ret
  exact ⟨ret_b (by rw [HE.out]; first | rfl | simp), Q3.out.bel⟩
end Go.Proofs.Ythbalmoafpggdaa

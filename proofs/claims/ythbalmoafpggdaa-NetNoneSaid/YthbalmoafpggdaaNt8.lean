/- A net: Take, Next. -/
import Derived.Test.YthbalmoafpggdaaChecked
import Derived.WalkKit
import Derived.Outline
import Derived.WalkSpells
import Derived.WalkLawsBesides
import Derived.Deep.QuietTactic
import Derived.Deep.RegionWith
import Derived.Deep.DeepMust
import Derived.BigQuiet
import Derived.Test.YthbalmoafpggdaaMem
import Derived.RegionTactic
import Derived.ChangeAlike
import Derived.StillTailTactics
import Derived.BigRegion
import Derived.Deep.LoopGhost
import Derived.Deep.RegionHeld
import Derived.Deep.RegionHeld3
import Derived.Deep.RegionLaw
import Derived.Deep.AppendLies
import Derived.Deep.DeepCutAuto
import Derived.Deep.CutBlock
import Derived.IntWalk
import Derived.Test.YthbalmoafpggdaaNt7
namespace Go.Proofs.Ythbalmoafpggdaa
open Go.RowKit
set_option linter.unusedVariables false
set_option linter.unusedSimpArgs false
theorem NetG.chg1 {w w' : World} {nb R : Nat} {room came : Int} {lv : Value} {xs : List Wy} {cs : Array Value} (h : NetG w nb room came lv xs) (g : Chg (· = R) w w') (hR : Blk w R cs 73) : NetG w' nb room came lv xs := by
  refine ⟨g.blk h.blk (fun e => blk_ne (e ▸ hR) (by decide) h.blk), ownsRow_chg h.own g (fun b e hS => ?_), fun y hy => ?_⟩
  · obtain ⟨_, cur, hb⟩ := own_typ h.own e
    have hS : b = R := hS
    subst hS
    exact blk_ne hb (by decide) hR
  · exact g.blk (h.way y hy) (fun e => blk_ne (e ▸ hR) (by decide) (h.way y hy))
def TakePost (nb g c : Nat) (room came : Int) (x a : Wy) (w : World) (e : Ending) (w' : World) : Prop := e = .returned (.tuple #[.agg #[.int .i64 x.src, .int .i64 x.dst, .int .i64 x.due, x.bv], .bool true]) ∧ NetG w' nb room came (.slice (some ⟨g, 0, none⟩) 1 c) [a] ∧ Chg (NS nb (.slice (some ⟨g, 0, none⟩) 2 c)) w w'
set_option maxHeartbeats 4000000 in
set_option maxRecDepth 100000 in
theorem nTake0 (nb g c : Nat) (room came : Int) (x a : Wy) (w : World) (h : NetG w nb room came (.slice (some ⟨g, 0, none⟩) 2 c) [x, a]) (hxb : ∃ xa xn xc, x.bv = .slice xa xn xc) :
    Calls Try.prog 38 #[.pointer (some ⟨nb, 0, none⟩), .int .i64 0] w (TakePost nb g c room came x a w) := by
  obtain ⟨xa, xn, xc, hxb⟩ := hxb
  have A0 := Lib.hid ((Below.refl w.heap.size w).alloc (Nat.le_refl _) (.cells #[.int .i64 0, .int .i64 0, .int .i64 0, .slice none 0 0] 73))
  have X0 := Lib.hid (Blk.new w #[.int .i64 0, .int .i64 0, .int .i64 0, .slice none 0 0] 73)
  have KF := Lib.hid (nFind0 nb g c room came x [a] _ (h.below A0.out) (by simp))
  have HN := Lib.hid h
  have hbl := h.blk.lt
  clear h
  go_enter Try.func38, Try.ntmps38
  go_wp2_with fail
  refine KF.out.mono ?_
  rintro e w1 ⟨rfl, hb1⟩
  have hwp : wyP x = .pointer (some ⟨x.p, 0, none⟩) := rfl
  rw [hwp]
  have X1 := Lib.hid (blkBelow hb1 X0.out X0.out.lt)
  have hB1 := A0.out.trans (hb1.mono A0.out.size)
  have B1 := Lib.hid hB1
  have N1 := Lib.hid (HN.out.below hB1)
  clear hb1 KF hB1
  have n_1 : w1.cell? ⟨nb, 1, none⟩ = some (.slice (some ⟨g, 0, none⟩) 2 c) := N1.out.blk.cell (o := 1) rfl
  obtain ⟨_, _, g3, g4, cur, h5, h6, h7⟩ := own_cells N1.out.own
  have KI := Lib.hid (fun (w' : World) (hw : w' = w1.drew) => nIndex0 g 2 c x.p w' (by omega) (by rw [hw]; exact h5.cell (cur_at h7 rfl)) g3 g4)
  have KR := Lib.hid (nRemove nb g c room came x a w1.drew (N1.out.drewN 1))
  clear h5 h6 h7
  go_upto_region 4 with fail
  refine wp_region_held_drew (S := fun _ => True) (by kernel_rfl) trivial (fun hHeld => ?_)
  refine wpAnyH_take (i := 0) (v := ?_) rfl (by kernel_rfl) (by kernel_rfl) (by kernel_rfl) (fun _ _ _ h => h) (Or.inl ⟨by kernel_rfl, ?_⟩) (by assumption) ?_
  rotate_left 1
  · (intro w hSw; (try dsimp only at hSw); go_simp; (try (with_reducible rfl)))
  (try simp only [List.getElem_toArray, List.getElem_cons_succ, List.getElem_cons_zero, Act.put, List.setIfInBounds_toArray, List.set_cons_zero, List.set_cons_succ])
  refine wpAnyH_take (i := 1) (v := ?_) rfl (by kernel_rfl) (by kernel_rfl) (by kernel_rfl) (fun _ _ _ h => h) (Or.inl ⟨by kernel_rfl, ?_⟩) (by assumption) ?_
  rotate_left 1
  · (intro w hSw; (try dsimp only at hSw); go_simp; (try (with_reducible rfl)))
  (try simp only [List.getElem_toArray, List.getElem_cons_succ, List.getElem_cons_zero, Act.put, List.setIfInBounds_toArray, List.set_cons_zero, List.set_cons_succ])
  refine wpAnyH_take (i := 2) (v := ?_) rfl (by kernel_rfl) (by kernel_rfl) (by kernel_rfl) (fun _ _ _ h => h) (Or.inl ⟨by kernel_rfl, ?_⟩) (by assumption) ?_
  rotate_left 1
  · (intro w hSw; (try dsimp only at hSw); go_simp; (try (with_reducible rfl)))
  (try simp only [List.getElem_toArray, List.getElem_cons_succ, List.getElem_cons_zero, Act.put, List.setIfInBounds_toArray, List.set_cons_zero, List.set_cons_succ])
  refine wpAnyH_take (i := 3) (v := ?_) rfl (by kernel_rfl) (by kernel_rfl) (by kernel_rfl) (fun _ _ _ h => h) (Or.inl ⟨by kernel_rfl, ?_⟩) (by assumption) ?_
  rotate_left 1
  · (intro w hSw; (try dsimp only at hSw); go_simp; (try (with_reducible rfl)))
  (try simp only [List.getElem_toArray, List.getElem_cons_succ, List.getElem_cons_zero, Act.put, List.setIfInBounds_toArray, List.set_cons_zero, List.set_cons_succ])
  refine wpAnyH_take (i := 4) (v := ?_) rfl (by kernel_rfl) (by kernel_rfl) (by kernel_rfl) (fun _ _ _ h => h) (Or.inl ⟨by kernel_rfl, ?_⟩) (by assumption) ?_
  rotate_left 1
  · (intro w hSw; (try dsimp only at hSw); go_simp; (try (with_reducible rfl)))
  (try simp only [List.getElem_toArray, List.getElem_cons_succ, List.getElem_cons_zero, Act.put, List.setIfInBounds_toArray, List.set_cons_zero, List.set_cons_succ])
  refine wpAnyH_take (i := 5) (v := ?_) rfl (by kernel_rfl) (by kernel_rfl) (by kernel_rfl) (fun _ _ _ h => h) (Or.inl ⟨by kernel_rfl, ?_⟩) (by assumption) ?_
  rotate_left 1
  · (intro w hSw; (try dsimp only at hSw); go_simp; (try (with_reducible rfl)))
  (try simp only [List.getElem_toArray, List.getElem_cons_succ, List.getElem_cons_zero, Act.put, List.setIfInBounds_toArray, List.set_cons_zero, List.set_cons_succ])
  refine wpAnyH_take (i := 6) (v := ?_) rfl (by kernel_rfl) (by kernel_rfl) (by kernel_rfl) (fun _ _ _ h => h) (Or.inl ⟨by kernel_rfl, ?_⟩) (by assumption) ?_
  rotate_left 1
  · (intro w hSw; (try dsimp only at hSw); go_simp; (try (with_reducible rfl)))
  (try simp only [List.getElem_toArray, List.getElem_cons_succ, List.getElem_cons_zero, Act.put, List.setIfInBounds_toArray, List.set_cons_zero, List.set_cons_succ])
  refine wpAnyH_take (i := 8) (v := ?_) rfl (by kernel_rfl) (by kernel_rfl) (by kernel_rfl) (fun _ _ _ h => h) (Or.inl ⟨by kernel_rfl, ?_⟩) (by assumption) ?_
  rotate_left 1
  · (intro w hSw; (try dsimp only at hSw); go_simp; (try (with_reducible rfl)))
  (try simp only [List.getElem_toArray, List.getElem_cons_succ, List.getElem_cons_zero, Act.put, List.setIfInBounds_toArray, List.set_cons_zero, List.set_cons_succ])
  refine wpAnyH_ready (rs := [7]) (by kernel_rfl) (by simp) ?_
  refine AllReadyH.cons rfl (fun K hK => ?_) AllReadyH.nil
  go_simp
  go_wp2_with fail
  refine hK.out _ _ trivial (fun hHeld => ?_)
  clear hK K
  (try simp only [List.getElem_toArray, List.getElem_cons_succ, List.getElem_cons_zero, Act.put, List.setIfInBounds_toArray, List.set_cons_zero, List.set_cons_succ])
  refine wpAnyH_ready (rs := [9]) (by kernel_rfl) (by simp) ?_
  refine AllReadyH.cons rfl (fun K hK => ?_) AllReadyH.nil
  go_simp
  go_wp2_with fail
  refine (KI.out _ rfl).mono ?_
  rintro e w2 ⟨rfl, rfl⟩
  refine hK.out _ _ trivial (fun hHeld => ?_)
  clear hK K
  (try simp only [List.getElem_toArray, List.getElem_cons_succ, List.getElem_cons_zero, Act.put, List.setIfInBounds_toArray, List.set_cons_zero, List.set_cons_succ])
  refine wpAnyH_ready (rs := [10]) (by kernel_rfl) (by simp) ?_
  refine AllReadyH.cons rfl (fun K hK => ?_) AllReadyH.nil
  go_simp
  go_wp2_with fail
  refine KR.out.mono ?_
  rintro e w4 ⟨rfl, hn4, hg4⟩
  have hg4' : Chg (NS nb (.slice (some ⟨g, 0, none⟩) 2 c)) w1 w4 := Chg.trans ((Chg.refl _ w1).drew) hg4
  have N4 := Lib.hid hn4
  have hx1 : Blk w1 x.p (wyC x) 124 := N1.out.way x (by simp)
  have Y4 := Lib.hid (hg4'.blk hx1 (N1.out.far hx1 (by decide) (by decide)))
  have X4 := Lib.hid (hg4'.blk X1.out (N1.out.far X1.out (by decide) (by decide)))
  have C4 := Lib.hid ((Chg.of_below (S := NS nb (.slice (some ⟨g, 0, none⟩) 2 c)) B1.out (fun i hi hn => by omega)).trans hg4')
  clear hn4 hg4 hg4' hx1
  refine hK.out _ _ trivial (fun hHeld => ?_)
  clear hK K
  (try simp only [List.getElem_toArray, List.getElem_cons_succ, List.getElem_cons_zero, Act.put, List.setIfInBounds_toArray, List.set_cons_zero, List.set_cons_succ])
  refine wpAnyH_done (by kernel_rfl) ?_ _
  clear hHeld KI KR n_1
  have y_0 : w4.cell? ⟨x.p, 0, none⟩ = some (.int .i64 x.src) := Y4.out.cell (o := 0) rfl
  have y_1 : w4.cell? ⟨x.p, 1, none⟩ = some (.int .i64 x.dst) := Y4.out.cell (o := 1) rfl
  have y_2 : w4.cell? ⟨x.p, 2, none⟩ = some (.int .i64 x.due) := Y4.out.cell (o := 2) rfl
  have y_3 : w4.cell? ⟨x.p, 3, none⟩ = some (.slice xa xn xc) := by rw [← hxb]; exact Y4.out.cell (o := 3) rfl
  have z_0 : w4.cell? ⟨w.heap.size, 0, none⟩ = some (.int .i64 0) := (X4.out).cell (o := 0) rfl
  have z_1 : w4.cell? ⟨w.heap.size, 1, none⟩ = some (.int .i64 0) := (X4.out).cell (o := 1) rfl
  have z_2 : w4.cell? ⟨w.heap.size, 2, none⟩ = some (.int .i64 0) := (X4.out).cell (o := 2) rfl
  have z_3 : w4.cell? ⟨w.heap.size, 3, none⟩ = some (.slice none 0 0) := (X4.out).cell (o := 3) rfl
  have yz_0 := (X4.out).free 0
  have yz_1 := (X4.out).free 1
  have yz_2 := (X4.out).free 2
  have yz_3 := (X4.out).free 3
  have FIN : Hid (∀ w', Chg (· = w.heap.size) w4 w' → TakePost nb g c room came x a w (.returned (.tuple #[.agg #[.int .i64 x.src, .int .i64 x.dst, .int .i64 x.due, .slice xa xn xc], .bool true])) w') := Lib.hid (fun w' gq => by
    rw [← hxb]
    exact ⟨rfl, N4.out.chg1 gq X4.out, Chg.trans' C4.out gq (fun i hi e => by
      have e : i = w.heap.size := e
      omega)⟩)
  go_wp2
  exact bodyPost_ret (v := .tuple #[.agg #[.int .i64 x.src, .int .i64 x.dst, .int .i64 x.due, .slice xa xn xc], .bool true]) (by simp [results, Try.results38, go_sem, *] <;> rfl) rfl (FIN.out _ (chg4 _ _ _ _ _ _))
set_option maxHeartbeats 4000000 in
set_option maxRecDepth 100000 in
theorem nNextDue (nb g c : Nat) (room came now : Int) (x a : Wy) (w : World) (h : NetG w nb room came (.slice (some ⟨g, 0, none⟩) 2 c) [x, a]) (hxb : ∃ xa xn xc, x.bv = .slice xa xn xc) (hd : x.due ≤ now) :
    Calls Try.prog 39 #[.pointer (some ⟨nb, 0, none⟩), .int .i64 now] w (TakePost nb g c room came x a w) := by
  have A0 := Lib.hid ((Below.refl w.heap.size w).alloc (Nat.le_refl _) (.cells #[.int .i64 0, .int .i64 0, .int .i64 0, .slice none 0 0] 73))
  have X0 := Lib.hid (Blk.new w #[.int .i64 0, .int .i64 0, .int .i64 0, .slice none 0 0] 73)
  have N0 := Lib.hid (h.below A0.out)
  have KL := Lib.hid (nLenN nb room came _ _ _ N0.out)
  have KT := Lib.hid (nTake0 nb g c room came x a _ N0.out hxb)
  obtain ⟨xa, xn, xc, hxb⟩ := hxb
  have n_1 : w.cell? ⟨nb, 1, none⟩ = some (.slice (some ⟨g, 0, none⟩) 2 c) := h.blk.cell (o := 1) rfl
  obtain ⟨_, hgl, g3, g4, cur, h5, h6, h7⟩ := own_cells h.own
  have hg0 : w.cell? ⟨g, 0, none⟩ = some (.pointer (some ⟨x.p, 0, none⟩)) := h5.cell (cur_at h7 rfl)
  have hx := h.way x (by simp)
  have y_2 : w.cell? ⟨x.p, 2, none⟩ = some (.int .i64 x.due) := hx.cell (o := 2) rfl
  have hxl := hx.lt
  have hbl := h.blk.lt
  simp only [List.length_cons, List.length_nil] at KL
  clear h h5 h6 h7 hx
  go_enter Try.func39, Try.ntmps39
  go_wp2_with fail
  refine KL.out.mono ?_
  rintro e w1 ⟨rfl, rfl⟩
  go_wp2_with fail
  refine KT.out.mono ?_
  rintro e w4 ⟨rfl, hn4, hg4⟩
  have N4 := Lib.hid hn4
  have X4 := Lib.hid (hg4.blk X0.out (N0.out.far X0.out (by decide) (by decide)))
  have C4 := Lib.hid ((Chg.of_below (S := NS nb (.slice (some ⟨g, 0, none⟩) 2 c)) A0.out (fun i hi hn => by omega)).trans hg4)
  clear hn4 hg4 KL KT n_1 hg0 y_2
  rw [hxb]
  have z_0 : w4.cell? ⟨w.heap.size, 0, none⟩ = some (.int .i64 0) := (X4.out).cell (o := 0) rfl
  have z_1 : w4.cell? ⟨w.heap.size, 1, none⟩ = some (.int .i64 0) := (X4.out).cell (o := 1) rfl
  have z_2 : w4.cell? ⟨w.heap.size, 2, none⟩ = some (.int .i64 0) := (X4.out).cell (o := 2) rfl
  have z_3 : w4.cell? ⟨w.heap.size, 3, none⟩ = some (.slice none 0 0) := (X4.out).cell (o := 3) rfl
  have yz_0 := (X4.out).free 0
  have yz_1 := (X4.out).free 1
  have yz_2 := (X4.out).free 2
  have yz_3 := (X4.out).free 3
  have FIN : Hid (∀ w', Chg (· = w.heap.size) w4 w' → TakePost nb g c room came x a w (.returned (.tuple #[.agg #[.int .i64 x.src, .int .i64 x.dst, .int .i64 x.due, .slice xa xn xc], .bool true])) w') := Lib.hid (fun w' gq => by
    rw [← hxb]
    exact ⟨rfl, N4.out.chg1 gq X4.out, Chg.trans' C4.out gq (fun i hi e => by
      have e : i = w.heap.size := e
      omega)⟩)
  go_wp2
  exact bodyPost_ret (v := .tuple #[.agg #[.int .i64 x.src, .int .i64 x.dst, .int .i64 x.due, .slice xa xn xc], .bool true]) (by simp [results, Try.results39, go_sem, *] <;> rfl) rfl (FIN.out _ (chg4 _ _ _ _ _ _))
set_option maxHeartbeats 4000000 in
set_option maxRecDepth 100000 in
theorem nNextLate (nb g c : Nat) (room came now : Int) (x : Wy) (w : World) (h : NetG w nb room came (.slice (some ⟨g, 0, none⟩) 1 c) [x]) (hd : now < x.due) :
    Calls Try.prog 39 #[.pointer (some ⟨nb, 0, none⟩), .int .i64 now] w (ZWPost w) := by
  have A0 := Lib.hid ((Below.refl w.heap.size w).alloc (Nat.le_refl _) (.cells #[.int .i64 0, .int .i64 0, .int .i64 0, .slice none 0 0] 73))
  have N0 := Lib.hid (h.below A0.out)
  have KL := Lib.hid (nLenN nb room came _ _ _ N0.out)
  have n_1 : w.cell? ⟨nb, 1, none⟩ = some (.slice (some ⟨g, 0, none⟩) 1 c) := h.blk.cell (o := 1) rfl
  obtain ⟨_, hgl, g3, g4, cur, h5, h6, h7⟩ := own_cells h.own
  have hg0 : w.cell? ⟨g, 0, none⟩ = some (.pointer (some ⟨x.p, 0, none⟩)) := h5.cell (cur_at h7 rfl)
  have hx := h.way x (by simp)
  have y_2 : w.cell? ⟨x.p, 2, none⟩ = some (.int .i64 x.due) := hx.cell (o := 2) rfl
  have hxl := hx.lt
  have hbl := h.blk.lt
  simp only [List.length_cons, List.length_nil] at KL
  clear h h5 h6 h7 hx
  go_enter Try.func39, Try.ntmps39
  go_wp2_with fail
  refine KL.out.mono ?_
  rintro e w1 ⟨rfl, rfl⟩
  go_wp2
  exact bodyPost_ret (v := .tuple #[.agg #[.int .i64 0, .int .i64 0, .int .i64 0, .slice none 0 0], .bool false]) (by simp [results, Try.results39, go_sem, *] <;> rfl) rfl ⟨rfl, by first | exact A0.out | (refine Chg.below_trans A0.out (chg4 _ w.heap.size _ _ _ _) A0.out.size (fun i hi e => by omega))⟩
end Go.Proofs.Ythbalmoafpggdaa

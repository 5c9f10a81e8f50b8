/- A net: Put. -/
import Derived.Test.YthbalmoafpggdaaChecked
import Derived.WalkKit
import Derived.Outline
import Derived.WalkSpells
import Derived.WalkLawsBesides
import Derived.Deep.QuietTactic
import Derived.Deep.RegionWith
import Derived.Deep.DeepMust
import Derived.BigQuiet
import Derived.Test.YthbalmoafpggdaaMem
import Derived.RegionTactic
import Derived.ChangeAlike
import Derived.StillTailTactics
import Derived.BigRegion
import Derived.Deep.LoopGhost
import Derived.Deep.RegionHeld
import Derived.Deep.RegionHeld3
import Derived.Deep.RegionLaw
import Derived.Deep.AppendLies
import Derived.Deep.DeepCutAuto
import Derived.Deep.CutBlock
import Derived.IntWalk
import Derived.Test.YthbalmoafpggdaaNt4
namespace Go.Proofs.Ythbalmoafpggdaa
open Go.RowKit
set_option linter.unusedVariables false
set_option linter.unusedSimpArgs false
theorem nNode (n : Int) (w : World) (h1 : 0 ≤ n) (h2 : n < 64) : Calls Try.prog 87 #[.int .i64 n] w fun e w' => e = .returned (.bool true) ∧ w = w' := by
  go_enter Try.func87, Try.ntmps87
  go_wp2
  go_ret
  exact ⟨rfl, rfl⟩
theorem nHPush (nb : Nat) (room came : Int) (lv : Value) (xs : List Wy) (x : Wy) (w : World) (h : NetG w nb room came lv xs) (hx : Blk w x.p (wyC x) 124) (hd : xs = [] ∨ ∃ a, xs = [a] ∧ x.due < a.due) :
    Calls Try.prog 80 #[.iface 126 (.pointer (some ⟨nb, 1, none⟩)), .iface 120 (.pointer (some ⟨x.p, 0, none⟩))] w (NHPush nb room came lv (x :: xs) w) := by
  rcases hd with rfl | ⟨a, rfl, hd⟩
  · exact nHPush0 nb room came lv x w h hx
  · exact nHPush1 nb room came lv a x w h hx hd
def PutPost (nb : Nat) (room came : Int) (lv : Value) (xs : List Wy) (src dst due : Int) (l : List Int) (w : World) (e : Ending) (w' : World) : Prop :=
  e = .returned (.int .i64 0) ∧ ∃ p b g c, NetG w' nb room (came + 1) (.slice (some ⟨g, 0, none⟩) (xs.length + 1) c) (⟨p, src, dst, due, b, came + 1⟩ :: xs) ∧ w'.ownsRow w.heap.size 5 1 b l.length (l.map u8v) ∧ Chg (NS nb lv) w w'
theorem ps_keep {w W : World} {A B : Addr} {a b : Value} (hw : Below w.heap.size w W) (h : w.cell? A = some a) : W.cell? A = some a := (hw.cell (World.block_lt_of_cell? w _ h)).trans h
theorem NetG.came {w : World} {nb : Nat} {room came c2 : Int} {lv : Value} {xs : List Wy} (h : NetG w nb room came lv xs) : NetG (w.setCell ⟨nb, 2, none⟩ (.int .i64 c2)) nb room c2 lv xs := by
  refine ⟨by have := h.blk.set 2 (.int .i64 c2); simpa using this, ownsRow_setCell_other h.own (a := ⟨nb, 2, none⟩) h.ne _, fun y hy => ?_⟩
  have hy' := h.way y hy
  exact hy'.set_ne (by show y.p ≠ nb; intro e; rw [e] at hy'; exact blk_ne hy' (by decide) h.blk) _
set_option maxHeartbeats 4000000 in
set_option maxRecDepth 100000 in
theorem nPut (nb : Nat) (room came : Int) (lv : Value) (xs : List Wy) (src dst due : Int) (bv : Value) (l : List Int) (w : World) (h : NetG w nb room came lv xs) (hd : xs = [] ∨ ∃ a, xs = [a] ∧ due < a.due) (hr : (xs.length : Int) < room) (h1 : 0 ≤ src ∧ src < 64) (h2 : 0 ≤ dst ∧ dst < 64) (hb : Rdv u8v w bv l) (hl : l.length ≤ 1048584) (hc : 0 ≤ came ∧ came ≤ 1000) (hnb : ∀ b o n c, bv = .slice (some ⟨b, o, none⟩) n c → b ≠ nb) :
    Calls Try.prog 41 #[.pointer (some ⟨nb, 0, none⟩), .agg #[.int .i64 src, .int .i64 dst, .int .i64 due, bv]] w (PutPost nb room came lv xs src dst due l w) := by
  obtain ⟨va, vn, vc, rfl⟩ := hb.shape
  obtain ⟨rfl, _, _, _⟩ := hb.cap
  obtain ⟨la, lc, rfl, _, _, _⟩ := own_shape h.own
  have n_0 : w.cell? ⟨nb, 0, none⟩ = some (.int .i64 room) := h.blk.cell (o := 0) rfl
  have n_1 : w.cell? ⟨nb, 1, none⟩ = some (.slice la xs.length lc) := h.blk.cell (o := 1) rfl
  have n_2 : w.cell? ⟨nb, 2, none⟩ = some (.int .i64 came) := h.blk.cell (o := 2) rfl
  have nf := h.blk.free 2
  have hnl := h.blk.lt
  have N0 := Lib.hid h
  have R0 := Lib.hid hb
  have HD := Lib.hid hd
  obtain ⟨s1, s2⟩ := h1
  obtain ⟨d1, d2⟩ := h2
  obtain ⟨c1, c2⟩ := hc
  have hl' : (l.length : Int) ≤ 1048584 := by omega
  have hw1 : IntKind.i64.wrap (came + 1) = came + 1 := IntWalk.i64_in _ (by omega)
  have N1 := Lib.hid (h.came (c2 := came + 1))
  clear h hb hd
  go_enter Try.func41, Try.ntmps41
  go_wp2
  go_quiet (fail)
  go_wp2_with fail
  refine (nNode _ _ s1 s2).mono ?_
  rintro e w2 ⟨rfl, rfl⟩
  go_wp2_with fail
  refine (nNode _ _ d1 d2).mono ?_
  rintro e w2 ⟨rfl, rfl⟩
  go_upto_region 8 with fail
  obtain ⟨W, hW⟩ : ∃ W, W = ((w.alloc (.cells #[.int .i64 src, .int .i64 dst, .int .i64 due, .slice va l.length vc] 73)).drewN nq).setCell ⟨nb, 2, none⟩ (.int .i64 (came + 1)) := ⟨_, rfl⟩
  have hA := below_drewN ((Below.refl w.heap.size w).alloc (Nat.le_refl _) (.cells #[.int .i64 src, .int .i64 dst, .int .i64 due, .slice va l.length vc] 73)) nq
  have NW : Hid (NetG W nb room (came + 1) (.slice la xs.length lc) xs) := Lib.hid (by rw [hW]; exact (N0.out.below hA).came)
  have XW : Hid (Blk W w.heap.size #[.int .i64 src, .int .i64 dst, .int .i64 due, .slice va l.length vc] 73) := Lib.hid (by rw [hW]; exact ((Blk.new w _ _).drewN nq).set_ne (by show w.heap.size ≠ nb; omega) _)
  have CW : Hid (Chg (NS nb (.slice la xs.length lc)) w W) := Lib.hid (by rw [hW]; exact ((Chg.of_below hA (fun i hi hn => by omega)).set (fun _ => .inl rfl) _))
  have RW : Hid (Rdv u8v W (.slice va l.length vc) l) := Lib.hid (by
    have g : Chg (· = nb) w W := by rw [hW]; exact Chg.set (S := (· = nb)) (Chg.of_below hA (fun i hi hn => by omega)) (p := ⟨nb, 2, none⟩) (fun _ => rfl) _
    exact R0.out.chg g (fun b o n c e => hnb b o n c e))
  have hzW : w.heap.size < W.heap.size := XW.out.lt
  rw [← hW]
  clear hW hA n_0 n_1 n_2 nf
  refine wp_region_held_drew (S := fun w' => (w').cell? ⟨nb, 2, none⟩ = some (.int .i64 (came + 1)) ∧ (w').cell? ⟨w.heap.size, 0, none⟩ = some (.int .i64 src) ∧ (w').cell? ⟨w.heap.size, 1, none⟩ = some (.int .i64 dst) ∧ (w').cell? ⟨w.heap.size, 2, none⟩ = some (.int .i64 due) ∧ (w').cell? ⟨w.heap.size, 3, none⟩ = some (.slice va l.length vc)) (by kernel_rfl) ?_ (fun hHeld => ?_)
  · exact ⟨NW.out.blk.cell (o := 2) rfl, XW.out.cell (o := 0) rfl, XW.out.cell (o := 1) rfl, XW.out.cell (o := 2) rfl, XW.out.cell (o := 3) rfl⟩
  refine wpAnyH_take (i := 0) (v := ?_) rfl (by kernel_rfl) (by kernel_rfl) (by kernel_rfl) (fun _ _ _ h => h) (Or.inl ⟨by kernel_rfl, ?_⟩) (by assumption) ?_
  rotate_left 1
  · (intro w hSw; (try dsimp only at hSw); go_simp; (try (with_reducible rfl)))
  (try simp only [List.getElem_toArray, List.getElem_cons_succ, List.getElem_cons_zero, Act.put, List.setIfInBounds_toArray, List.set_cons_zero, List.set_cons_succ])
  refine wpAnyH_take (i := 1) (v := ?_) rfl (by kernel_rfl) (by kernel_rfl) (by kernel_rfl) (fun _ _ _ h => h) (Or.inl ⟨by kernel_rfl, ?_⟩) (by assumption) ?_
  rotate_left 1
  · (intro w hSw; (try dsimp only at hSw); go_simp; (try (with_reducible rfl)))
  (try simp only [List.getElem_toArray, List.getElem_cons_succ, List.getElem_cons_zero, Act.put, List.setIfInBounds_toArray, List.set_cons_zero, List.set_cons_succ])
  refine wpAnyH_take (i := 2) (v := ?_) rfl (by kernel_rfl) (by kernel_rfl) (by kernel_rfl) (fun _ _ _ h => h) (Or.inl ⟨by kernel_rfl, ?_⟩) (by assumption) ?_
  rotate_left 1
  · (intro w hSw; (try dsimp only at hSw); go_simp; (try (with_reducible rfl)))
  (try simp only [List.getElem_toArray, List.getElem_cons_succ, List.getElem_cons_zero, Act.put, List.setIfInBounds_toArray, List.set_cons_zero, List.set_cons_succ])
  refine wpAnyH_take (i := 3) (v := ?_) rfl (by kernel_rfl) (by kernel_rfl) (by kernel_rfl) (fun _ _ _ h => h) (Or.inl ⟨by kernel_rfl, ?_⟩) (by assumption) ?_
  rotate_left 1
  · (intro w hSw; (try dsimp only at hSw); go_simp; (try (with_reducible rfl)))
  (try simp only [List.getElem_toArray, List.getElem_cons_succ, List.getElem_cons_zero, Act.put, List.setIfInBounds_toArray, List.set_cons_zero, List.set_cons_succ])
  refine wpAnyH_take (i := 4) (v := ?_) rfl (by kernel_rfl) (by kernel_rfl) (by kernel_rfl) (fun _ _ _ h => h) (Or.inl ⟨by kernel_rfl, ?_⟩) (by assumption) ?_
  rotate_left 1
  · (intro w hSw; (try dsimp only at hSw); go_simp; (try (with_reducible rfl)))
  (try simp only [List.getElem_toArray, List.getElem_cons_succ, List.getElem_cons_zero, Act.put, List.setIfInBounds_toArray, List.set_cons_zero, List.set_cons_succ])
  refine wpAnyH_take (i := 6) (v := ?_) rfl (by kernel_rfl) (by kernel_rfl) (by kernel_rfl) (fun _ _ _ h => h) (Or.inl ⟨by kernel_rfl, ?_⟩) (by assumption) ?_
  rotate_left 1
  · (intro w hSw; (try dsimp only at hSw); go_simp; (try (with_reducible rfl)))
  (try simp only [List.getElem_toArray, List.getElem_cons_succ, List.getElem_cons_zero, Act.put, List.setIfInBounds_toArray, List.set_cons_zero, List.set_cons_succ])
  refine wpAnyH_take (i := 7) (v := ?_) rfl (by kernel_rfl) (by kernel_rfl) (by kernel_rfl) (fun _ _ _ h => h) (Or.inl ⟨by kernel_rfl, ?_⟩) (by assumption) ?_
  rotate_left 1
  · (intro w hSw; (try dsimp only at hSw); go_simp; (try (with_reducible rfl)))
  (try simp only [List.getElem_toArray, List.getElem_cons_succ, List.getElem_cons_zero, Act.put, List.setIfInBounds_toArray, List.set_cons_zero, List.set_cons_succ])
  refine wpAnyH_take (i := 8) (v := ?_) rfl (by kernel_rfl) (by kernel_rfl) (by kernel_rfl) (fun _ _ _ h => h) (Or.inl ⟨by kernel_rfl, ?_⟩) (by assumption) ?_
  rotate_left 1
  · (intro w hSw; (try dsimp only at hSw); go_simp; (try (with_reducible rfl)))
  (try simp only [List.getElem_toArray, List.getElem_cons_succ, List.getElem_cons_zero, Act.put, List.setIfInBounds_toArray, List.set_cons_zero, List.set_cons_succ])
  refine wpAnyH_take (i := 9) (v := ?_) rfl (by kernel_rfl) (by kernel_rfl) (by kernel_rfl) (fun _ _ _ h => h) (Or.inl ⟨by kernel_rfl, ?_⟩) (by assumption) ?_
  rotate_left 1
  · (intro w hSw; (try dsimp only at hSw); go_simp; (try (with_reducible rfl)))
  (try simp only [List.getElem_toArray, List.getElem_cons_succ, List.getElem_cons_zero, Act.put, List.setIfInBounds_toArray, List.set_cons_zero, List.set_cons_succ])
  refine wpAnyH_ready (rs := [5]) (by kernel_rfl) (by simp) ?_
  refine AllReadyH.cons rfl (fun K hK => ?_) AllReadyH.nil
  go_simp
  go_wp2_with fail
  refine (nCopied src dst due (.slice va l.length vc) l W.drew (RW.out.below (Drw.below ⟨1, rfl⟩ : Below W.heap.size W W.drew)) (by omega)).mono ?_
  rintro e w5 ⟨b5, rfl, ho5, hb5⟩
  obtain ⟨ba, bc, rfl, _, _, _⟩ := own_shape ho5
  have hb5' : Below W.heap.size W w5 := (Drw.below ⟨1, rfl⟩ : Below W.heap.size W W.drew).trans hb5
  have N5 := Lib.hid (NW.out.below hb5')
  have O5 : Hid (w5.ownsRow W.heap.size 5 1 (.slice ba l.length bc) l.length (l.map u8v)) := Lib.hid ho5
  have C5 : Hid (Chg (NS nb (.slice la xs.length lc)) w w5) := Lib.hid (CW.out.trans (Chg.of_below hb5' (fun i hi hn => by omega)))
  have X5 := Lib.hid (blkBelow hb5' XW.out XW.out.lt)
  clear ho5 hb5 hb5' NW CW RW
  refine hK.out _ _ ?_ (fun hHeld => ?_)
  · (try dsimp only); exact ⟨N5.out.blk.cell (o := 2) rfl, X5.out.cell (o := 0) rfl, X5.out.cell (o := 1) rfl, X5.out.cell (o := 2) rfl, X5.out.cell (o := 3) rfl⟩
  clear hK K
  (try simp only [List.getElem_toArray, List.getElem_cons_succ, List.getElem_cons_zero, Act.put, List.setIfInBounds_toArray, List.set_cons_zero, List.set_cons_succ])
  refine wpAnyH_take (i := 10) (v := ?_) rfl (by kernel_rfl) (by kernel_rfl) (by kernel_rfl) (fun _ _ _ h => h) (Or.inl ⟨by kernel_rfl, ?_⟩) (by assumption) ?_
  rotate_left 1
  · (intro w hSw; (try dsimp only at hSw); go_simp; (try (with_reducible rfl)))
  (try simp only [List.getElem_toArray, List.getElem_cons_succ, List.getElem_cons_zero, Act.put, List.setIfInBounds_toArray, List.set_cons_zero, List.set_cons_succ])
  refine wpAnyH_ready (rs := [11]) (by kernel_rfl) (by simp) ?_
  refine AllReadyH.cons rfl (fun K hK => ?_) AllReadyH.nil
  go_simp
  go_wp2_with fail
  have AL := (Below.refl w5.heap.size w5).alloc (Nat.le_refl _) (.cells #[.int .i64 src, .int .i64 dst, .int .i64 due, .slice ba l.length bc, .int .i64 (came + 1)] 124)
  have N6 := Lib.hid (N5.out.below AL)
  have X6 := Lib.hid (blkBelow AL X5.out X5.out.lt)
  have Y6 := Lib.hid (Blk.new w5 #[.int .i64 src, .int .i64 dst, .int .i64 due, .slice ba l.length bc, .int .i64 (came + 1)] 124)
  have O6 := Lib.hid (ownsRow_below O5.out AL)
  have C6 := Lib.hid (C5.out.trans (Chg.of_below (S := NS nb (.slice la xs.length lc)) AL (fun i hi hn => by omega)))
  clear AL
  refine hK.out _ _ ?_ (fun hHeld => ?_)
  · (try dsimp only); exact ⟨N6.out.blk.cell (o := 2) rfl, X6.out.cell (o := 0) rfl, X6.out.cell (o := 1) rfl, X6.out.cell (o := 2) rfl, X6.out.cell (o := 3) rfl⟩
  clear hK K
  (try simp only [List.getElem_toArray, List.getElem_cons_succ, List.getElem_cons_zero, Act.put, List.setIfInBounds_toArray, List.set_cons_zero, List.set_cons_succ])
  refine wpAnyH_take (i := 12) (v := ?_) rfl (by kernel_rfl) (by kernel_rfl) (by kernel_rfl) (fun _ _ _ h => h) (Or.inl ⟨by kernel_rfl, ?_⟩) (by assumption) ?_
  rotate_left 1
  · (intro w hSw; (try dsimp only at hSw); go_simp; (try (with_reducible rfl)))
  (try simp only [List.getElem_toArray, List.getElem_cons_succ, List.getElem_cons_zero, Act.put, List.setIfInBounds_toArray, List.set_cons_zero, List.set_cons_succ])
  refine wpAnyH_ready (rs := [13]) (by kernel_rfl) (by simp) ?_
  refine AllReadyH.cons rfl (fun K hK => ?_) AllReadyH.nil
  go_simp
  have KP := Lib.hid (nHPush nb room (came + 1) (.slice la xs.length lc) xs ⟨w5.heap.size, src, dst, due, .slice ba l.length bc, came + 1⟩ _ N6.out Y6.out HD.out)
  go_wp2_with fail
  refine KP.out.mono ?_
  rintro e w7 ⟨rfl, g7, c7, hn7, hg7⟩
  have N7 := Lib.hid hn7
  have C7 := Lib.hid (C6.out.trans hg7)
  have O7 := Lib.hid (ownsRow_chg O6.out hg7 (fun k e => by
    obtain ⟨_, cs, hk⟩ := own_typ O6.out e
    exact N6.out.far hk (by decide) (by decide)))
  have X7 := Lib.hid (hg7.blk X6.out (N6.out.far X6.out (by decide) (by decide)))
  clear hn7 hg7 KP
  refine hK.out _ _ ?_ (fun hHeld => ?_)
  · (try dsimp only); exact ⟨N7.out.blk.cell (o := 2) rfl, X7.out.cell (o := 0) rfl, X7.out.cell (o := 1) rfl, X7.out.cell (o := 2) rfl, X7.out.cell (o := 3) rfl⟩
  clear hK K
  (try simp only [List.getElem_toArray, List.getElem_cons_succ, List.getElem_cons_zero, Act.put, List.setIfInBounds_toArray, List.set_cons_zero, List.set_cons_succ])
  refine wpAnyH_done (by kernel_rfl) ?_ _
  clear hHeld N6 X6 Y6 O6 C6 X7
  go_wp2
  go_ret
  exact ⟨rfl, _, _, g7, c7, N7.out, ownsRow_base2 O7.out (by omega), C7.out⟩
end Go.Proofs.Ythbalmoafpggdaa

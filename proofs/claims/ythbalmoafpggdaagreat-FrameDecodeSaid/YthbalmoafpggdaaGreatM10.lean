/- Operations: the reference's May, the kinds. -/
import Derived.Test.YthbalmoafpggdaaGreatChecked
import Derived.WalkKit
import Derived.Outline
import Derived.WalkSpells
import Derived.WalkLawsBesides
import Derived.Deep.QuietTactic
import Derived.Deep.RegionWith
import Derived.Deep.DeepMust
import Derived.BigQuiet
import Derived.RegionTactic
import Derived.ChangeAlike
import Derived.StillTailTactics
import Derived.Deep.LoopGhost
import Derived.BigRegion
import Derived.IntWalk
import Derived.Deep.RegionHeld
import Derived.Deep.DeepCutAuto
import Derived.Deep.CutBlock
import Derived.Test.YthbalmoafpggdaaGreatM1
import Derived.Test.YthbalmoafpggdaaGreatM9
namespace Go.Proofs.YthbalmoafpggdaaGreat
open Go.RowKit
set_option linter.unusedVariables false
set_option linter.unusedSimpArgs false
set_option maxHeartbeats 4000000 in
set_option maxRecDepth 100000 in
theorem refMayOk (o : Opr) (d s : Value) (w : World) (hd : Rdv u8v w d o.data) (hs : Rdv i64v w s o.seen) (hn : o.name.size < 4294967281) (hv : validID o.time o.node = true) (h1 : 1 ≤ o.seq) (h2 : o.seq ≤ 1152921504606846976) (h3 : seenB o.seen o.node o.seq = true) :
    Calls Tryz.prog 18 #[.agg #[.int .i64 (o).time, .int .i64 (o).node, .int .i64 (o).seq, .int .i64 (o).kind, .int .i64 (o).ot, .int .i64 (o).on, .int .i64 (o).pt, .int .i64 (o).pn, .string (o).name, d, s]] w fun e w' => e = .returned (.bool (kindB o)) ∧ Below w.heap.size w w' := by
  obtain ⟨O, hO⟩ : ∃ O, O = o := ⟨_, rfl⟩
  obtain ⟨time, node, seq, kind, ot, on, pt, pn, name, data, xs⟩ := o
  simp only at *
  have KV := Lib.hid (fun w' => refValid time node w')
  rw [hv] at KV
  unfold seenB at h3
  rw [Bool.and_eq_true, decide_eq_true_eq] at h3
  have KM := Lib.hid (fun w' hb => refMay s xs w' (hs.below hb) : ∀ w', Below w.heap.size w w' → _)
  rw [h3.1] at KM
  have KA := Lib.hid (fun w' hb => refAt s xs node w' (hs.below hb) : ∀ w', Below w.heap.size w w' → _)
  rw [h3.2] at KA
  have KN := Lib.hid (fun w' => refName name w' hn)
  have HO := Lib.hid hO
  obtain ⟨da, dn, dc, rfl⟩ := hd.shape
  obtain ⟨rfl, _, _, _⟩ := hd.cap
  have KSm := Lib.hid (fun w' => refSameG ot on time node w')
  have KR := Lib.hid (fun w' => refRoot pt pn w')
  have KT := Lib.hid (fun w' => refTrash pt pn w')
  have KP := Lib.hid (fun w' => refOlder pt pn time node w')
  have KB := Lib.hid (fun w' => refOlder ot on time node w')
  have HK0 : Hid (kindB O = if kind = 1 ∨ kind = 2 then (decide (ot = time) && decide (on = node)) && (decide (pt = 0) && decide (pn = 0) || earlyB pt pn time node) && (decide (nameE name.data.toList = 0) && decide (data.length = 0))
      else if kind = 3 then earlyB ot on time node && ((decide (pt = 0) && decide (pn = 0) || earlyB pt pn time node) || (decide (pt = 0) && decide (pn = 1))) && (decide (nameE name.data.toList = 0) && decide (data.length = 0))
      else if kind = 4 then earlyB ot on time node && (decide (pt = 0) && decide (pn = 0)) && decide (name.toList = []) && decide (data.length ≤ 65536)
      else false) := Lib.hid (by rw [hO, Lib.toList_data]; unfold kindB parB namedB; simp only [Bool.decide_and])
  generalize nameE name.data.toList = ne at *
  generalize earlyB ot on time node = lb at *
  generalize earlyB pt pn time node = pb at *
  generalize (decide (pt = 0) && decide (pn = 0)) = rb at *
  generalize (decide (pt = 0) && decide (pn = 1)) = tb at *
  generalize (decide (ot = time) && decide (on = node)) = eb at *
  clear hd hs hO h3 hv
  have HB0 := (Below.refl w.heap.size w).alloc (Nat.le_refl _) (.cells #[.int .i64 time, .int .i64 node, .int .i64 seq, .int .i64 kind, .int .i64 ot, .int .i64 on, .int .i64 pt, .int .i64 pn, .string name, .slice da data.length dc, s] 46)
  have bk0 := Blk.new w #[.int .i64 time, .int .i64 node, .int .i64 seq, .int .i64 kind, .int .i64 ot, .int .i64 on, .int .i64 pt, .int .i64 pn, .string name, .slice da data.length dc, s] 46
  have OM0 := Lib.hid (OMid.mk bk0 HB0)
  clear bk0 HB0
  have d1 : decide (seq < 1) = false := decide_eq_false (by omega)
  have d2 : decide (1152921504606846976 < seq) = false := decide_eq_false (by omega)
  have hw : IntKind.i64.wrap (seq - 1) = seq - 1 := IntWalk.i64_in _ (by omega)
  have hz : (seq - 1 != seq - 1) = false := by simp
  go_enter Tryz.func18, Tryz.ntmps18
  go_wp2_with fail
  refine wp_region_held_drew (S := fun w' => (w'.cell? ⟨w.heap.size, 0, none⟩ = some (.int .i64 time) ∧ w'.cell? ⟨w.heap.size, 1, none⟩ = some (.int .i64 node) ∧ w'.cell? ⟨w.heap.size, 2, none⟩ = some (.int .i64 seq) ∧ w'.cell? ⟨w.heap.size, 3, none⟩ = some (.int .i64 kind) ∧ w'.cell? ⟨w.heap.size, 4, none⟩ = some (.int .i64 ot) ∧ w'.cell? ⟨w.heap.size, 5, none⟩ = some (.int .i64 on) ∧ w'.cell? ⟨w.heap.size, 6, none⟩ = some (.int .i64 pt) ∧ w'.cell? ⟨w.heap.size, 7, none⟩ = some (.int .i64 pn) ∧ w'.cell? ⟨w.heap.size, 8, none⟩ = some (.string name) ∧ w'.cell? ⟨w.heap.size, 9, none⟩ = some (.slice da data.length dc) ∧ w'.cell? ⟨w.heap.size, 10, none⟩ = some (s)) ∧ OMid w w.heap.size #[.int .i64 time, .int .i64 node, .int .i64 seq, .int .i64 kind, .int .i64 ot, .int .i64 on, .int .i64 pt, .int .i64 pn, .string name, .slice da data.length dc, s] w') (by kernel_rfl) ?_ (fun hHeld => ?_)
  · refine om_S ?_
    first | (with_reducible assumption) | exact OM0.out.drew | exact OMid.drew (And.right (by assumption)) | exact And.right (by assumption)
  refine wpAnyH_take (i := 0) (v := ?_) rfl (by kernel_rfl) (by kernel_rfl) (by kernel_rfl) (fun _ _ _ h => h) (Or.inl ⟨by kernel_rfl, ?_⟩) (by assumption) ?_
  rotate_left 1
  · (intro w hSw; (try dsimp only at hSw); go_simp; (try (with_reducible rfl)))
  (try simp only [List.getElem_toArray, List.getElem_cons_succ, List.getElem_cons_zero, Act.put, List.setIfInBounds_toArray, List.set_cons_zero, List.set_cons_succ])
  refine wpAnyH_take (i := 1) (v := ?_) rfl (by kernel_rfl) (by kernel_rfl) (by kernel_rfl) (fun _ _ _ h => h) (Or.inl ⟨by kernel_rfl, ?_⟩) (by assumption) ?_
  rotate_left 1
  · (intro w hSw; (try dsimp only at hSw); go_simp; (try (with_reducible rfl)))
  (try simp only [List.getElem_toArray, List.getElem_cons_succ, List.getElem_cons_zero, Act.put, List.setIfInBounds_toArray, List.set_cons_zero, List.set_cons_succ])
  refine wpAnyH_ready (rs := [2]) (by kernel_rfl) (by simp) ?_
  refine AllReadyH.cons rfl (fun K hK => ?_) AllReadyH.nil
  go_simp
  go_wp2_with (go_at_call 50; (with_reducible refine (KV.out _).mono ?_); rintro e w9 ⟨rfl, hb⟩; have g9 := OMid.below (And.right (by assumption)) hb; clear hb)
  refine hK.out _ _ ?_ (fun hHeld => ?_)
  · (try dsimp only)
    refine om_S ?_
    first | (with_reducible assumption) | exact OM0.out.drew | exact OMid.drew (And.right (by assumption)) | exact And.right (by assumption)
  clear hK K
  (try simp only [List.getElem_toArray, List.getElem_cons_succ, List.getElem_cons_zero, Act.put, List.setIfInBounds_toArray, List.set_cons_zero, List.set_cons_succ])
  refine wpAnyH_take (i := 3) (v := ?_) rfl (by kernel_rfl) (by kernel_rfl) (by kernel_rfl) (fun _ _ _ h => h) (Or.inl ⟨by kernel_rfl, ?_⟩) (by assumption) ?_
  rotate_left 1
  · (intro w hSw; (try dsimp only at hSw); go_simp; (try (with_reducible rfl)))
  (try simp only [List.getElem_toArray, List.getElem_cons_succ, List.getElem_cons_zero, Act.put, List.setIfInBounds_toArray, List.set_cons_zero, List.set_cons_succ])
  refine wpAnyH_take (i := 4) (v := ?_) rfl (by kernel_rfl) (by kernel_rfl) (by kernel_rfl) (fun _ _ _ h => h) (Or.inl ⟨by kernel_rfl, ?_⟩) (by assumption) ?_
  rotate_left 1
  · (intro w hSw; (try dsimp only at hSw); go_simp; (try (with_reducible rfl)))
  (try simp only [List.getElem_toArray, List.getElem_cons_succ, List.getElem_cons_zero, Act.put, List.setIfInBounds_toArray, List.set_cons_zero, List.set_cons_succ])
  refine wpAnyH_take (i := 5) (v := ?_) rfl (by kernel_rfl) (by kernel_rfl) (by kernel_rfl) (fun _ _ _ h => h) (Or.inl ⟨by kernel_rfl, ?_⟩) (by assumption) ?_
  rotate_left 1
  · (intro w hSw; (try dsimp only at hSw); go_simp; (try (with_reducible rfl)))
  (try simp only [List.getElem_toArray, List.getElem_cons_succ, List.getElem_cons_zero, Act.put, List.setIfInBounds_toArray, List.set_cons_zero, List.set_cons_succ])
  refine wpAnyH_take (i := 6) (v := ?_) rfl (by kernel_rfl) (by kernel_rfl) (by kernel_rfl) (fun _ _ _ h => h) (Or.inl ⟨by kernel_rfl, ?_⟩) (by assumption) ?_
  rotate_left 1
  · (intro w hSw; (try dsimp only at hSw); go_simp; (try (with_reducible rfl)))
  (try simp only [List.getElem_toArray, List.getElem_cons_succ, List.getElem_cons_zero, Act.put, List.setIfInBounds_toArray, List.set_cons_zero, List.set_cons_succ])
  refine wpAnyH_take (i := 7) (v := ?_) rfl (by kernel_rfl) (by kernel_rfl) (by kernel_rfl) (fun _ _ _ h => h) (Or.inl ⟨by kernel_rfl, ?_⟩) (by assumption) ?_
  rotate_left 1
  · (intro w hSw; (try dsimp only at hSw); go_simp; (try (with_reducible rfl)))
  (try simp only [List.getElem_toArray, List.getElem_cons_succ, List.getElem_cons_zero, Act.put, List.setIfInBounds_toArray, List.set_cons_zero, List.set_cons_succ])
  refine wpAnyH_take (i := 8) (v := ?_) rfl (by kernel_rfl) (by kernel_rfl) (by kernel_rfl) (fun _ _ _ h => h) (Or.inl ⟨by kernel_rfl, ?_⟩) (by assumption) ?_
  rotate_left 1
  · (intro w hSw; (try dsimp only at hSw); go_simp; (try (with_reducible rfl)))
  (try simp only [List.getElem_toArray, List.getElem_cons_succ, List.getElem_cons_zero, Act.put, List.setIfInBounds_toArray, List.set_cons_zero, List.set_cons_succ])
  refine wpAnyH_take (i := 9) (v := ?_) rfl (by kernel_rfl) (by kernel_rfl) (by kernel_rfl) (fun _ _ _ h => h) (Or.inl ⟨by kernel_rfl, ?_⟩) (by assumption) ?_
  rotate_left 1
  · (intro w hSw; (try dsimp only at hSw); go_simp; (try (with_reducible rfl)))
  (try simp only [List.getElem_toArray, List.getElem_cons_succ, List.getElem_cons_zero, Act.put, List.setIfInBounds_toArray, List.set_cons_zero, List.set_cons_succ])
  refine wpAnyH_take (i := 10) (v := ?_) rfl (by kernel_rfl) (by kernel_rfl) (by kernel_rfl) (fun _ _ _ h => h) (Or.inl ⟨by kernel_rfl, ?_⟩) (by assumption) ?_
  rotate_left 1
  · (intro w hSw; (try dsimp only at hSw); go_simp; (try (with_reducible rfl)))
  (try simp only [List.getElem_toArray, List.getElem_cons_succ, List.getElem_cons_zero, Act.put, List.setIfInBounds_toArray, List.set_cons_zero, List.set_cons_succ])
  refine wpAnyH_take (i := 11) (v := ?_) rfl (by kernel_rfl) (by kernel_rfl) (by kernel_rfl) (fun _ _ _ h => h) (Or.inl ⟨by kernel_rfl, ?_⟩) (by assumption) ?_
  rotate_left 1
  · (intro w hSw; (try dsimp only at hSw); go_simp; (try (with_reducible rfl)))
  (try simp only [List.getElem_toArray, List.getElem_cons_succ, List.getElem_cons_zero, Act.put, List.setIfInBounds_toArray, List.set_cons_zero, List.set_cons_succ])
  refine wpAnyH_take (i := 12) (v := ?_) rfl (by kernel_rfl) (by kernel_rfl) (by kernel_rfl) (fun _ _ _ h => h) (Or.inl ⟨by kernel_rfl, ?_⟩) (by assumption) ?_
  rotate_left 1
  · (intro w hSw; (try dsimp only at hSw); go_simp; (try (with_reducible rfl)))
  (try simp only [List.getElem_toArray, List.getElem_cons_succ, List.getElem_cons_zero, Act.put, List.setIfInBounds_toArray, List.set_cons_zero, List.set_cons_succ])
  refine wpAnyH_take (i := 13) (v := ?_) rfl (by kernel_rfl) (by kernel_rfl) (by kernel_rfl) (fun _ _ _ h => h) (Or.inl ⟨by kernel_rfl, ?_⟩) (by assumption) ?_
  rotate_left 1
  · (intro w hSw; (try dsimp only at hSw); go_simp; (try (with_reducible rfl)))
  (try simp only [List.getElem_toArray, List.getElem_cons_succ, List.getElem_cons_zero, Act.put, List.setIfInBounds_toArray, List.set_cons_zero, List.set_cons_succ])
  refine wpAnyH_take (i := 14) (v := ?_) rfl (by kernel_rfl) (by kernel_rfl) (by kernel_rfl) (fun _ _ _ h => h) (Or.inl ⟨by kernel_rfl, ?_⟩) (by assumption) ?_
  rotate_left 1
  · (intro w hSw; (try dsimp only at hSw); go_simp; (try (with_reducible rfl)))
  (try simp only [List.getElem_toArray, List.getElem_cons_succ, List.getElem_cons_zero, Act.put, List.setIfInBounds_toArray, List.set_cons_zero, List.set_cons_succ])
  refine wpAnyH_take (i := 15) (v := ?_) rfl (by kernel_rfl) (by kernel_rfl) (by kernel_rfl) (fun _ _ _ h => h) (Or.inl ⟨by kernel_rfl, ?_⟩) (by assumption) ?_
  rotate_left 1
  · (intro w hSw; (try dsimp only at hSw); go_simp; (try (with_reducible rfl)))
  (try simp only [List.getElem_toArray, List.getElem_cons_succ, List.getElem_cons_zero, Act.put, List.setIfInBounds_toArray, List.set_cons_zero, List.set_cons_succ])
  refine wpAnyH_take (i := 16) (v := ?_) rfl (by kernel_rfl) (by kernel_rfl) (by kernel_rfl) (fun _ _ _ h => h) (Or.inl ⟨by kernel_rfl, ?_⟩) (by assumption) ?_
  rotate_left 1
  · (intro w hSw; (try dsimp only at hSw); go_simp; (try (with_reducible rfl)))
  (try simp only [List.getElem_toArray, List.getElem_cons_succ, List.getElem_cons_zero, Act.put, List.setIfInBounds_toArray, List.set_cons_zero, List.set_cons_succ])
  refine wpAnyH_ready (rs := [17]) (by kernel_rfl) (by simp) ?_
  refine AllReadyH.cons rfl (fun K hK => ?_) AllReadyH.nil
  go_simp
  go_wp2_with (go_at_call 17; (with_reducible refine (KM.out _ (OMid.bel (And.right (by assumption)))).mono ?_); rintro e w9 ⟨rfl, rfl⟩)
  refine hK.out _ _ ?_ (fun hHeld => ?_)
  · (try dsimp only)
    refine om_S ?_
    first | (with_reducible assumption) | exact OM0.out.drew | exact OMid.drew (And.right (by assumption)) | exact And.right (by assumption)
  clear hK K
  (try simp only [List.getElem_toArray, List.getElem_cons_succ, List.getElem_cons_zero, Act.put, List.setIfInBounds_toArray, List.set_cons_zero, List.set_cons_succ])
  refine wpAnyH_take (i := 18) (v := ?_) rfl (by kernel_rfl) (by kernel_rfl) (by kernel_rfl) (fun _ _ _ h => h) (Or.inl ⟨by kernel_rfl, ?_⟩) (by assumption) ?_
  rotate_left 1
  · (intro w hSw; (try dsimp only at hSw); go_simp; (try (with_reducible rfl)))
  (try simp only [List.getElem_toArray, List.getElem_cons_succ, List.getElem_cons_zero, Act.put, List.setIfInBounds_toArray, List.set_cons_zero, List.set_cons_succ])
  refine wpAnyH_take (i := 19) (v := ?_) rfl (by kernel_rfl) (by kernel_rfl) (by kernel_rfl) (fun _ _ _ h => h) (Or.inl ⟨by kernel_rfl, ?_⟩) (by assumption) ?_
  rotate_left 1
  · (intro w hSw; (try dsimp only at hSw); go_simp; (try (with_reducible rfl)))
  (try simp only [List.getElem_toArray, List.getElem_cons_succ, List.getElem_cons_zero, Act.put, List.setIfInBounds_toArray, List.set_cons_zero, List.set_cons_succ])
  refine wpAnyH_take (i := 20) (v := ?_) rfl (by kernel_rfl) (by kernel_rfl) (by kernel_rfl) (fun _ _ _ h => h) (Or.inl ⟨by kernel_rfl, ?_⟩) (by assumption) ?_
  rotate_left 1
  · (intro w hSw; (try dsimp only at hSw); go_simp; (try (with_reducible rfl)))
  (try simp only [List.getElem_toArray, List.getElem_cons_succ, List.getElem_cons_zero, Act.put, List.setIfInBounds_toArray, List.set_cons_zero, List.set_cons_succ])
  refine wpAnyH_take (i := 21) (v := ?_) rfl (by kernel_rfl) (by kernel_rfl) (by kernel_rfl) (fun _ _ _ h => h) (Or.inl ⟨by kernel_rfl, ?_⟩) (by assumption) ?_
  rotate_left 1
  · (intro w hSw; (try dsimp only at hSw); go_simp; (try (with_reducible rfl)))
  (try simp only [List.getElem_toArray, List.getElem_cons_succ, List.getElem_cons_zero, Act.put, List.setIfInBounds_toArray, List.set_cons_zero, List.set_cons_succ])
  refine wpAnyH_take (i := 22) (v := ?_) rfl (by kernel_rfl) (by kernel_rfl) (by kernel_rfl) (fun _ _ _ h => h) (Or.inl ⟨by kernel_rfl, ?_⟩) (by assumption) ?_
  rotate_left 1
  · (intro w hSw; (try dsimp only at hSw); go_simp; (try (with_reducible rfl)))
  (try simp only [List.getElem_toArray, List.getElem_cons_succ, List.getElem_cons_zero, Act.put, List.setIfInBounds_toArray, List.set_cons_zero, List.set_cons_succ])
  refine wpAnyH_take (i := 23) (v := ?_) rfl (by kernel_rfl) (by kernel_rfl) (by kernel_rfl) (fun _ _ _ h => h) (Or.inl ⟨by kernel_rfl, ?_⟩) (by assumption) ?_
  rotate_left 1
  · (intro w hSw; (try dsimp only at hSw); go_simp; (try (with_reducible rfl)))
  (try simp only [List.getElem_toArray, List.getElem_cons_succ, List.getElem_cons_zero, Act.put, List.setIfInBounds_toArray, List.set_cons_zero, List.set_cons_succ])
  refine wpAnyH_take (i := 24) (v := ?_) rfl (by kernel_rfl) (by kernel_rfl) (by kernel_rfl) (fun _ _ _ h => h) (Or.inl ⟨by kernel_rfl, ?_⟩) (by assumption) ?_
  rotate_left 1
  · (intro w hSw; (try dsimp only at hSw); go_simp; (try (with_reducible rfl)))
  (try simp only [List.getElem_toArray, List.getElem_cons_succ, List.getElem_cons_zero, Act.put, List.setIfInBounds_toArray, List.set_cons_zero, List.set_cons_succ])
  refine wpAnyH_take (i := 25) (v := ?_) rfl (by kernel_rfl) (by kernel_rfl) (by kernel_rfl) (fun _ _ _ h => h) (Or.inl ⟨by kernel_rfl, ?_⟩) (by assumption) ?_
  rotate_left 1
  · (intro w hSw; (try dsimp only at hSw); go_simp; (try (with_reducible rfl)))
  (try simp only [List.getElem_toArray, List.getElem_cons_succ, List.getElem_cons_zero, Act.put, List.setIfInBounds_toArray, List.set_cons_zero, List.set_cons_succ])
  refine wpAnyH_take (i := 27) (v := ?_) rfl (by kernel_rfl) (by kernel_rfl) (by kernel_rfl) (fun _ _ _ h => h) (Or.inl ⟨by kernel_rfl, ?_⟩) (by assumption) ?_
  rotate_left 1
  · (intro w hSw; (try dsimp only at hSw); go_simp; (try (with_reducible rfl)))
  (try simp only [List.getElem_toArray, List.getElem_cons_succ, List.getElem_cons_zero, Act.put, List.setIfInBounds_toArray, List.set_cons_zero, List.set_cons_succ])
  refine wpAnyH_take (i := 28) (v := ?_) rfl (by kernel_rfl) (by kernel_rfl) (by kernel_rfl) (fun _ _ _ h => h) (Or.inl ⟨by kernel_rfl, ?_⟩) (by assumption) ?_
  rotate_left 1
  · (intro w hSw; (try dsimp only at hSw); go_simp; (try (with_reducible rfl)))
  (try simp only [List.getElem_toArray, List.getElem_cons_succ, List.getElem_cons_zero, Act.put, List.setIfInBounds_toArray, List.set_cons_zero, List.set_cons_succ])
  refine wpAnyH_take (i := 29) (v := ?_) rfl (by kernel_rfl) (by kernel_rfl) (by kernel_rfl) (fun _ _ _ h => h) (Or.inl ⟨by kernel_rfl, ?_⟩) (by assumption) ?_
  rotate_left 1
  · (intro w hSw; (try dsimp only at hSw); go_simp; (try (with_reducible rfl)))
  (try simp only [List.getElem_toArray, List.getElem_cons_succ, List.getElem_cons_zero, Act.put, List.setIfInBounds_toArray, List.set_cons_zero, List.set_cons_succ])
  refine wpAnyH_ready (rs := [26]) (by kernel_rfl) (by simp) ?_
  refine AllReadyH.cons rfl (fun K hK => ?_) AllReadyH.nil
  go_simp
  go_wp2_with (go_at_call 51; (with_reducible refine (KA.out _ (OMid.bel (And.right (by assumption)))).mono ?_); rintro e w9 ⟨rfl, rfl⟩)
  refine hK.out _ _ ?_ (fun hHeld => ?_)
  · (try dsimp only)
    refine om_S ?_
    first | (with_reducible assumption) | exact OM0.out.drew | exact OMid.drew (And.right (by assumption)) | exact And.right (by assumption)
  clear hK K
  (try simp only [List.getElem_toArray, List.getElem_cons_succ, List.getElem_cons_zero, Act.put, List.setIfInBounds_toArray, List.set_cons_zero, List.set_cons_succ])
  refine wpAnyH_take (i := 30) (v := ?_) rfl (by kernel_rfl) (by kernel_rfl) (by kernel_rfl) (fun _ _ _ h => h) (Or.inl ⟨by kernel_rfl, ?_⟩) (by assumption) ?_
  rotate_left 1
  · (intro w hSw; (try dsimp only at hSw); go_simp; (try (with_reducible rfl)))
  (try simp only [List.getElem_toArray, List.getElem_cons_succ, List.getElem_cons_zero, Act.put, List.setIfInBounds_toArray, List.set_cons_zero, List.set_cons_succ])
  refine wpAnyH_take (i := 31) (v := ?_) rfl (by kernel_rfl) (by kernel_rfl) (by kernel_rfl) (fun _ _ _ h => h) (Or.inl ⟨by kernel_rfl, ?_⟩) (by assumption) ?_
  rotate_left 1
  · (intro w hSw; (try dsimp only at hSw); go_simp; (try (with_reducible rfl)))
  (try simp only [List.getElem_toArray, List.getElem_cons_succ, List.getElem_cons_zero, Act.put, List.setIfInBounds_toArray, List.set_cons_zero, List.set_cons_succ])
  refine wpAnyH_done (by kernel_rfl) ?_ _
  obtain ⟨w1, rfl⟩ : ∃ w1, w1 = w9 := ⟨_, rfl⟩
  have OM1 := Lib.hid (And.right hHeld)
  clear hHeld KV KM KA OM0 hw hz d1 d2 h1 h2
  have c_0 : w1.cell? ⟨w.heap.size, 0, none⟩ = some (.int .i64 time) := (OM1.out.blk).cell (o := 0) rfl
  have c_1 : w1.cell? ⟨w.heap.size, 1, none⟩ = some (.int .i64 node) := (OM1.out.blk).cell (o := 1) rfl
  have c_2 : w1.cell? ⟨w.heap.size, 2, none⟩ = some (.int .i64 seq) := (OM1.out.blk).cell (o := 2) rfl
  have c_3 : w1.cell? ⟨w.heap.size, 3, none⟩ = some (.int .i64 kind) := (OM1.out.blk).cell (o := 3) rfl
  have c_4 : w1.cell? ⟨w.heap.size, 4, none⟩ = some (.int .i64 ot) := (OM1.out.blk).cell (o := 4) rfl
  have c_5 : w1.cell? ⟨w.heap.size, 5, none⟩ = some (.int .i64 on) := (OM1.out.blk).cell (o := 5) rfl
  have c_6 : w1.cell? ⟨w.heap.size, 6, none⟩ = some (.int .i64 pt) := (OM1.out.blk).cell (o := 6) rfl
  have c_7 : w1.cell? ⟨w.heap.size, 7, none⟩ = some (.int .i64 pn) := (OM1.out.blk).cell (o := 7) rfl
  have c_8 : w1.cell? ⟨w.heap.size, 8, none⟩ = some (.string name) := (OM1.out.blk).cell (o := 8) rfl
  have c_9 : w1.cell? ⟨w.heap.size, 9, none⟩ = some (.slice da data.length dc) := (OM1.out.blk).cell (o := 9) rfl
  have c_10 : w1.cell? ⟨w.heap.size, 10, none⟩ = some (s) := (OM1.out.blk).cell (o := 10) rfl
  by_cases hk1 : kind = 1 ∨ kind = 2
  · have HK := Lib.hid (HK0.out.trans (if_pos hk1))
    clear HK0
    have hkk : ((kind == 1) = true ∧ True) ∨ ((kind == 1) = false ∧ (kind == 2) = true) := by
      rcases hk1 with h | h
      · exact .inl ⟨beq_iff_eq.2 h, trivial⟩
      · exact .inr ⟨beq_eq_false_iff_ne.2 (by omega), beq_iff_eq.2 h⟩
    clear hk1
    rcases hkk with ⟨k1, k2⟩ | ⟨k1, k2⟩
    all_goals
      go_wp2_with fail
      refine (KSm.out _).mono ?_
      rintro e w2 ⟨rfl, hb2⟩
      have OM2 := Lib.hid (OM1.out.below hb2)
      clear hb2 c_0 c_1 c_2 c_3 c_4 c_5 c_6 c_7 c_8 c_9 c_10
      have c_0 : w2.cell? ⟨w.heap.size, 0, none⟩ = some (.int .i64 time) := (OM2.out.blk).cell (o := 0) rfl
      have c_1 : w2.cell? ⟨w.heap.size, 1, none⟩ = some (.int .i64 node) := (OM2.out.blk).cell (o := 1) rfl
      have c_2 : w2.cell? ⟨w.heap.size, 2, none⟩ = some (.int .i64 seq) := (OM2.out.blk).cell (o := 2) rfl
      have c_3 : w2.cell? ⟨w.heap.size, 3, none⟩ = some (.int .i64 kind) := (OM2.out.blk).cell (o := 3) rfl
      have c_4 : w2.cell? ⟨w.heap.size, 4, none⟩ = some (.int .i64 ot) := (OM2.out.blk).cell (o := 4) rfl
      have c_5 : w2.cell? ⟨w.heap.size, 5, none⟩ = some (.int .i64 on) := (OM2.out.blk).cell (o := 5) rfl
      have c_6 : w2.cell? ⟨w.heap.size, 6, none⟩ = some (.int .i64 pt) := (OM2.out.blk).cell (o := 6) rfl
      have c_7 : w2.cell? ⟨w.heap.size, 7, none⟩ = some (.int .i64 pn) := (OM2.out.blk).cell (o := 7) rfl
      have c_8 : w2.cell? ⟨w.heap.size, 8, none⟩ = some (.string name) := (OM2.out.blk).cell (o := 8) rfl
      have c_9 : w2.cell? ⟨w.heap.size, 9, none⟩ = some (.slice da data.length dc) := (OM2.out.blk).cell (o := 9) rfl
      have c_10 : w2.cell? ⟨w.heap.size, 10, none⟩ = some (s) := (OM2.out.blk).cell (o := 10) rfl
      cases eb
      · go_wp2
        go_ret
        exact ⟨ret_b (by rw [← HO.out, HK.out]; simp [*]), OM2.out.bel⟩
      · go_wp2_with fail
        refine (KR.out _).mono ?_
        rintro e w3 ⟨rfl, hb3⟩
        have OM3 := Lib.hid (OM2.out.below hb3)
        clear hb3 c_0 c_1 c_2 c_3 c_4 c_5 c_6 c_7 c_8 c_9 c_10
        have c_0 : w3.cell? ⟨w.heap.size, 0, none⟩ = some (.int .i64 time) := (OM3.out.blk).cell (o := 0) rfl
        have c_1 : w3.cell? ⟨w.heap.size, 1, none⟩ = some (.int .i64 node) := (OM3.out.blk).cell (o := 1) rfl
        have c_2 : w3.cell? ⟨w.heap.size, 2, none⟩ = some (.int .i64 seq) := (OM3.out.blk).cell (o := 2) rfl
        have c_3 : w3.cell? ⟨w.heap.size, 3, none⟩ = some (.int .i64 kind) := (OM3.out.blk).cell (o := 3) rfl
        have c_4 : w3.cell? ⟨w.heap.size, 4, none⟩ = some (.int .i64 ot) := (OM3.out.blk).cell (o := 4) rfl
        have c_5 : w3.cell? ⟨w.heap.size, 5, none⟩ = some (.int .i64 on) := (OM3.out.blk).cell (o := 5) rfl
        have c_6 : w3.cell? ⟨w.heap.size, 6, none⟩ = some (.int .i64 pt) := (OM3.out.blk).cell (o := 6) rfl
        have c_7 : w3.cell? ⟨w.heap.size, 7, none⟩ = some (.int .i64 pn) := (OM3.out.blk).cell (o := 7) rfl
        have c_8 : w3.cell? ⟨w.heap.size, 8, none⟩ = some (.string name) := (OM3.out.blk).cell (o := 8) rfl
        have c_9 : w3.cell? ⟨w.heap.size, 9, none⟩ = some (.slice da data.length dc) := (OM3.out.blk).cell (o := 9) rfl
        have c_10 : w3.cell? ⟨w.heap.size, 10, none⟩ = some (s) := (OM3.out.blk).cell (o := 10) rfl
        cases rb
        · go_wp2_with fail
          refine (KP.out _).mono ?_
          rintro e w4 ⟨rfl, hb4⟩
          have OM4 := Lib.hid (OM3.out.below hb4)
          clear hb4 c_0 c_1 c_2 c_3 c_4 c_5 c_6 c_7 c_8 c_9 c_10
          have c_0 : w4.cell? ⟨w.heap.size, 0, none⟩ = some (.int .i64 time) := (OM4.out.blk).cell (o := 0) rfl
          have c_1 : w4.cell? ⟨w.heap.size, 1, none⟩ = some (.int .i64 node) := (OM4.out.blk).cell (o := 1) rfl
          have c_2 : w4.cell? ⟨w.heap.size, 2, none⟩ = some (.int .i64 seq) := (OM4.out.blk).cell (o := 2) rfl
          have c_3 : w4.cell? ⟨w.heap.size, 3, none⟩ = some (.int .i64 kind) := (OM4.out.blk).cell (o := 3) rfl
          have c_4 : w4.cell? ⟨w.heap.size, 4, none⟩ = some (.int .i64 ot) := (OM4.out.blk).cell (o := 4) rfl
          have c_5 : w4.cell? ⟨w.heap.size, 5, none⟩ = some (.int .i64 on) := (OM4.out.blk).cell (o := 5) rfl
          have c_6 : w4.cell? ⟨w.heap.size, 6, none⟩ = some (.int .i64 pt) := (OM4.out.blk).cell (o := 6) rfl
          have c_7 : w4.cell? ⟨w.heap.size, 7, none⟩ = some (.int .i64 pn) := (OM4.out.blk).cell (o := 7) rfl
          have c_8 : w4.cell? ⟨w.heap.size, 8, none⟩ = some (.string name) := (OM4.out.blk).cell (o := 8) rfl
          have c_9 : w4.cell? ⟨w.heap.size, 9, none⟩ = some (.slice da data.length dc) := (OM4.out.blk).cell (o := 9) rfl
          have c_10 : w4.cell? ⟨w.heap.size, 10, none⟩ = some (s) := (OM4.out.blk).cell (o := 10) rfl
          cases pb
          · go_wp2
            go_ret
            exact ⟨ret_b (by rw [← HO.out, HK.out]; simp [*]), OM4.out.bel⟩
          · go_wp2_with fail
            refine (KN.out _).mono ?_
            rintro e w9 ⟨rfl, hb9⟩
            have OM9 := Lib.hid (OM4.out.below hb9)
            clear hb9 c_0 c_1 c_2 c_3 c_4 c_5 c_6 c_7 c_8 c_9 c_10
            have c_0 : w9.cell? ⟨w.heap.size, 0, none⟩ = some (.int .i64 time) := (OM9.out.blk).cell (o := 0) rfl
            have c_1 : w9.cell? ⟨w.heap.size, 1, none⟩ = some (.int .i64 node) := (OM9.out.blk).cell (o := 1) rfl
            have c_2 : w9.cell? ⟨w.heap.size, 2, none⟩ = some (.int .i64 seq) := (OM9.out.blk).cell (o := 2) rfl
            have c_3 : w9.cell? ⟨w.heap.size, 3, none⟩ = some (.int .i64 kind) := (OM9.out.blk).cell (o := 3) rfl
            have c_4 : w9.cell? ⟨w.heap.size, 4, none⟩ = some (.int .i64 ot) := (OM9.out.blk).cell (o := 4) rfl
            have c_5 : w9.cell? ⟨w.heap.size, 5, none⟩ = some (.int .i64 on) := (OM9.out.blk).cell (o := 5) rfl
            have c_6 : w9.cell? ⟨w.heap.size, 6, none⟩ = some (.int .i64 pt) := (OM9.out.blk).cell (o := 6) rfl
            have c_7 : w9.cell? ⟨w.heap.size, 7, none⟩ = some (.int .i64 pn) := (OM9.out.blk).cell (o := 7) rfl
            have c_8 : w9.cell? ⟨w.heap.size, 8, none⟩ = some (.string name) := (OM9.out.blk).cell (o := 8) rfl
            have c_9 : w9.cell? ⟨w.heap.size, 9, none⟩ = some (.slice da data.length dc) := (OM9.out.blk).cell (o := 9) rfl
            have c_10 : w9.cell? ⟨w.heap.size, 10, none⟩ = some (s) := (OM9.out.blk).cell (o := 10) rfl
            by_cases h0 : ne = 0
            · by_cases h1 : data.length = 0
              · have h2 : ((data.length : Int) == 0) = true := by rw [h1]; rfl
                have n2 : (ne == 0) = true := beq_iff_eq.2 h0
                have e1 := Lib.hid (decide_eq_true h1)
                have e2 := Lib.hid (decide_eq_true h0)
                clear h0 h1
                go_wp2
                go_ret
                exact ⟨ret_b (by rw [← HO.out, HK.out, e1.out, e2.out]; first | rfl | simp), OM9.out.bel⟩
              · have h2 : ((data.length : Int) == 0) = false := beq_eq_false_iff_ne.2 (by omega)
                have n2 : (ne == 0) = true := beq_iff_eq.2 h0
                have e1 := Lib.hid (decide_eq_false h1)
                clear h0 h1
                go_wp2
                go_ret
                exact ⟨ret_b (by rw [← HO.out, HK.out, e1.out]; simp), OM9.out.bel⟩
            · have n2 : (ne == 0) = false := beq_eq_false_iff_ne.2 h0
              have e1 := Lib.hid (decide_eq_false h0)
              clear h0
              go_wp2
              go_ret
              exact ⟨ret_b (by rw [← HO.out, HK.out, e1.out]; simp), OM9.out.bel⟩
        · go_wp2_with fail
          refine (KN.out _).mono ?_
          rintro e w9 ⟨rfl, hb9⟩
          have OM9 := Lib.hid (OM3.out.below hb9)
          clear hb9 c_0 c_1 c_2 c_3 c_4 c_5 c_6 c_7 c_8 c_9 c_10
          have c_0 : w9.cell? ⟨w.heap.size, 0, none⟩ = some (.int .i64 time) := (OM9.out.blk).cell (o := 0) rfl
          have c_1 : w9.cell? ⟨w.heap.size, 1, none⟩ = some (.int .i64 node) := (OM9.out.blk).cell (o := 1) rfl
          have c_2 : w9.cell? ⟨w.heap.size, 2, none⟩ = some (.int .i64 seq) := (OM9.out.blk).cell (o := 2) rfl
          have c_3 : w9.cell? ⟨w.heap.size, 3, none⟩ = some (.int .i64 kind) := (OM9.out.blk).cell (o := 3) rfl
          have c_4 : w9.cell? ⟨w.heap.size, 4, none⟩ = some (.int .i64 ot) := (OM9.out.blk).cell (o := 4) rfl
          have c_5 : w9.cell? ⟨w.heap.size, 5, none⟩ = some (.int .i64 on) := (OM9.out.blk).cell (o := 5) rfl
          have c_6 : w9.cell? ⟨w.heap.size, 6, none⟩ = some (.int .i64 pt) := (OM9.out.blk).cell (o := 6) rfl
          have c_7 : w9.cell? ⟨w.heap.size, 7, none⟩ = some (.int .i64 pn) := (OM9.out.blk).cell (o := 7) rfl
          have c_8 : w9.cell? ⟨w.heap.size, 8, none⟩ = some (.string name) := (OM9.out.blk).cell (o := 8) rfl
          have c_9 : w9.cell? ⟨w.heap.size, 9, none⟩ = some (.slice da data.length dc) := (OM9.out.blk).cell (o := 9) rfl
          have c_10 : w9.cell? ⟨w.heap.size, 10, none⟩ = some (s) := (OM9.out.blk).cell (o := 10) rfl
          by_cases h0 : ne = 0
          · by_cases h1 : data.length = 0
            · have h2 : ((data.length : Int) == 0) = true := by rw [h1]; rfl
              have n2 : (ne == 0) = true := beq_iff_eq.2 h0
              have e1 := Lib.hid (decide_eq_true h1)
              have e2 := Lib.hid (decide_eq_true h0)
              clear h0 h1
              go_wp2
              go_ret
              exact ⟨ret_b (by rw [← HO.out, HK.out, e1.out, e2.out]; first | rfl | simp), OM9.out.bel⟩
            · have h2 : ((data.length : Int) == 0) = false := beq_eq_false_iff_ne.2 (by omega)
              have n2 : (ne == 0) = true := beq_iff_eq.2 h0
              have e1 := Lib.hid (decide_eq_false h1)
              clear h0 h1
              go_wp2
              go_ret
              exact ⟨ret_b (by rw [← HO.out, HK.out, e1.out]; simp), OM9.out.bel⟩
          · have n2 : (ne == 0) = false := beq_eq_false_iff_ne.2 h0
            have e1 := Lib.hid (decide_eq_false h0)
            clear h0
            go_wp2
            go_ret
            exact ⟨ret_b (by rw [← HO.out, HK.out, e1.out]; simp), OM9.out.bel⟩
  · have k1 : (kind == 1) = false := beq_eq_false_iff_ne.2 (by omega)
    have k2 : (kind == 2) = false := beq_eq_false_iff_ne.2 (by omega)
    by_cases hk3 : kind = 3
    · have HK := Lib.hid (HK0.out.trans ((if_neg hk1).trans (if_pos hk3)))
      have k3 : (kind == 3) = true := beq_iff_eq.2 hk3
      clear HK0 hk1 hk3
      go_wp2_with fail
      refine (KB.out _).mono ?_
      rintro e w2 ⟨rfl, hb2⟩
      have OM2 := Lib.hid (OM1.out.below hb2)
      clear hb2 c_0 c_1 c_2 c_3 c_4 c_5 c_6 c_7 c_8 c_9 c_10
      have c_0 : w2.cell? ⟨w.heap.size, 0, none⟩ = some (.int .i64 time) := (OM2.out.blk).cell (o := 0) rfl
      have c_1 : w2.cell? ⟨w.heap.size, 1, none⟩ = some (.int .i64 node) := (OM2.out.blk).cell (o := 1) rfl
      have c_2 : w2.cell? ⟨w.heap.size, 2, none⟩ = some (.int .i64 seq) := (OM2.out.blk).cell (o := 2) rfl
      have c_3 : w2.cell? ⟨w.heap.size, 3, none⟩ = some (.int .i64 kind) := (OM2.out.blk).cell (o := 3) rfl
      have c_4 : w2.cell? ⟨w.heap.size, 4, none⟩ = some (.int .i64 ot) := (OM2.out.blk).cell (o := 4) rfl
      have c_5 : w2.cell? ⟨w.heap.size, 5, none⟩ = some (.int .i64 on) := (OM2.out.blk).cell (o := 5) rfl
      have c_6 : w2.cell? ⟨w.heap.size, 6, none⟩ = some (.int .i64 pt) := (OM2.out.blk).cell (o := 6) rfl
      have c_7 : w2.cell? ⟨w.heap.size, 7, none⟩ = some (.int .i64 pn) := (OM2.out.blk).cell (o := 7) rfl
      have c_8 : w2.cell? ⟨w.heap.size, 8, none⟩ = some (.string name) := (OM2.out.blk).cell (o := 8) rfl
      have c_9 : w2.cell? ⟨w.heap.size, 9, none⟩ = some (.slice da data.length dc) := (OM2.out.blk).cell (o := 9) rfl
      have c_10 : w2.cell? ⟨w.heap.size, 10, none⟩ = some (s) := (OM2.out.blk).cell (o := 10) rfl
      cases lb
      · go_wp2
        go_ret
        exact ⟨ret_b (by rw [← HO.out, HK.out]; simp [*]), OM2.out.bel⟩
      · go_wp2_with fail
        refine (KR.out _).mono ?_
        rintro e w3 ⟨rfl, hb3⟩
        have OM3 := Lib.hid (OM2.out.below hb3)
        clear hb3 c_0 c_1 c_2 c_3 c_4 c_5 c_6 c_7 c_8 c_9 c_10
        have c_0 : w3.cell? ⟨w.heap.size, 0, none⟩ = some (.int .i64 time) := (OM3.out.blk).cell (o := 0) rfl
        have c_1 : w3.cell? ⟨w.heap.size, 1, none⟩ = some (.int .i64 node) := (OM3.out.blk).cell (o := 1) rfl
        have c_2 : w3.cell? ⟨w.heap.size, 2, none⟩ = some (.int .i64 seq) := (OM3.out.blk).cell (o := 2) rfl
        have c_3 : w3.cell? ⟨w.heap.size, 3, none⟩ = some (.int .i64 kind) := (OM3.out.blk).cell (o := 3) rfl
        have c_4 : w3.cell? ⟨w.heap.size, 4, none⟩ = some (.int .i64 ot) := (OM3.out.blk).cell (o := 4) rfl
        have c_5 : w3.cell? ⟨w.heap.size, 5, none⟩ = some (.int .i64 on) := (OM3.out.blk).cell (o := 5) rfl
        have c_6 : w3.cell? ⟨w.heap.size, 6, none⟩ = some (.int .i64 pt) := (OM3.out.blk).cell (o := 6) rfl
        have c_7 : w3.cell? ⟨w.heap.size, 7, none⟩ = some (.int .i64 pn) := (OM3.out.blk).cell (o := 7) rfl
        have c_8 : w3.cell? ⟨w.heap.size, 8, none⟩ = some (.string name) := (OM3.out.blk).cell (o := 8) rfl
        have c_9 : w3.cell? ⟨w.heap.size, 9, none⟩ = some (.slice da data.length dc) := (OM3.out.blk).cell (o := 9) rfl
        have c_10 : w3.cell? ⟨w.heap.size, 10, none⟩ = some (s) := (OM3.out.blk).cell (o := 10) rfl
        cases rb
        · go_wp2_with fail
          refine (KT.out _).mono ?_
          rintro e w4 ⟨rfl, hb4⟩
          have OM4 := Lib.hid (OM3.out.below hb4)
          clear hb4 c_0 c_1 c_2 c_3 c_4 c_5 c_6 c_7 c_8 c_9 c_10
          have c_0 : w4.cell? ⟨w.heap.size, 0, none⟩ = some (.int .i64 time) := (OM4.out.blk).cell (o := 0) rfl
          have c_1 : w4.cell? ⟨w.heap.size, 1, none⟩ = some (.int .i64 node) := (OM4.out.blk).cell (o := 1) rfl
          have c_2 : w4.cell? ⟨w.heap.size, 2, none⟩ = some (.int .i64 seq) := (OM4.out.blk).cell (o := 2) rfl
          have c_3 : w4.cell? ⟨w.heap.size, 3, none⟩ = some (.int .i64 kind) := (OM4.out.blk).cell (o := 3) rfl
          have c_4 : w4.cell? ⟨w.heap.size, 4, none⟩ = some (.int .i64 ot) := (OM4.out.blk).cell (o := 4) rfl
          have c_5 : w4.cell? ⟨w.heap.size, 5, none⟩ = some (.int .i64 on) := (OM4.out.blk).cell (o := 5) rfl
          have c_6 : w4.cell? ⟨w.heap.size, 6, none⟩ = some (.int .i64 pt) := (OM4.out.blk).cell (o := 6) rfl
          have c_7 : w4.cell? ⟨w.heap.size, 7, none⟩ = some (.int .i64 pn) := (OM4.out.blk).cell (o := 7) rfl
          have c_8 : w4.cell? ⟨w.heap.size, 8, none⟩ = some (.string name) := (OM4.out.blk).cell (o := 8) rfl
          have c_9 : w4.cell? ⟨w.heap.size, 9, none⟩ = some (.slice da data.length dc) := (OM4.out.blk).cell (o := 9) rfl
          have c_10 : w4.cell? ⟨w.heap.size, 10, none⟩ = some (s) := (OM4.out.blk).cell (o := 10) rfl
          cases tb
          · go_wp2_with fail
            refine (KP.out _).mono ?_
            rintro e w5 ⟨rfl, hb5⟩
            have OM5 := Lib.hid (OM4.out.below hb5)
            clear hb5 c_0 c_1 c_2 c_3 c_4 c_5 c_6 c_7 c_8 c_9 c_10
            have c_0 : w5.cell? ⟨w.heap.size, 0, none⟩ = some (.int .i64 time) := (OM5.out.blk).cell (o := 0) rfl
            have c_1 : w5.cell? ⟨w.heap.size, 1, none⟩ = some (.int .i64 node) := (OM5.out.blk).cell (o := 1) rfl
            have c_2 : w5.cell? ⟨w.heap.size, 2, none⟩ = some (.int .i64 seq) := (OM5.out.blk).cell (o := 2) rfl
            have c_3 : w5.cell? ⟨w.heap.size, 3, none⟩ = some (.int .i64 kind) := (OM5.out.blk).cell (o := 3) rfl
            have c_4 : w5.cell? ⟨w.heap.size, 4, none⟩ = some (.int .i64 ot) := (OM5.out.blk).cell (o := 4) rfl
            have c_5 : w5.cell? ⟨w.heap.size, 5, none⟩ = some (.int .i64 on) := (OM5.out.blk).cell (o := 5) rfl
            have c_6 : w5.cell? ⟨w.heap.size, 6, none⟩ = some (.int .i64 pt) := (OM5.out.blk).cell (o := 6) rfl
            have c_7 : w5.cell? ⟨w.heap.size, 7, none⟩ = some (.int .i64 pn) := (OM5.out.blk).cell (o := 7) rfl
            have c_8 : w5.cell? ⟨w.heap.size, 8, none⟩ = some (.string name) := (OM5.out.blk).cell (o := 8) rfl
            have c_9 : w5.cell? ⟨w.heap.size, 9, none⟩ = some (.slice da data.length dc) := (OM5.out.blk).cell (o := 9) rfl
            have c_10 : w5.cell? ⟨w.heap.size, 10, none⟩ = some (s) := (OM5.out.blk).cell (o := 10) rfl
            cases pb
            · go_wp2
              go_ret
              exact ⟨ret_b (by rw [← HO.out, HK.out]; simp [*]), OM5.out.bel⟩
            · go_wp2_with fail
              refine (KN.out _).mono ?_
              rintro e w9 ⟨rfl, hb9⟩
              have OM9 := Lib.hid (OM5.out.below hb9)
              clear hb9 c_0 c_1 c_2 c_3 c_4 c_5 c_6 c_7 c_8 c_9 c_10
              have c_0 : w9.cell? ⟨w.heap.size, 0, none⟩ = some (.int .i64 time) := (OM9.out.blk).cell (o := 0) rfl
              have c_1 : w9.cell? ⟨w.heap.size, 1, none⟩ = some (.int .i64 node) := (OM9.out.blk).cell (o := 1) rfl
              have c_2 : w9.cell? ⟨w.heap.size, 2, none⟩ = some (.int .i64 seq) := (OM9.out.blk).cell (o := 2) rfl
              have c_3 : w9.cell? ⟨w.heap.size, 3, none⟩ = some (.int .i64 kind) := (OM9.out.blk).cell (o := 3) rfl
              have c_4 : w9.cell? ⟨w.heap.size, 4, none⟩ = some (.int .i64 ot) := (OM9.out.blk).cell (o := 4) rfl
              have c_5 : w9.cell? ⟨w.heap.size, 5, none⟩ = some (.int .i64 on) := (OM9.out.blk).cell (o := 5) rfl
              have c_6 : w9.cell? ⟨w.heap.size, 6, none⟩ = some (.int .i64 pt) := (OM9.out.blk).cell (o := 6) rfl
              have c_7 : w9.cell? ⟨w.heap.size, 7, none⟩ = some (.int .i64 pn) := (OM9.out.blk).cell (o := 7) rfl
              have c_8 : w9.cell? ⟨w.heap.size, 8, none⟩ = some (.string name) := (OM9.out.blk).cell (o := 8) rfl
              have c_9 : w9.cell? ⟨w.heap.size, 9, none⟩ = some (.slice da data.length dc) := (OM9.out.blk).cell (o := 9) rfl
              have c_10 : w9.cell? ⟨w.heap.size, 10, none⟩ = some (s) := (OM9.out.blk).cell (o := 10) rfl
              by_cases h0 : ne = 0
              · by_cases h1 : data.length = 0
                · have h2 : ((data.length : Int) == 0) = true := by rw [h1]; rfl
                  have n2 : (ne == 0) = true := beq_iff_eq.2 h0
                  have e1 := Lib.hid (decide_eq_true h1)
                  have e2 := Lib.hid (decide_eq_true h0)
                  clear h0 h1
                  go_wp2
                  go_ret
                  exact ⟨ret_b (by rw [← HO.out, HK.out, e1.out, e2.out]; first | rfl | simp), OM9.out.bel⟩
                · have h2 : ((data.length : Int) == 0) = false := beq_eq_false_iff_ne.2 (by omega)
                  have n2 : (ne == 0) = true := beq_iff_eq.2 h0
                  have e1 := Lib.hid (decide_eq_false h1)
                  clear h0 h1
                  go_wp2
                  go_ret
                  exact ⟨ret_b (by rw [← HO.out, HK.out, e1.out]; simp), OM9.out.bel⟩
              · have n2 : (ne == 0) = false := beq_eq_false_iff_ne.2 h0
                have e1 := Lib.hid (decide_eq_false h0)
                clear h0
                go_wp2
                go_ret
                exact ⟨ret_b (by rw [← HO.out, HK.out, e1.out]; simp), OM9.out.bel⟩
          · go_wp2_with fail
            refine (KN.out _).mono ?_
            rintro e w9 ⟨rfl, hb9⟩
            have OM9 := Lib.hid (OM4.out.below hb9)
            clear hb9 c_0 c_1 c_2 c_3 c_4 c_5 c_6 c_7 c_8 c_9 c_10
            have c_0 : w9.cell? ⟨w.heap.size, 0, none⟩ = some (.int .i64 time) := (OM9.out.blk).cell (o := 0) rfl
            have c_1 : w9.cell? ⟨w.heap.size, 1, none⟩ = some (.int .i64 node) := (OM9.out.blk).cell (o := 1) rfl
            have c_2 : w9.cell? ⟨w.heap.size, 2, none⟩ = some (.int .i64 seq) := (OM9.out.blk).cell (o := 2) rfl
            have c_3 : w9.cell? ⟨w.heap.size, 3, none⟩ = some (.int .i64 kind) := (OM9.out.blk).cell (o := 3) rfl
            have c_4 : w9.cell? ⟨w.heap.size, 4, none⟩ = some (.int .i64 ot) := (OM9.out.blk).cell (o := 4) rfl
            have c_5 : w9.cell? ⟨w.heap.size, 5, none⟩ = some (.int .i64 on) := (OM9.out.blk).cell (o := 5) rfl
            have c_6 : w9.cell? ⟨w.heap.size, 6, none⟩ = some (.int .i64 pt) := (OM9.out.blk).cell (o := 6) rfl
            have c_7 : w9.cell? ⟨w.heap.size, 7, none⟩ = some (.int .i64 pn) := (OM9.out.blk).cell (o := 7) rfl
            have c_8 : w9.cell? ⟨w.heap.size, 8, none⟩ = some (.string name) := (OM9.out.blk).cell (o := 8) rfl
            have c_9 : w9.cell? ⟨w.heap.size, 9, none⟩ = some (.slice da data.length dc) := (OM9.out.blk).cell (o := 9) rfl
            have c_10 : w9.cell? ⟨w.heap.size, 10, none⟩ = some (s) := (OM9.out.blk).cell (o := 10) rfl
            by_cases h0 : ne = 0
            · by_cases h1 : data.length = 0
              · have h2 : ((data.length : Int) == 0) = true := by rw [h1]; rfl
                have n2 : (ne == 0) = true := beq_iff_eq.2 h0
                have e1 := Lib.hid (decide_eq_true h1)
                have e2 := Lib.hid (decide_eq_true h0)
                clear h0 h1
                go_wp2
                go_ret
                exact ⟨ret_b (by rw [← HO.out, HK.out, e1.out, e2.out]; first | rfl | simp), OM9.out.bel⟩
              · have h2 : ((data.length : Int) == 0) = false := beq_eq_false_iff_ne.2 (by omega)
                have n2 : (ne == 0) = true := beq_iff_eq.2 h0
                have e1 := Lib.hid (decide_eq_false h1)
                clear h0 h1
                go_wp2
                go_ret
                exact ⟨ret_b (by rw [← HO.out, HK.out, e1.out]; simp), OM9.out.bel⟩
            · have n2 : (ne == 0) = false := beq_eq_false_iff_ne.2 h0
              have e1 := Lib.hid (decide_eq_false h0)
              clear h0
              go_wp2
              go_ret
              exact ⟨ret_b (by rw [← HO.out, HK.out, e1.out]; simp), OM9.out.bel⟩
        · go_wp2_with fail
          refine (KN.out _).mono ?_
          rintro e w9 ⟨rfl, hb9⟩
          have OM9 := Lib.hid (OM3.out.below hb9)
          clear hb9 c_0 c_1 c_2 c_3 c_4 c_5 c_6 c_7 c_8 c_9 c_10
          have c_0 : w9.cell? ⟨w.heap.size, 0, none⟩ = some (.int .i64 time) := (OM9.out.blk).cell (o := 0) rfl
          have c_1 : w9.cell? ⟨w.heap.size, 1, none⟩ = some (.int .i64 node) := (OM9.out.blk).cell (o := 1) rfl
          have c_2 : w9.cell? ⟨w.heap.size, 2, none⟩ = some (.int .i64 seq) := (OM9.out.blk).cell (o := 2) rfl
          have c_3 : w9.cell? ⟨w.heap.size, 3, none⟩ = some (.int .i64 kind) := (OM9.out.blk).cell (o := 3) rfl
          have c_4 : w9.cell? ⟨w.heap.size, 4, none⟩ = some (.int .i64 ot) := (OM9.out.blk).cell (o := 4) rfl
          have c_5 : w9.cell? ⟨w.heap.size, 5, none⟩ = some (.int .i64 on) := (OM9.out.blk).cell (o := 5) rfl
          have c_6 : w9.cell? ⟨w.heap.size, 6, none⟩ = some (.int .i64 pt) := (OM9.out.blk).cell (o := 6) rfl
          have c_7 : w9.cell? ⟨w.heap.size, 7, none⟩ = some (.int .i64 pn) := (OM9.out.blk).cell (o := 7) rfl
          have c_8 : w9.cell? ⟨w.heap.size, 8, none⟩ = some (.string name) := (OM9.out.blk).cell (o := 8) rfl
          have c_9 : w9.cell? ⟨w.heap.size, 9, none⟩ = some (.slice da data.length dc) := (OM9.out.blk).cell (o := 9) rfl
          have c_10 : w9.cell? ⟨w.heap.size, 10, none⟩ = some (s) := (OM9.out.blk).cell (o := 10) rfl
          by_cases h0 : ne = 0
          · by_cases h1 : data.length = 0
            · have h2 : ((data.length : Int) == 0) = true := by rw [h1]; rfl
              have n2 : (ne == 0) = true := beq_iff_eq.2 h0
              have e1 := Lib.hid (decide_eq_true h1)
              have e2 := Lib.hid (decide_eq_true h0)
              clear h0 h1
              go_wp2
              go_ret
              exact ⟨ret_b (by rw [← HO.out, HK.out, e1.out, e2.out]; first | rfl | simp), OM9.out.bel⟩
            · have h2 : ((data.length : Int) == 0) = false := beq_eq_false_iff_ne.2 (by omega)
              have n2 : (ne == 0) = true := beq_iff_eq.2 h0
              have e1 := Lib.hid (decide_eq_false h1)
              clear h0 h1
              go_wp2
              go_ret
              exact ⟨ret_b (by rw [← HO.out, HK.out, e1.out]; simp), OM9.out.bel⟩
          · have n2 : (ne == 0) = false := beq_eq_false_iff_ne.2 h0
            have e1 := Lib.hid (decide_eq_false h0)
            clear h0
            go_wp2
            go_ret
            exact ⟨ret_b (by rw [← HO.out, HK.out, e1.out]; simp), OM9.out.bel⟩
    · have k3 : (kind == 3) = false := beq_eq_false_iff_ne.2 hk3
      by_cases hk4 : kind = 4
      · have HK := Lib.hid (HK0.out.trans ((if_neg hk1).trans ((if_neg hk3).trans (if_pos hk4))))
        have k4 : (kind == 4) = true := beq_iff_eq.2 hk4
        clear HK0 hk1 hk3 hk4
        go_wp2_with fail
        refine (KB.out _).mono ?_
        rintro e w2 ⟨rfl, hb2⟩
        have OM2 := Lib.hid (OM1.out.below hb2)
        clear hb2 c_0 c_1 c_2 c_3 c_4 c_5 c_6 c_7 c_8 c_9 c_10
        have c_0 : w2.cell? ⟨w.heap.size, 0, none⟩ = some (.int .i64 time) := (OM2.out.blk).cell (o := 0) rfl
        have c_1 : w2.cell? ⟨w.heap.size, 1, none⟩ = some (.int .i64 node) := (OM2.out.blk).cell (o := 1) rfl
        have c_2 : w2.cell? ⟨w.heap.size, 2, none⟩ = some (.int .i64 seq) := (OM2.out.blk).cell (o := 2) rfl
        have c_3 : w2.cell? ⟨w.heap.size, 3, none⟩ = some (.int .i64 kind) := (OM2.out.blk).cell (o := 3) rfl
        have c_4 : w2.cell? ⟨w.heap.size, 4, none⟩ = some (.int .i64 ot) := (OM2.out.blk).cell (o := 4) rfl
        have c_5 : w2.cell? ⟨w.heap.size, 5, none⟩ = some (.int .i64 on) := (OM2.out.blk).cell (o := 5) rfl
        have c_6 : w2.cell? ⟨w.heap.size, 6, none⟩ = some (.int .i64 pt) := (OM2.out.blk).cell (o := 6) rfl
        have c_7 : w2.cell? ⟨w.heap.size, 7, none⟩ = some (.int .i64 pn) := (OM2.out.blk).cell (o := 7) rfl
        have c_8 : w2.cell? ⟨w.heap.size, 8, none⟩ = some (.string name) := (OM2.out.blk).cell (o := 8) rfl
        have c_9 : w2.cell? ⟨w.heap.size, 9, none⟩ = some (.slice da data.length dc) := (OM2.out.blk).cell (o := 9) rfl
        have c_10 : w2.cell? ⟨w.heap.size, 10, none⟩ = some (s) := (OM2.out.blk).cell (o := 10) rfl
        cases lb
        · go_wp2
          go_ret
          exact ⟨ret_b (by rw [← HO.out, HK.out]; simp [*]), OM2.out.bel⟩
        · go_wp2_with fail
          refine (KR.out _).mono ?_
          rintro e w3 ⟨rfl, hb3⟩
          have OM3 := Lib.hid (OM2.out.below hb3)
          clear hb3 c_0 c_1 c_2 c_3 c_4 c_5 c_6 c_7 c_8 c_9 c_10
          have c_0 : w3.cell? ⟨w.heap.size, 0, none⟩ = some (.int .i64 time) := (OM3.out.blk).cell (o := 0) rfl
          have c_1 : w3.cell? ⟨w.heap.size, 1, none⟩ = some (.int .i64 node) := (OM3.out.blk).cell (o := 1) rfl
          have c_2 : w3.cell? ⟨w.heap.size, 2, none⟩ = some (.int .i64 seq) := (OM3.out.blk).cell (o := 2) rfl
          have c_3 : w3.cell? ⟨w.heap.size, 3, none⟩ = some (.int .i64 kind) := (OM3.out.blk).cell (o := 3) rfl
          have c_4 : w3.cell? ⟨w.heap.size, 4, none⟩ = some (.int .i64 ot) := (OM3.out.blk).cell (o := 4) rfl
          have c_5 : w3.cell? ⟨w.heap.size, 5, none⟩ = some (.int .i64 on) := (OM3.out.blk).cell (o := 5) rfl
          have c_6 : w3.cell? ⟨w.heap.size, 6, none⟩ = some (.int .i64 pt) := (OM3.out.blk).cell (o := 6) rfl
          have c_7 : w3.cell? ⟨w.heap.size, 7, none⟩ = some (.int .i64 pn) := (OM3.out.blk).cell (o := 7) rfl
          have c_8 : w3.cell? ⟨w.heap.size, 8, none⟩ = some (.string name) := (OM3.out.blk).cell (o := 8) rfl
          have c_9 : w3.cell? ⟨w.heap.size, 9, none⟩ = some (.slice da data.length dc) := (OM3.out.blk).cell (o := 9) rfl
          have c_10 : w3.cell? ⟨w.heap.size, 10, none⟩ = some (s) := (OM3.out.blk).cell (o := 10) rfl
          cases rb
          · go_wp2
            go_ret
            exact ⟨ret_b (by rw [← HO.out, HK.out]; simp [*]), OM3.out.bel⟩
          · by_cases hne : name.toList = []
            · have hne2 : name.toList.isEmpty = true := by simpa using hne
              have e1 := Lib.hid (decide_eq_true hne)
              clear hne
              go_wp2
              go_ret
              exact ⟨ret_b (by rw [← HO.out, HK.out, e1.out]; simp only [Bool.true_and]; first | rfl | exact decide_eq_decide.2 (by omega)), OM3.out.bel⟩
            · have hne2 : name.toList.isEmpty = false := by simpa using hne
              have e1 := Lib.hid (decide_eq_false hne)
              go_wp2
              go_ret
              exact ⟨ret_b (by rw [← HO.out, HK.out, e1.out]; rfl), OM3.out.bel⟩
      · have HK := Lib.hid (HK0.out.trans ((if_neg hk1).trans ((if_neg hk3).trans (if_neg hk4))))
        have k4 : (kind == 4) = false := beq_eq_false_iff_ne.2 hk4
        clear HK0 hk1 hk3 hk4
        go_wp2
        go_ret
        exact ⟨ret_b (by rw [← HO.out, HK.out]), OM1.out.bel⟩
theorem refMayOp (o : Opr) (d s : Value) (w : World) (hd : Rdv u8v w d o.data) (hs : Rdv i64v w s o.seen) (hn : o.name.size < 4294967281) :
    Calls Tryz.prog 18 #[.agg #[.int .i64 (o).time, .int .i64 (o).node, .int .i64 (o).seq, .int .i64 (o).kind, .int .i64 (o).ot, .int .i64 (o).on, .int .i64 (o).pt, .int .i64 (o).pn, .string (o).name, d, s]] w fun e w' => e = .returned (.bool (mayB o)) ∧ Below w.heap.size w w' := by
  cases hq : (validID o.time o.node && decide (1 ≤ o.seq) && decide (o.seq ≤ 1152921504606846976) && seenB o.seen o.node o.seq)
  · exact refMayNo o d s w hd hs hn hq
  · have h2 := hq
    simp only [Bool.and_eq_true, decide_eq_true_eq] at hq
    obtain ⟨⟨⟨q1, q2⟩, q3⟩, q4⟩ := hq
    have e : mayB o = kindB o := by unfold mayB; rw [h2]; rfl
    rw [e]
    exact refMayOk o d s w hd hs hn q1 q2 q3 q4
end Go.Proofs.YthbalmoafpggdaaGreat

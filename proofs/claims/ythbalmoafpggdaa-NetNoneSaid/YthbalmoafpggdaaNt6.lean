/- A net: find, At. -/
import Derived.Test.YthbalmoafpggdaaChecked
import Derived.WalkKit
import Derived.Outline
import Derived.WalkSpells
import Derived.WalkLawsBesides
import Derived.Deep.QuietTactic
import Derived.Deep.RegionWith
import Derived.Deep.DeepMust
import Derived.BigQuiet
import Derived.Test.YthbalmoafpggdaaMem
import Derived.RegionTactic
import Derived.ChangeAlike
import Derived.StillTailTactics
import Derived.BigRegion
import Derived.Deep.LoopGhost
import Derived.Deep.RegionHeld
import Derived.Deep.RegionHeld3
import Derived.Deep.RegionLaw
import Derived.Deep.AppendLies
import Derived.Deep.DeepCutAuto
import Derived.Deep.CutBlock
import Derived.IntWalk
import Derived.Test.YthbalmoafpggdaaNt5
namespace Go.Proofs.Ythbalmoafpggdaa
open Go.RowKit
set_option linter.unusedVariables false
set_option linter.unusedSimpArgs false
abbrev encP (q : Int) : Value := .pointer (some ⟨q.toNat, 0, none⟩)
theorem map_encP (xs : List Wy) : (xs.map fun x => (x.p : Int)).map encP = xs.map wyP := by simp [wyP, encP]
theorem comp_encP : (encP ∘ fun x : Wy => (x.p : Int)) = wyP := by funext x; simp [encP, wyP]
theorem nLenN (nb : Nat) (room came : Int) (lv : Value) (xs : List Wy) (w : World) (h : NetG w nb room came lv xs) : Calls Try.prog 46 #[.pointer (some ⟨nb, 0, none⟩)] w fun e w' => e = .returned (.int .i64 xs.length) ∧ w = w' := by
  obtain ⟨la, lc, rfl, _, _, _⟩ := own_shape h.own
  have n_1 : w.cell? ⟨nb, 1, none⟩ = some (.slice la xs.length lc) := h.blk.cell (o := 1) rfl
  clear h
  go_enter Try.func46, Try.ntmps46
  go_wp2
  go_ret
  exact ⟨rfl, rfl⟩
theorem nLenNil (w : World) : Calls Try.prog 46 #[.pointer none] w fun e w' => e = .returned (.int .i64 0) ∧ w = w' := by
  go_enter Try.func46, Try.ntmps46
  go_wp2
  go_ret
  exact ⟨rfl, rfl⟩
def ClnPost (xs : List Wy) (w : World) (e : Ending) (w' : World) : Prop := ∃ v, e = .returned v ∧ w'.ownsRow w.heap.size 120 1 v xs.length (xs.map wyP) ∧ Below w.heap.size w w'
set_option maxRecDepth 100000 in
theorem nClone (g c : Nat) (B : Nat) (xs : List Wy) (w : World) (h : w.ownsRow B 120 1 (.slice (some ⟨g, 0, none⟩) xs.length c) xs.length (xs.map wyP)) (hl : xs.length ≤ 1000) :
    Calls Try.prog 111 #[.slice (some ⟨g, 0, none⟩) xs.length c] w (ClnPost xs w) := by
  obtain ⟨i0, hi, hz0, hz1, hz2⟩ := info_parts Wy.info
  obtain ⟨_, _, h3, h4, _⟩ := own_cells h
  have hr : Rdv encP w (.slice (some ⟨g, 0, none⟩) xs.length c) (xs.map fun x => (x.p : Int)) := Rdv.of_owns (n := xs.length) (by rw [map_encP]; exact h)
  have hq := fun w' => Lib.run_eql_slice_nil (P := Try.prog) w' 128 120 (some ⟨g, 0, none⟩) xs.length c 0 0 Try.underlying128
  have ho := World.ownsRow_made (base := w.heap.size) (e := 120) (size := 1) w #[] 0 (Nat.le_refl _) (by unfold maxLen; omega) rfl
  clear h
  go_enter Try.func111, Try.ntmps111
  go_wp2_with (at_builtin; refine wpList_append_rd rfl _ _ 128 rfl w.heap.size 120 i0 (.pointer none) 8 Try.underlying128 hi hz0 hz1 hz2 rfl _ 0 _ rfl ho (.slice (some ⟨g, 0, none⟩) xs.length c) encP (xs.map fun x => (x.p : Int)) rfl (hr.alloc _) (fun _ => rfl) ?c1 ?c2 ?c3 ?_)
  case c1 => unfold maxLen; simp; omega
  case c2 => simp; omega
  case c3 => simp
  intro v4 w4 ho4 hg4 _
  have b4 := ((Below.refl w.heap.size w).alloc (Nat.le_refl _) (.cells #[] 120)).grown hg4 (by simp) (fun q hq => by simp [Value.ownBlock] at hq; omega)
  rw [comp_encP] at ho4
  have HO := Lib.hid ho4
  clear ho4 ho hg4 hq
  go_wp2
  go_ret
  exact ⟨v4, rfl, by simpa using HO.out, b4⟩
def FindPost (x : Wy) (w : World) (e : Ending) (w' : World) : Prop := e = .returned (wyP x) ∧ Below w.heap.size w w'
set_option maxHeartbeats 2000000 in
set_option maxRecDepth 100000 in
theorem nFind0 (nb g c : Nat) (room came : Int) (x : Wy) (xs : List Wy) (w : World) (h : NetG w nb room came (.slice (some ⟨g, 0, none⟩) (xs.length + 1) c) (x :: xs)) (hl : xs.length ≤ 100) :
    Calls Try.prog 83 #[.pointer (some ⟨nb, 0, none⟩), .int .i64 0] w (FindPost x w) := by
  have n_1 : w.cell? ⟨nb, 1, none⟩ = some (.slice (some ⟨g, 0, none⟩) (xs.length + 1) c) := h.blk.cell (o := 1) rfl
  have KL := Lib.hid (nLenN nb room came _ _ w h)
  have KC := Lib.hid (nClone g c nb (x :: xs) w h.own (by simp; omega))
  simp only [List.length_cons] at KL KC
  have hn1 : (0 : Int) < ((xs.length + 1 : Nat) : Int) := by omega
  have hn2 : ¬ (((xs.length + 1 : Nat) : Int) ≤ 0) := by omega
  have hn3 : (0 : Int) < (xs.length : Int) + 1 := by omega
  clear h
  go_enter Try.func83, Try.ntmps83
  go_wp2_with fail
  refine KL.out.mono ?_
  rintro e w1 ⟨rfl, rfl⟩
  go_wp2_with fail
  refine KC.out.mono ?_
  rintro e w2 ⟨v2, rfl, ho, hb⟩
  obtain ⟨a2, c2, rfl, q1, q2, _⟩ := own_shape ho
  have hr := Rdv.of_owns (enc := encP) (xs := (x :: xs).map fun x => (x.p : Int)) (by rw [map_encP]; exact ho)
  obtain ⟨b2, o2, rfl, hc0⟩ : ∃ b o, a2 = some ⟨b, o, none⟩ ∧ w2.cell? ⟨b, o, none⟩ = some (.pointer (some ⟨x.p, 0, none⟩)) := by
    obtain ⟨_, _, e, _, _, h3⟩ := hr
    rw [Value.slice.injEq] at e
    obtain ⟨rfl, _, _⟩ := e
    rcases h3 with h3 | ⟨b, o, e, h3⟩
    · simp at h3
    · exact ⟨b, o, e, by have := h3 0 (by simp); simpa [encP] using this⟩
  have B2 := Lib.hid hb
  have hbl : b2 < w2.heap.size := World.block_lt_of_cell? w2 _ hc0
  clear ho hb hr KL KC
  simp only [List.length_cons] at *
  go_wp2
  go_loopw [20] (fun kv wr => kv = .int .i64 0 ∧ wr = w2.alloc (.cells #[.slice (some ⟨b2, o2, none⟩) (xs.length + 1) c2] 128)) (fun _ _ => 0)
  case atStart => exact ⟨rfl, rfl⟩
  case round =>
    obtain ⟨rfl, rfl⟩ := hrel
    go_wp2
    go_ret
    exact ⟨rfl, B2.out.alloc B2.out.size _⟩
set_option maxRecDepth 100000 in
theorem nFindNil (w : World) : Calls Try.prog 83 #[.pointer none, .int .i64 0] w fun e w' => e = .returned (.pointer none) ∧ w = w' := by
  go_enter Try.func83, Try.ntmps83
  go_wp2_with fail
  refine (nLenNil _).mono ?_
  rintro e w1 ⟨rfl, rfl⟩
  go_wp2
  go_ret
  exact ⟨rfl, rfl⟩
end Go.Proofs.Ythbalmoafpggdaa

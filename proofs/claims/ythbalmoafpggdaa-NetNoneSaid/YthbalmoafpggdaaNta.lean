/- The laws of layer 25: NetNone. -/
import Derived.Test.YthbalmoafpggdaaChecked
import Derived.WalkKit
import Derived.Outline
import Derived.WalkSpells
import Derived.WalkLawsBesides
import Derived.Deep.QuietTactic
import Derived.Deep.RegionWith
import Derived.Deep.DeepMust
import Derived.BigQuiet
import Derived.Test.YthbalmoafpggdaaMem
import Derived.RegionTactic
import Derived.ChangeAlike
import Derived.StillTailTactics
import Derived.BigRegion
import Derived.Deep.LoopGhost
import Derived.Deep.RegionHeld
import Derived.Deep.RegionHeld3
import Derived.Deep.RegionLaw
import Derived.Deep.AppendLies
import Derived.Deep.DeepCutAuto
import Derived.Deep.CutBlock
import Derived.IntWalk
import Derived.Deep.OwnRows
import Derived.Test.YthbalmoafpggdaaNt9
namespace Go.Proofs.Ythbalmoafpggdaa
open Go.RowKit
set_option linter.unusedVariables false
set_option linter.unusedSimpArgs false
theorem made_rdv (w : World) (n : Nat) (hn : n ≤ maxLen) : Rdv u8v (w.alloc (.cells (madeCells #[.int .u8 0] n) 5)) (.slice (some ⟨w.heap.size, 0, none⟩) n n) (List.replicate n 0) := by
  have h0 := Blk.new w (madeCells #[.int .u8 0] n) 5
  have e : madeCells #[Value.int .u8 0] n = ((List.replicate n (0 : Int)).map u8v).toArray := by
    apply Array.toList_inj.1; rw [toList_madeCells_one]; simp
  rw [e] at h0
  have := Rdv.of_blk (enc := u8v) h0 (by rw [List.length_replicate]; exact hn)
  rw [List.length_replicate, ← e] at this
  exact this
theorem mk85 (w : World) : (Instr.makeSlice 24 (.int .i64 1048585) (.int .i64 1048585)).run Try.prog w = .ok (.slice (some ⟨w.heap.size, 0, none⟩) 1048585 1048585) (w.alloc (.cells (madeCells #[.int .u8 0] 1048585) 5)) :=
  run_make_row' (P := Try.prog) 24 5 (.int .u8 0) 1 Try.underlying24 Try.info5 rfl .i64 .i64 1048585 (by omega) (by omega) w
theorem mk84 (w : World) : (Instr.makeSlice 24 (.int .i64 1048584) (.int .i64 1048584)).run Try.prog w = .ok (.slice (some ⟨w.heap.size, 0, none⟩) 1048584 1048584) (w.alloc (.cells (madeCells #[.int .u8 0] 1048584) 5)) :=
  run_make_row' (P := Try.prog) 24 5 (.int .u8 0) 1 Try.underlying24 Try.info5 rfl .i64 .i64 1048584 (by omega) (by omega) w
theorem below_ns0 {w0 w w' : World} {nb : Nat} (h0 : Below w0.heap.size w0 w) (hn : w0.heap.size ≤ nb) (h : Chg (NS nb (.slice none 0 0)) w w') : Below w0.heap.size w0 w' :=
  h.below_trans h0 h0.size (fun i hi e => by
    rcases e with e | e
    · omega
    · simp [Value.ownBlock] at e)
set_option maxHeartbeats 8000000 in
set_option maxRecDepth 100000 in
theorem netNone_walk (w : World) : Calls Try.prog 8 #[] w (NTrue w) := by
  have mk1 := mk85
  have mk2 := mk84
  obtain ⟨L, hL, hLl⟩ : ∃ L : List Int, (∀ w5 : World, Rdv u8v (w5.alloc (.cells (madeCells #[.int .u8 0] 1048584) 5)) (.slice (some ⟨w5.heap.size, 0, none⟩) 1048584 1048584) L) ∧ L.length ≤ 1048584 := ⟨List.replicate 1048584 0, fun w5 => made_rdv w5 1048584 (by unfold maxLen; omega), by rw [List.length_replicate]; exact Nat.le_refl _⟩
  generalize madeCells #[.int .u8 0] 1048585 = Z1 at mk1
  generalize madeCells #[.int .u8 0] 1048584 = Z2 at mk2 hL
  go_enter Try.func8, Try.ntmps8
  go_wp2_with fail
  refine (nAtNil _).mono ?_
  rintro e w1 ⟨rfl, hb1⟩
  have B1 := Lib.hid (hb1.alloc hb1.size (.cells #[.int .i64 0, .int .i64 0, .int .i64 0, .slice none 0 0] 73))
  clear hb1
  go_wp2_with fail
  refine (nTakeNil _).mono ?_
  rintro e w2 ⟨rfl, hb2⟩
  have B2 := Lib.hid ((B1.out.trans (hb2.mono B1.out.size)).alloc (B1.out.trans (hb2.mono B1.out.size)).size (.cells #[.int .i64 0, .int .i64 0, .int .i64 0, .slice none 0 0] 73))
  clear hb2
  go_wp2_with fail
  refine (nNextNil _ _).mono ?_
  rintro e w3 ⟨rfl, hb3⟩
  have B3 := Lib.hid ((B2.out.trans (hb3.mono B2.out.size)).alloc (B2.out.trans (hb3.mono B2.out.size)).size (.cells #[.int .i64 0, .int .i64 0, .int .i64 0, .slice none 0 0] 73))
  clear hb3
  go_wp2_with fail
  obtain ⟨W, hW⟩ : ∃ W, W = w3.alloc (.cells #[.int .i64 0, .int .i64 0, .int .i64 0, .slice none 0 0] 73) := ⟨_, rfl⟩
  rw [← hW] at B3 ⊢
  clear hW
  refine (nNew 2 W (by omega) (by omega)).mono ?_
  rintro e w4 ⟨rfl, hw4⟩
  have N4 := Lib.hid (hw4 ▸ NetG.new 2 W : NetG w4 W.heap.size 2 0 (.slice none 0 0) [])
  have B4 := Lib.hid (hw4 ▸ B3.out.alloc B3.out.size (.cells #[.int .i64 2, .slice none 0 0, .int .i64 0] 130) : Below w.heap.size w w4)
  have hb4 : W.heap.size < w4.heap.size := N4.out.blk.lt
  have hWz := B3.out.size
  clear hw4
  have A4 := Lib.hid ((Below.refl w4.heap.size w4).alloc (Nat.le_refl _) (.cells Z1 5))
  have K4 := Lib.hid (nPutLong W.heap.size 2 0 _ [] 0 0 0 (some ⟨w4.heap.size, 0, none⟩) 1048585 1048585 _ (N4.out.below A4.out) (by simp) (by omega) (by omega) (by omega) (by omega))
  go_wp2_with fail
  refine K4.out.mono ?_
  rintro e w5 ⟨rfl, hb5⟩
  have hb5' := A4.out.trans (hb5.mono A4.out.size)
  have N5 := Lib.hid (N4.out.below hb5')
  have B5 := Lib.hid (B4.out.trans (hb5'.mono B4.out.size))
  have hb5z : W.heap.size < w5.heap.size := N5.out.blk.lt
  clear hb5 hb5' K4 A4 N4 B4
  have A5 := Lib.hid ((Below.refl w5.heap.size w5).alloc (Nat.le_refl _) (.cells Z2 5))
  have K5 := Lib.hid (nPut W.heap.size 2 0 (.slice none 0 0) [] 0 0 0 _ L _ (N5.out.below A5.out) (.inl rfl) (by simp) (by omega) (by omega) (hL w5) hLl (by omega) (fun b o n c e => by rw [Value.slice.injEq] at e; obtain ⟨e, _⟩ := e; injection e with e; injection e with e _; omega))
  go_wp2_with fail
  refine K5.out.mono ?_
  rintro e w6 ⟨rfl, _, _, _, _, _, _, hg6⟩
  have B6 := Lib.hid (below_ns0 (B5.out.trans (A5.out.mono B5.out.size)) hWz hg6)
  clear hg6 K5 A5 N5 B5
  go_wp2_with fail
  refine (netBegun w6).mono ?_
  rintro e w7 ⟨rfl, hb7⟩
  have B7 := Lib.hid (B6.out.trans (hb7.mono B6.out.size))
  clear hb7
  go_wp2_with fail
  refine (nPutNil 0 0 0 w7).mono ?_
  rintro e w8 ⟨rfl, hb8⟩
  have B8 := Lib.hid (B7.out.trans (hb8.mono B7.out.size))
  clear hb8
  go_wp2_with fail
  refine (nDupNil w8).mono ?_
  rintro e w9 ⟨rfl, hb9⟩
  have B9 := Lib.hid (B8.out.trans (hb9.mono B8.out.size))
  clear hb9
  go_wp2_with fail
  refine (nSpoilNil 1 w9).mono ?_
  rintro e w10 ⟨rfl, hb10⟩
  have B10 := Lib.hid (B9.out.trans (hb10.mono B9.out.size))
  clear hb10
  go_wp2_with fail
  refine (nCutNil w10).mono ?_
  rintro e w11 ⟨rfl, hb11⟩
  have B11 := Lib.hid (B10.out.trans (hb11.mono B10.out.size))
  clear hb11
  go_wp2_with fail
  refine (nLenNil w11).mono ?_
  rintro e w12 ⟨rfl, rfl⟩
  go_wp2
  go_ret
  exact ⟨rfl, B11.out⟩
end Go.Proofs.Ythbalmoafpggdaa

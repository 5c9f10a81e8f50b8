/- The laws of package device: begun, DeviceNone. -/
import Derived.Test.YtgpfkdlnmifiiaaChecked
import Derived.WalkKit
import Derived.Outline
import Derived.WalkSpells
import Derived.WalkLawsBesides
import Derived.Deep.QuietTactic
import Derived.Deep.RegionWith
import Derived.Deep.DeepMust
import Derived.BigQuiet
import Derived.Test.YtgpfkdlnmifiiaaMem
import Derived.RegionTactic
import Derived.ChangeAlike
import Derived.StillTailTactics
import Derived.Deep.RegionHeld
import Derived.Deep.OwnRows
import Derived.Test.YtgpfkdlnmifiiaaDev3
namespace Go.Proofs.Ytgpfkdlnmifiiaa
open Go.RowKit
set_option linter.unusedVariables false
set_option linter.unusedSimpArgs false
def DevTrue (w : World) (e : Ending) (w' : World) : Prop := e = .returned (.bool true) ∧ Below w.heap.size w w'
theorem dv_below {w w1 w2 : World} {S : Nat → Prop} (h : Below w.heap.size w w1) (g : Chg S w1 w2) (hs : ∀ k, S k → w.heap.size ≤ k) : Below w.heap.size w w2 :=
  Chg.below_trans h g h.size (fun i hi e => by have := hs i e; omega)
theorem dv_under {w w1 w2 : World} (h : Below w.heap.size w w1) (g : Below w1.heap.size w1 w2) : Below w.heap.size w w2 := h.trans (g.mono h.size)
theorem fresh_cell {w w' : World} {l : List Int} {v : Value} (h : FreshPost l w v w') (hl : 0 < l.length) : ∃ g c, v = .slice (some ⟨g, 0, none⟩) l.length c ∧ w.heap.size ≤ g ∧ l.length ≤ c ∧ c ≤ 9223372036854775807 ∧ Rdv u8v w' v l := by
  obtain ⟨⟨g, c, rfl, hg⟩, ho, hb⟩ := h
  have hr := Rdv.of_owns (enc := u8v) (xs := l) ho
  obtain ⟨_, h1, h2, _⟩ := hr.cap
  unfold maxLen at h2
  exact ⟨g, c, rfl, hg, h1, h2, hr⟩
theorem fullL_one (n : Nat) (q : Int) : fullL [q] n = List.replicate n q := by
  unfold fullL
  rw [List.map_congr_left (g := fun _ => q) (fun i _ => by simp [Nat.mod_one]), List.map_const', List.length_range]
theorem val1_rdv {w : World} {v : Value} {l : List Int} (h : Cont w v l) : Val1 v := by
  rcases h.2 with ⟨h, _⟩ | ⟨g, c, h, _⟩
  · exact ⟨_, _, _, h⟩
  · exact ⟨_, _, _, h⟩
set_option maxHeartbeats 4000000 in
set_option maxRecDepth 100000 in
theorem devBegun (w : World) : Calls Try.prog 57 #[] w (DevTrue w) := by
  have kc := fun (w : World) (C : Array Value) (n c : Nat) => Lib.run_convert_bytes_const (P := Try.prog) w 46 5 C n c Try.underlying46 Try.underlying5
  go_enter Try.func57, Try.ntmps57
  go_wp2_with fail
  refine (devNew_ok 3 w (by omega) (by omega)).mono ?_
  rintro e w1 ⟨b, u, rfl, z1, z2, hD, hb⟩
  have D1 := Lib.hid (hD.of_below ((Below.refl w1.heap.size w1).alloc (Nat.le_refl _) (.cells #[.int .u8 97] 5 (1, 2))))
  have B1 := Lib.hid (hb.alloc hb.size (.cells #[.int .u8 97] 5 (1, 2)))
  have R1 : Rdv u8v (w1.alloc (.cells #[.int .u8 97] 5 (1, 2))) (.slice (some ⟨w1.heap.size, 0, none⟩) 1 1) [97] := rdv_mark w1 [97] _ _ (by unfold maxLen; simp)
  have R1 := Lib.hid R1
  clear hD hb
  go_wp2_with fail
  refine (lawFull _ [97] 512 _ (by omega) R1.out).mono ?_
  rintro e w2 ⟨B, hB, rfl, hblk, hb⟩
  rw [fullL_one] at hblk
  have D2 := D1.out.of_below hb
  have B2 := dv_under B1.out hb
  have hB1 : w.heap.size ≤ B := by have := B1.out.size; omega
  have hBb : ¬ B = b := by have := D1.out.1.lt; omega
  have hBu : ¬ B = u := by have := D1.out.2.1.lt; omega
  have R2 : Rdv u8v w2 (.slice (some ⟨B, 0, none⟩) 512 512) (List.replicate 512 97) := by
    have := Rdv.of_blk (enc := u8v) hblk (by unfold maxLen; simp)
    rwa [List.length_replicate] at this
  clear hb hblk B1 D1 R1
  have D2 := Lib.hid D2
  have B2 := Lib.hid B2
  have R2 := Lib.hid R2
  go_wp2_with fail
  refine (devWrite_ok b u _ 0 0 0 nilD _ _ w2 D2.out (by simp) rfl R2.out (by simp) (by omega)).mono ?_
  rintro e w3 ⟨v3, g3, c3, rfl, rfl, hg3, r3, D3, C3⟩
  have D3 := Lib.hid D3
  have R3 := Lib.hid (R2.out.chgB C3 (by omega))
  have B3 := Lib.hid (dv_below B2.out C3 (by omega))
  have r3 := Lib.hid r3
  have hg3b : ¬ g3 = b ∧ ¬ g3 = u := by have := D2.out.1.lt; have := D2.out.2.1.lt; omega
  clear D2 R2 B2 C3
  go_wp2_with fail
  refine (devWrite_ok b u _ 0 1 2 nilD _ _ w3 D3.out (by simp) rfl R3.out (by simp) (by omega)).mono ?_
  rintro e w4 ⟨v4, g4, c4, rfl, rfl, hg4, r4, D4, C4⟩
  have D4 := Lib.hid D4
  have B4 := Lib.hid (dv_below B3.out C4 (by omega))
  have r34 := Lib.hid (r3.out.chgB C4 (by omega))
  have r4 := Lib.hid r4
  clear D3 R3 B3 C4 r3
  go_wp2_with fail
  refine (devCrashC b u _ false 0 false 2 w4 D4.out (by simp) ?_).mono ?_
  · intro d hd
    simp [nilD] at hd
    rcases hd with rfl | rfl | rfl <;> exact ⟨⟨_, _, _, rfl⟩, ⟨_, _, _, rfl⟩⟩
  rintro e w5 ⟨bc, uc, rfl, q1, q2, DC, hb5⟩
  have DC := Lib.hid DC
  have D5 := Lib.hid (D4.out.of_below hb5)
  have B5 := Lib.hid (dv_under B4.out hb5)
  have r5 := Lib.hid (r4.out.below hb5)
  clear D4 B4 hb5 r4 r34
  have K0 := devRead_ok bc uc _ false 0 false 0 0 (crashD false (.slice (some ⟨g3, 0, none⟩) 512 c3, .slice none 0 0, true)) (List.replicate 512 0) w5 DC.out (by simp [crashTo]) (by rfl) ⟨by simp, .inl ⟨rfl, rfl⟩⟩
  have K0 := Lib.hid K0
  go_wp2_with fail
  refine K0.out.mono ?_
  rintro e w6 ⟨v6, rfl, hf6⟩
  have B6 := Lib.hid (dv_under B5.out hf6.2.2)
  have D6 := Lib.hid (D5.out.of_below hf6.2.2)
  have DC6 := Lib.hid (DC.out.of_below hf6.2.2)
  have r6 := Lib.hid (r5.out.below hf6.2.2)
  obtain ⟨g6, c6, rfl, hg6, l6, m6, f6⟩ := fresh_cell hf6 (by simp)
  have F6 := Lib.hid f6
  clear B5 D5 DC r5 K0 hf6 f6
  have K1 := devRead_ok bc uc _ false 0 false 0 2 (crashD true (.slice (some ⟨g4, 0, none⟩) 512 c4, .slice none 0 0, true)) (List.replicate 512 97) w6 DC6.out (by simp [crashTo]) (by rfl) ⟨by simp, .inr ⟨g4, c4, rfl, r6.out⟩⟩
  have K1 := Lib.hid K1
  go_wp2_with fail
  refine K1.out.mono ?_
  rintro e w7 ⟨v7, rfl, hf7⟩
  have B7 := Lib.hid (dv_under B6.out hf7.2.2)
  have D7 := Lib.hid (D6.out.of_below hf7.2.2)
  have F7 := Lib.hid (F6.out.below hf7.2.2)
  obtain ⟨g7, c7, rfl, hg7, l7, m7, f7⟩ := fresh_cell hf7 (by simp)
  have p0 : w7.cell? ⟨g6, 0, none⟩ = some (.int .u8 0) := F7.out.at0 0 (by simp)
  have q0 : w7.cell? ⟨g7, 0, none⟩ = some (.int .u8 97) := f7.at0 0 (by simp)
  have KL := Lib.hid (devLoose b u _ false 0 false 2 w7 D7.out)
  rw [List.length_replicate] at l6 l7 ⊢
  clear f7 hf7 K1 D6 DC6 r6 F6 F7
  go_wp2_with fail
  refine KL.out.mono ?_
  rintro e w8 ⟨v8, rfl, r8, b8⟩
  have D8 := Lib.hid (D7.out.of_below b8)
  have B8 := Lib.hid (dv_under B7.out b8)
  obtain ⟨a8, n8, c8, rfl⟩ := r8.shape
  obtain ⟨rfl, _, _, _⟩ := r8.cap
  clear r8 b8
  go_wp2_with fail
  refine (devCount b u _ false 0 false 2 w8 D8.out).mono ?_
  rintro e w9 ⟨rfl, rfl⟩
  go_wp2
  go_ret
  exact ⟨rfl, B8.out⟩
set_option maxHeartbeats 4000000 in
set_option maxRecDepth 100000 in
theorem deviceNone_walk (w : World) : Calls Try.prog 13 #[] w (DevTrue w) := by
  have hmk : ∀ w', (Instr.makeSlice 46 (.int .i64 512) (.int .i64 512)).run Try.prog w' = .ok (.slice (some ⟨w'.heap.size, 0, none⟩) 512 512) (w'.alloc (.cells (madeCells #[.int .u8 0] 512) 5)) := fun w' => run_make_row' (P := Try.prog) 46 5 (.int .u8 0) 1 Try.underlying46 Try.info5 rfl .i64 .i64 512 (by omega) (by omega) w'
  go_enter Try.func13, Try.ntmps13
  go_wp2_with (first | (go_at_call 67; refine (devFuseNil _ _).mono ?_; rintro e w1 ⟨rfl, rfl⟩) | (go_at_call 61; refine (devReadNil _).mono ?_; rintro e w1 ⟨rfl, rfl⟩) | (go_at_call 57; refine (devBegun _).mono ?_; rintro e wb ⟨rfl, hbb⟩) | (go_at_call 60; refine (devWriteNil _ _).mono ?_; rintro e w1 ⟨rfl, rfl⟩) | (go_at_call 68; refine (devFlushNil _).mono ?_; rintro e w1 ⟨rfl, rfl⟩) | (go_at_call 69; refine (devDeadNil _).mono ?_; rintro e w1 ⟨rfl, rfl⟩) | (go_at_call 70; refine (devBlocksNil _).mono ?_; rintro e w1 ⟨rfl, rfl⟩) | (go_at_call 71; refine (devCountNil _).mono ?_; rintro e w1 ⟨rfl, rfl⟩) | (go_at_call 63; refine (devLooseNil _).mono ?_; rintro e w1 ⟨rfl, rfl⟩) | (go_at_call 62; refine (devCrashNilNil _).mono ?_; rintro e w1 ⟨rfl, rfl⟩) | (go_at_call 58; refine (devNew_bad _ _ (by omega)).mono ?_; rintro e w1 ⟨rfl, rfl⟩))
  go_ret
  exact ⟨rfl, hbb.alloc hbb.size _⟩
end Go.Proofs.Ytgpfkdlnmifiiaa

/- The law CrcBig: its walk. -/
import Derived.Test.YtgpfkdlnmifiiaaChecked
import Derived.WalkKit
import Derived.Outline
import Derived.WalkSpells
import Derived.WalkLawsBesides
import Derived.Deep.QuietTactic
import Derived.Deep.RegionWith
import Derived.Deep.DeepMust
import Derived.BigQuiet
import Derived.Test.YtgpfkdlnmifiiaaMem
import Derived.RegionTactic
import Derived.ChangeAlike
import Derived.StillTailTactics
import Derived.Deep.LoopGhost
import Derived.Test.YtgpfkdlnmifiiaaCrcL
namespace Go.Proofs.Ytgpfkdlnmifiiaa
open Go.RowKit
set_option linter.unusedVariables false
set_option linter.unusedSimpArgs false
theorem crcAddNil (v : Value) (w : World) : Calls Try.prog 45 #[.pointer none, v] w fun e w' => e = .returned (.tuple #[]) ∧ w = w' := by
  go_enter Try.func45, Try.ntmps45
  go_wp2
  refine bodyPost_ret (results_none rfl _ _ _) rfl ?_
  exact ⟨rfl, rfl⟩
theorem crcValueNil (w : World) : Calls Try.prog 46 #[.pointer none] w fun e w' => e = .returned (.int .u32 0) ∧ w = w' := by
  go_enter Try.func46, Try.ntmps46
  go_wp2
  go_ret
  exact ⟨rfl, rfl⟩
theorem made_zeros (w : World) (B : Nat) (v : Value) (n : Nat) (h : w.ownsRow B 5 1 v n (madeCells #[.int .u8 0] n).toList) : w.ownsRow B 5 1 v n ((List.replicate n (0 : Int)).map u8v) := by
  rw [toList_madeCells_one] at h
  simpa using h
theorem zeros_byt (n : Nat) : Byt (List.replicate n 0) := by
  intro q hq
  rw [List.mem_replicate] at hq
  omega
theorem frameL_len (l : List Int) : (frameL l).length = 8 + l.length := by simp [frameL, le4_len]; omega
set_option maxHeartbeats 4000000 in
set_option maxRecDepth 100000 in
theorem crcBig_n (n1 n2 : Nat) (h1 : n1 = 1048577) (h2 : n2 = 1048576) (w : World) : Calls Try.prog 9 #[] w (CrcBegun w) := by
  have kc := fun (w : World) (C : Array Value) (n c : Nat) => Lib.run_convert_bytes_const (P := Try.prog) w 46 5 C n c Try.underlying46 Try.underlying5
  obtain ⟨i0, hi, hz0, hz1, hz2⟩ := info_parts Try.info5
  have E1 : Hid ((1048577 : Int) = (n1 : Int)) := by show (1048577 : Int) = (n1 : Int); omega
  have E2 : Hid ((1048576 : Int) = (n2 : Int)) := by show (1048576 : Int) = (n2 : Int); omega
  have hm1 : i0.bytes * n1 ≤ 281474976710656 := by rw [hz2]; omega
  have hm2 : i0.bytes * n2 ≤ 281474976710656 := by rw [hz2]; omega
  have g1 : 1048576 < n1 := by omega
  have g2 : n1 ≤ 1048577 := by omega
  have g3 : n2 ≤ 1048576 := by omega
  have g4 : Hid (8 + n2 = 1048584) := by show 8 + n2 = 1048584; omega
  clear h1 h2
  have hlz : ∀ n, (List.replicate n (0 : Int)).length = n := fun n => List.length_replicate ..
  have HZ := Lib.hid hlz
  clear hlz
  go_enter Try.func9, Try.ntmps9
  go_wp2_with (at_make; refine wpList_make_full _ rfl _ _ 46 rfl w.heap.size 5 i0 (.int .u8 0) 1 Try.underlying46 hi hz0 hz1 .i64 .i64 1048577 1048577 n1 rfl rfl E1.out E1.out hm1 (by unfold maxLen; omega) (Nat.le_refl _) ?_)
  intro w1 o1 gr1
  replace o1 := made_zeros _ _ _ _ o1
  have b1 : Below w.heap.size w w1 := (Below.refl _ w).grown gr1 (Nat.le_refl _) (fun k hk => by cases hk)
  have z1 := b1.size
  have r1 := Rdv.of_owns o1
  clear o1 gr1
  go_wp2_with fail
  refine (crcFrameBig _ _ _ r1 (by rw [HZ.out]; omega)).mono ?_
  rintro e w1' ⟨rfl, rfl⟩
  clear r1
  go_wp2_with (at_make; refine wpList_make_full _ rfl _ _ 46 rfl w.heap.size 5 i0 (.int .u8 0) 1 Try.underlying46 hi hz0 hz1 .i64 .i64 1048576 1048576 n2 rfl rfl E2.out E2.out hm2 (by unfold maxLen; omega) z1 ?_)
  intro w2 o2 gr2
  replace o2 := made_zeros _ _ _ _ o2
  have b2 : Below w.heap.size w w2 := b1.grown gr2 z1 (fun k hk => by cases hk)
  have z2 := b2.size
  have r2 := Rdv.of_owns o2
  clear o2 gr2
  go_wp2_with fail
  refine (crcFrameOk _ _ _ r2 (zeros_byt n2) (by rw [HZ.out]; omega)).mono ?_
  rintro e w3 ⟨v3, rfl, o3, b3'⟩
  have r3 := Rdv.of_owns o3
  obtain ⟨a3, m3, c3, rfl⟩ := r3.shape
  obtain ⟨rfl, _, k3, _⟩ := r3.cap
  have hl3 : (frameL (List.replicate n2 0)).length = 1048584 := by rw [frameL_len, HZ.out]; exact g4.out
  rw [hl3]
  have b3 := b2.trans (b3'.mono z2)
  have z3 := b3.size
  clear r2 o3 b3' r3 hl3
  go_wp2_with fail
  refine (crcAddNil _ _).mono ?_
  rintro e w4 ⟨rfl, rfl⟩
  go_wp2_with fail
  refine (crcBegun _).mono ?_
  rintro e w5 ⟨rfl, b5'⟩
  have b5 := (b3.alloc z3 _).trans (b5'.mono (by simp; omega))
  have z5 := b5.size
  clear b5'
  go_wp2_with fail
  refine (crcValueNil _).mono ?_
  rintro e w6 ⟨rfl, rfl⟩
  go_wp2_with fail
  refine (crcOfC _ [] _ ⟨none, 0, rfl, Nat.le_refl _, Nat.zero_le _, .inl rfl⟩ (fun l hl => by cases hl)).mono ?_
  rw [show crcOf ([] : List (List Int)).flatten = 0 from by decide +kernel]
  rintro e w7 ⟨rfl, b7⟩
  go_wp2
  go_ret
  exact ⟨rfl, b5.trans (b7.mono z5)⟩
theorem crcBig_walk (w : World) : Calls Try.prog 9 #[] w (CrcBegun w) := crcBig_n 1048577 1048576 rfl rfl w
end Go.Proofs.Ytgpfkdlnmifiiaa

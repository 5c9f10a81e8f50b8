/- Laws of inode: InodeCost, InodeNone. -/
import Derived.Test.YtfcddpbpfckjfaaChecked
import Derived.WalkKit
import Derived.Outline
import Derived.WalkSpells
import Derived.WalkLawsBesides
import Derived.Deep.QuietTactic
import Derived.Deep.RegionWith
import Derived.Deep.DeepMust
import Derived.BigQuiet
import Derived.Test.YtfcddpbpfckjfaaMem
import Derived.RegionTactic
import Derived.ChangeAlike
import Derived.StillTailTactics
import Derived.BigRegion
import Derived.Deep.LoopGhost
import Derived.Deep.RegionHeld3
import Derived.Deep.OwnRows
import Derived.Test.YtfcddpbpfckjfaaIo
namespace Go.Proofs.Ytfcddpbpfckjfaa
open Go.RowKit
set_option linter.unusedVariables false
set_option linter.unusedSimpArgs false
theorem inodeCost_walk (n : Int) (w : World) (hb : -9223372036854775808 ≤ n ∧ n ≤ 9223372036854775807) : Calls Try.prog 8 #[.int .i64 n] w (BegunPost w) := by
  have KB := Lib.hid (inoBegun w)
  have K1 := Lib.hid (fun w => inoCost n w hb.1 hb.2)
  have K2 := Lib.hid (fun w => refCost n w hb.1 hb.2)
  clear hb
  go_enter Try.func8, Try.ntmps8
  go_wp2_with fail
  refine KB.out.mono ?_
  rintro e w1 ⟨rfl, hb1⟩
  have B1 := Lib.hid hb1
  clear hb1 KB
  go_wp2_with fail
  refine (K1.out _).mono ?_
  rintro e w2 ⟨rfl, rfl⟩
  go_wp2_with fail
  refine (K2.out _).mono ?_
  rintro e w2 ⟨rfl, rfl⟩
  go_wp2
  go_ret
  exact ⟨ret_b (by simp), B1.out⟩
theorem inoReadNil (p : Value) (w : World) : Calls Try.prog 45 #[.pointer none, p, .int .i64 0, .int .i64 5] w fun e w' => e = .returned (.tuple #[.slice none 0 0, .int .i64 22]) ∧ w = w' := by
  go_enter Try.func45, Try.ntmps45
  go_wp2
  go_ret2
  exact ⟨rfl, rfl⟩
theorem inoWriteNil (p q v : Value) (w : World) : Calls Try.prog 47 #[.pointer none, p, q, .int .i64 0, v] w fun e w' => e = .returned (.int .i64 22) ∧ w = w' := by
  go_enter Try.func47, Try.ntmps47
  go_wp2
  go_ret
  exact ⟨rfl, rfl⟩
theorem inoTruncNil (p q : Value) (w : World) : Calls Try.prog 48 #[.pointer none, p, q, .int .i64 0] w fun e w' => e = .returned (.int .i64 22) ∧ w = w' := by
  go_enter Try.func48, Try.ntmps48
  go_wp2
  go_ret
  exact ⟨rfl, rfl⟩
set_option maxHeartbeats 1000000 in
set_option maxRecDepth 100000 in
theorem inodeNone_walk (w : World) : Calls Try.prog 10 #[] w (BegunPost w) := by
  have KD := Lib.hid (show Calls Try.prog 44 #[.int .i64 10] w (DiskPost 9 w) from inoDisk 9 w (by omega) (by omega))
  have kc := fun (w : World) (C : Array Value) (n c : Nat) => Lib.run_convert_bytes_const (P := Try.prog) w 48 5 C n c Try.underlying48 Try.underlying5
  go_enter Try.func10, Try.ntmps10
  go_wp2_with fail
  refine KD.out.mono ?_
  rintro e w1 ⟨vb, b, g, cb, mb, mp, mu, rfl, _, hb1⟩
  have B1 := Lib.hid hb1
  clear hb1 KD
  go_wp2_with fail
  refine (inoReadNil _ _).mono ?_
  rintro e w2 ⟨rfl, rfl⟩
  go_wp2_with fail
  refine (inoNew w1).mono ?_
  rintro e w2 ⟨rfl, rfl⟩
  have b2 : Below w1.heap.size w1 (w1.alloc (.cells (inoC 0 0 0 0 0 0 0 0 0 0 0) 110)) := (Below.refl _ _).alloc (Nat.le_refl _) _
  have hN2 := Blk.new w1 (inoC 0 0 0 0 0 0 0 0 0 0 0) 110
  obtain ⟨nb, hnb⟩ : ∃ nb : Nat, w1.heap.size = nb := ⟨_, rfl⟩
  generalize w1.alloc (.cells (inoC 0 0 0 0 0 0 0 0 0 0 0) 110) = w2 at *
  rw [hnb] at hN2
  (try rw [hnb])
  have B2 := Lib.hid (B1.out.trans (b2.mono B1.out.size))
  have N2 := Lib.hid hN2
  clear b2 hN2 hnb
  go_wp2_with fail
  refine (inoBegun w2).mono ?_
  rintro e w3 ⟨rfl, hb3⟩
  have N3 := Lib.hid (blkBelow hb3 N2.out N2.out.lt)
  have B3 := Lib.hid (B2.out.trans (hb3.mono B2.out.size))
  clear hb3
  go_wp2_with fail
  refine (inoWriteNil _ _ _ _).mono ?_
  rintro e w4 ⟨rfl, rfl⟩
  have b4 : Below w3.heap.size w3 (w3.alloc (.cells #[.int .u8 97] 5 (1, 2))) := (Below.refl _ _).alloc (Nat.le_refl _) _
  have N4 := Lib.hid (blkBelow b4 N3.out N3.out.lt)
  have B4 := Lib.hid (B3.out.trans (b4.mono B3.out.size))
  clear b4
  generalize w3.alloc (.cells #[.int .u8 97] 5 (1, 2)) = w4 at *
  go_wp2_with fail
  refine (inoTruncNil _ _ _).mono ?_
  rintro e w5 ⟨rfl, rfl⟩
  go_wp2_with fail
  refine (inoSizeNil _).mono ?_
  rintro e w5 ⟨rfl, rfl⟩
  go_wp2_with fail
  refine (inoBytes N4.out (by omega) (by simp)).mono ?_
  rintro e w5 ⟨v5, rfl, ho5, hb5⟩
  obtain ⟨va, vc, rfl, _, _, _⟩ := own_shape ho5
  have hl : Hid ((inoB 0 [0, 0, 0, 0, 0, 0, 0, 0, 0, 0]).length = 44) := Lib.hid (by rw [inoB_len]; rfl)
  have hli : (((inoB 0 [0, 0, 0, 0, 0, 0, 0, 0, 0, 0]).length : Nat) : Int) = 44 := by rw [hl.out]; rfl
  have B5 := Lib.hid (B4.out.trans (hb5.mono B4.out.size))
  clear ho5 hb5
  have KC := Lib.hid (inoCost 65536 w5 (by omega) (by omega))
  rw [show costC 65536 = 131 by decide +kernel] at KC
  go_wp2_with fail
  refine KC.out.mono ?_
  rintro e w6 ⟨rfl, rfl⟩
  go_wp2
  go_ret
  exact ⟨rfl, B5.out⟩
end Go.Proofs.Ytfcddpbpfckjfaa

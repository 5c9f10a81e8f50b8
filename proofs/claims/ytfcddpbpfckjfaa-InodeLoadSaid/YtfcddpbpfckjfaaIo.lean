/- Some bytes are kept: begun. -/
import Derived.Test.YtfcddpbpfckjfaaChecked
import Derived.WalkKit
import Derived.Outline
import Derived.WalkSpells
import Derived.WalkLawsBesides
import Derived.Deep.QuietTactic
import Derived.Deep.RegionWith
import Derived.Deep.DeepMust
import Derived.BigQuiet
import Derived.Test.YtfcddpbpfckjfaaMem
import Derived.RegionTactic
import Derived.ChangeAlike
import Derived.StillTailTactics
import Derived.BigRegion
import Derived.Deep.LoopGhost
import Derived.Deep.RegionHeld3
import Derived.Deep.OwnRows
import Derived.Test.YtfcddpbpfckjfaaIn
namespace Go.Proofs.Ytfcddpbpfckjfaa
open Go.RowKit
set_option linter.unusedVariables false
set_option linter.unusedSimpArgs false
theorem inoSizeL {w : World} {nb s : Nat} {L : List Nat} (h : Blk w nb (inoCL s L) 110) : Calls Try.prog 49 #[.pointer (some ⟨nb, 0, none⟩)] w fun e w' => e = .returned (.int .i64 (s : Int)) ∧ w = w' := by
  have c0 : w.cell? ⟨nb, 0, none⟩ = some (.int .i64 (s : Int)) := h.cell (o := 0) rfl
  clear h
  go_enter Try.func49, Try.ntmps49
  go_wp2
  go_ret
  exact ⟨rfl, rfl⟩
def begL : List Int := inoB 703 [0, 1, 0, 0, 0, 0, 0, 0, 0, 0]
theorem begL_facts : begL.length = 44 ∧ get4 begL = 703 := by decide +kernel
theorem us2_free : freeTo (us2 19) (us2 19).length = 18 := by decide +kernel
theorem abc_read : (abcB.drop 187).take 4 = [0, 97, 98, 99] := by decide +kernel
def BegunPost (w : World) (e : Ending) (w' : World) : Prop := e = .returned (.bool true) ∧ Below w.heap.size w w'
set_option maxHeartbeats 2000000 in
set_option maxRecDepth 100000 in
theorem inoBegun (w : World) : Calls Try.prog 39 #[] w (BegunPost w) := by
  have KD := Lib.hid (show Calls Try.prog 44 #[.int .i64 20] w (DiskPost 19 w) from inoDisk 19 w (by omega) (by omega))
  have kc := fun (w : World) (C : Array Value) (n c : Nat) => Lib.run_convert_bytes_const (P := Try.prog) w 48 5 C n c Try.underlying48 Try.underlying5
  go_enter Try.func39, Try.ntmps39
  go_wp2_with fail
  refine KD.out.mono ?_
  rintro e w1 ⟨vb, b, g, cb, mb, mp, mu, rfl, hK, hb1⟩
  have z1 := hb1.size
  have lv := Blk.lt hK.dis.vol.1
  have lg : g < w1.heap.size := by obtain ⟨vs, h1, _⟩ := hK.dis.vol.2; exact h1.lt
  have lc := Blk.lt hK.dis.cch.1
  have lmb : mb < w1.heap.size := World.ownsMap.lt (show MapC w1 mb none from hK.dis.cch.2)
  have lm := Blk.lt hK.map.1
  have lmu := Blk.lt hK.map.2.1
  obtain ⟨g1, g2, g3, g4, g5, g6⟩ := hK.ge
  have K1 := Lib.hid hK
  have B1 := Lib.hid hb1
  clear hK hb1 KD
  go_wp2_with fail
  refine (inoNew w1).mono ?_
  rintro e w2 ⟨rfl, rfl⟩
  have b2 : Below w1.heap.size w1 (w1.alloc (.cells (inoC 0 0 0 0 0 0 0 0 0 0 0) 110)) := (Below.refl _ _).alloc (Nat.le_refl _) _
  have hN2 := Blk.new w1 (inoC 0 0 0 0 0 0 0 0 0 0 0) 110
  obtain ⟨nb, hnb⟩ : ∃ nb : Nat, w1.heap.size = nb := ⟨_, rfl⟩
  generalize w1.alloc (.cells (inoC 0 0 0 0 0 0 0 0 0 0 0) 110) = w2 at *
  rw [hnb] at hN2
  have nl := hN2.lt
  (try rw [hnb])
  have hz2 := b2.size
  have B2 := Lib.hid (B1.out.trans (b2.mono z1))
  have bA : Below w2.heap.size w2 (w2.alloc (.cells #[.int .u8 97, .int .u8 98, .int .u8 99] 5 (3, 4))) := (Below.refl _ _).alloc (Nat.le_refl _) _
  have b3 : Below w1.heap.size w1 (w2.alloc (.cells #[.int .u8 97, .int .u8 98, .int .u8 99] 5 (3, 4))) := b2.trans (bA.mono hz2)
  have N2 := hN2.alloc (.cells #[.int .u8 97, .int .u8 98, .int .u8 99] 5 (3, 4))
  have R2 := rdv_mark w2 abcL 5 (3, 4) (by decide)
  have KW := Lib.hid (inoWrite (n := 19) N2 (K1.out.map.of_below b3) (by omega) K1.out.hne (K1.out.dis.below b3) R2 K1.out.hcg K1.out.hmu (by omega))
  have B3 := Lib.hid (B2.out.trans (bA.mono B2.out.size))
  have hz3 := B3.out.size
  have hzz := bA.size
  clear b2 bA b3 N2 R2 hN2
  go_wp2_with fail
  refine KW.out.mono ?_
  rintro e w3 ⟨rfl, hb, hhb, hN3, hM3, hD3, hg3⟩
  have KR := Lib.hid (inoRead hN3 hD3 abcB_len (by omega) (by omega))
  have N3 := Lib.hid hN3
  have M3 := Lib.hid hM3
  have B4 := Lib.hid (hg3.below_trans B3.out (by omega) (fun i h1 h2 => by omega))
  have z3 := hg3.size
  have lcb := Blk.lt hD3.cch.1
  have lhb : hb < w3.heap.size := by obtain ⟨bv, h1, _⟩ := hD3.held; exact h1.lt
  clear hN3 hM3 hD3 hg3 KW
  go_wp2_with fail
  refine KR.out.mono ?_
  rintro e w4 ⟨v, rfl, hR4, hC4, hH4, hg4⟩
  rw [abc_read] at hR4
  obtain ⟨va, vn, vc, rfl⟩ := hR4.shape
  obtain rfl : vn = 4 := hR4.cap.1
  have N4 := hg4.blk N3.out (by rintro (e | e) <;> omega)
  have hmu' := K1.out.hmu
  have M4 := Lib.hid (M3.out.stay hg4 (by rintro (e | e) <;> omega) (by rintro (e | e) <;> omega))
  have B5 := Lib.hid (hg4.below_trans B4.out (by omega) (fun i h1 h2 => by rcases h2 with rfl | rfl <;> omega))
  have KB := Lib.hid (inoBytes N4 (by omega) (by simp))
  have R4 := Lib.hid hR4
  have z4 := hg4.size
  clear hR4 hC4 hH4 hg4 KR N4 N3 M3
  go_wp2_with fail
  refine KB.out.mono ?_
  rintro e w5 ⟨v5, rfl, ho5, hb5⟩
  have KL := Lib.hid (inoLoad_ok v5 begL w5 (Rdv.of_owns ho5) (inoB_byt _ _) begL_facts.1 (by rw [begL_facts.2]; omega))
  have R5 := Lib.hid (R4.out.below hb5)
  have M5 := Lib.hid (M4.out.of_below hb5)
  have B6 := Lib.hid (B5.out.trans (hb5.mono (by omega)))
  clear ho5 hb5 KB R4 M4
  go_wp2_with fail
  refine KL.out.mono ?_
  rintro e w6 ⟨nb2, rfl, _, hN6, hb6⟩
  rw [begL_facts.2] at hN6
  have KS := Lib.hid (inoSizeL hN6)
  have KF := bmFree mp mu _ w6 (M5.out.of_below hb6)
  rw [us2_free] at KF
  have KF2 := Lib.hid KF
  have KC := Lib.hid (inoCost 513 w6 (by omega) (by omega))
  rw [show costC 513 = 2 by decide +kernel] at KC
  have KU := conv_rdv (P := Try.prog) 48 5 Try.underlying48 Try.underlying5 (R5.out.below hb6) 9 Try.underlying9
  have B7 := Lib.hid (B6.out.trans (hb6.mono B6.out.size))
  clear hN6 hb6 KF KL R5 M5
  have hst : (strOfNums [0, 97, 98, 99]).toList = [0, 97, 98, 99] := by rw [Lib.strOfNums_toList]; decide
  go_wp2_with fail
  refine KS.out.mono ?_
  rintro e w7 ⟨rfl, rfl⟩
  go_wp2_with fail
  refine KF2.out.mono ?_
  rintro e w7 ⟨rfl, rfl⟩
  go_wp2_with fail
  refine KC.out.mono ?_
  rintro e w7 ⟨rfl, rfl⟩
  go_wp2
  go_ret
  exact ⟨rfl, B7.out⟩
end Go.Proofs.Ytfcddpbpfckjfaa

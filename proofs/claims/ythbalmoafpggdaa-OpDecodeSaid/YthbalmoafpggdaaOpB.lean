/- The laws of layer 12: what is begun. -/
import Derived.Test.YthbalmoafpggdaaChecked
import Derived.WalkKit
import Derived.Outline
import Derived.WalkSpells
import Derived.WalkLawsBesides
import Derived.Deep.QuietTactic
import Derived.Deep.RegionWith
import Derived.Deep.DeepMust
import Derived.BigQuiet
import Derived.Test.YthbalmoafpggdaaMem
import Derived.RegionTactic
import Derived.ChangeAlike
import Derived.StillTailTactics
import Derived.Deep.LoopGhost
import Derived.Test.YthbalmoafpggdaaOpF
import Derived.Test.YthbalmoafpggdaaOpG
import Derived.Test.YthbalmoafpggdaaOq2
namespace Go.Proofs.Ythbalmoafpggdaa
open Go.RowKit
set_option linter.unusedVariables false
set_option linter.unusedSimpArgs false
def o0 : Opr := ⟨5, 2, 1, 1, 5, 2, 0, 0, ⟨#[97]⟩, [], []⟩
def l0 : List Int := [1, 5, 2, 1, 5, 2, 0, 0, 1, 97, 0, 0]
theorem o0_may : mayB o0 = true := by kernel_rfl
theorem o0_L : opL o0 = l0 := by kernel_rfl
theorem l0_decB : decB l0 = true := by kernel_rfl
theorem l0_decO : decO l0 = o0 := by kernel_rfl
theorem o0_name : nameE [97, 1] = 22 := by kernel_rfl
def OTrue (w : World) (e : Ending) (w' : World) : Prop := e = .returned (.bool true) ∧ Below w.heap.size w w'
set_option maxHeartbeats 4000000 in
set_option maxRecDepth 100000 in
theorem opBegun (w : World) : Calls Try.prog 47 #[] w (OTrue w) := by
  have KE := Lib.hid (fun w => opsEncode o0 (.slice none 0 0) (.slice none 0 0) w (Rdv.nil _ _) (Rdv.nil _ _) (by decide))
  unfold EncPost at KE
  rw [o0_may, o0_L] at KE
  have KD := Lib.hid (fun x w' hx => opsDecode x l0 w' hx (by intro q hq; simp [l0] at hq; omega) (by decide))
  unfold DecPost at KD
  rw [l0_decB, l0_decO] at KD
  have KM := Lib.hid (fun w => opsMay o0 (.slice none 0 0) (.slice none 0 0) w (Rdv.nil _ _) (Rdv.nil _ _) (by decide))
  rw [o0_may] at KM
  have KQ := Lib.hid (fun d s w' hd hs => opsEq o0 o0 d s (.slice none 0 0) (.slice none 0 0) w' hd hs (Rdv.nil _ _) (Rdv.nil _ _) (by intro q hq; simp [o0] at hq) (by intro q hq; simp [o0] at hq))
  rw [eqB_refl] at KQ
  have KC := Lib.hid (fun w => opsCost o0 (.slice none 0 0) (.slice none 0 0) w (Rdv.nil _ _) (Rdv.nil _ _) (by decide))
  rw [o0_may, o0_L] at KC
  have KN := Lib.hid (fun w => opsName ⟨#[97, 1]⟩ w (by decide))
  rw [show (⟨#[97, 1]⟩ : ByteArray).data.toList = [97, 1] from rfl, o0_name] at KN
  simp only [o0, if_true] at KE KD KM KQ KC
  have hl0 : l0.length = 12 := rfl
  rw [hl0] at KE KC
  generalize l0 = L at *
  have f1 : ∀ w, (Instr.field 45 (.agg #[.int .i64 0, .int .i64 1]) 1).run Try.prog w = .ok (.int .i64 1) w := fun _ => by kernel_rfl
  have f2 : ∀ w, (Instr.field 45 (.agg #[.int .i64 0, .int .i64 0]) 1).run Try.prog w = .ok (.int .i64 0) w := fun _ => by kernel_rfl
  go_enter Try.func47, Try.ntmps47
  go_wp2_with fail
  refine (KE.out _).mono ?_
  rintro e w1 ⟨v1, rfl, ho1, hb1⟩
  obtain ⟨a1, c1, rfl, _, _, _⟩ := own_shape ho1
  have BA1 : Hid (Blk w1 (w.heap.size + 1) #[.int .i64 5, .int .i64 2, .int .i64 1, .int .i64 1, .int .i64 5, .int .i64 2, .int .i64 0, .int .i64 0, .string ⟨#[97]⟩, .slice none 0 0, .slice none 0 0] 58) := Lib.hid (blkBelow hb1 (by have := Blk.new (w.alloc (.cells #[.int .i64 5, .int .i64 2] 45)) #[.int .i64 5, .int .i64 2, .int .i64 1, .int .i64 1, .int .i64 5, .int .i64 2, .int .i64 0, .int .i64 0, .string ⟨#[97]⟩, .slice none 0 0, .slice none 0 0] 58; simpa using this) (by simp))
  have HB1 : Hid (Below w.heap.size w w1) := Lib.hid ((((Below.refl w.heap.size w).alloc (Nat.le_refl _) (.cells #[.int .i64 5, .int .i64 2] 45)).alloc (by simp) (.cells #[.int .i64 5, .int .i64 2, .int .i64 1, .int .i64 1, .int .i64 5, .int .i64 2, .int .i64 0, .int .i64 0, .string ⟨#[97]⟩, .slice none 0 0, .slice none 0 0] 58)).trans (hb1.mono (by simp; omega)))
  have HR1 := Lib.hid (Rdv.of_owns (enc := u8v) (xs := L) ho1)
  clear ho1 hb1
  go_wp2_with fail
  refine (KD.out _ _ HR1.out).mono ?_
  rintro e w2 ⟨d, s, rfl, hd, hs, hb2⟩
  obtain ⟨da, dc, rfl, _, _, _⟩ := own_shape hd
  obtain ⟨sa, sc, rfl, _, _, _⟩ := own_shape hs
  have BA2 := Lib.hid (blkBelow hb2 BA1.out BA1.out.lt)
  have HB2 := Lib.hid (HB1.out.trans (hb2.mono HB1.out.size))
  have HD2 := Lib.hid (Rdv.of_owns (enc := u8v) (xs := []) hd)
  have HS2 := Lib.hid (Rdv.of_owns (enc := i64v) (xs := []) hs)
  clear hd hs hb2 BA1 HB1 HR1
  have c_0 : w2.cell? ⟨w.heap.size + 1, 0, none⟩ = some (.int .i64 5) := BA2.out.cell (o := 0) rfl
  have c_1 : w2.cell? ⟨w.heap.size + 1, 1, none⟩ = some (.int .i64 2) := BA2.out.cell (o := 1) rfl
  have c_2 : w2.cell? ⟨w.heap.size + 1, 2, none⟩ = some (.int .i64 1) := BA2.out.cell (o := 2) rfl
  have c_3 : w2.cell? ⟨w.heap.size + 1, 3, none⟩ = some (.int .i64 1) := BA2.out.cell (o := 3) rfl
  have c_4 : w2.cell? ⟨w.heap.size + 1, 4, none⟩ = some (.int .i64 5) := BA2.out.cell (o := 4) rfl
  have c_5 : w2.cell? ⟨w.heap.size + 1, 5, none⟩ = some (.int .i64 2) := BA2.out.cell (o := 5) rfl
  have c_6 : w2.cell? ⟨w.heap.size + 1, 6, none⟩ = some (.int .i64 0) := BA2.out.cell (o := 6) rfl
  have c_7 : w2.cell? ⟨w.heap.size + 1, 7, none⟩ = some (.int .i64 0) := BA2.out.cell (o := 7) rfl
  have c_8 : w2.cell? ⟨w.heap.size + 1, 8, none⟩ = some (.string ⟨#[97]⟩) := BA2.out.cell (o := 8) rfl
  have c_9 : w2.cell? ⟨w.heap.size + 1, 9, none⟩ = some (.slice none 0 0) := BA2.out.cell (o := 9) rfl
  have c_10 : w2.cell? ⟨w.heap.size + 1, 10, none⟩ = some (.slice none 0 0) := BA2.out.cell (o := 10) rfl
  have ha2 : w.heap.size + 1 < w2.heap.size := BA2.out.lt
  go_wp2_with fail
  refine (KM.out _).mono ?_
  rintro e w3 ⟨rfl, hb3⟩
  have AL := (Below.refl w2.heap.size w2).alloc (Nat.le_refl _) (.cells #[.int .i64 5, .int .i64 2, .int .i64 1, .int .i64 1, .int .i64 5, .int .i64 2, .int .i64 0, .int .i64 0, .string ⟨#[97]⟩, .slice da 0 dc, .slice sa 0 sc] 58)
  have G3 := Lib.hid (AL.trans (hb3.mono (by simp)))
  have BX3 := Lib.hid (blkBelow hb3 (Blk.new w2 #[.int .i64 5, .int .i64 2, .int .i64 1, .int .i64 1, .int .i64 5, .int .i64 2, .int .i64 0, .int .i64 0, .string ⟨#[97]⟩, .slice da 0 dc, .slice sa 0 sc] 58) (Blk.new _ _ _).lt)
  have BA3 := Lib.hid (blkBelow G3.out BA2.out BA2.out.lt)
  have HB3 := Lib.hid (HB2.out.trans (G3.out.mono HB2.out.size))
  clear hb3 AL
  clear c_0 c_1 c_2 c_3 c_4 c_5 c_6 c_7 c_8 c_9 c_10
  have c_0 : w3.cell? ⟨w.heap.size + 1, 0, none⟩ = some (.int .i64 5) := BA3.out.cell (o := 0) rfl
  have c_1 : w3.cell? ⟨w.heap.size + 1, 1, none⟩ = some (.int .i64 2) := BA3.out.cell (o := 1) rfl
  have c_2 : w3.cell? ⟨w.heap.size + 1, 2, none⟩ = some (.int .i64 1) := BA3.out.cell (o := 2) rfl
  have c_3 : w3.cell? ⟨w.heap.size + 1, 3, none⟩ = some (.int .i64 1) := BA3.out.cell (o := 3) rfl
  have c_4 : w3.cell? ⟨w.heap.size + 1, 4, none⟩ = some (.int .i64 5) := BA3.out.cell (o := 4) rfl
  have c_5 : w3.cell? ⟨w.heap.size + 1, 5, none⟩ = some (.int .i64 2) := BA3.out.cell (o := 5) rfl
  have c_6 : w3.cell? ⟨w.heap.size + 1, 6, none⟩ = some (.int .i64 0) := BA3.out.cell (o := 6) rfl
  have c_7 : w3.cell? ⟨w.heap.size + 1, 7, none⟩ = some (.int .i64 0) := BA3.out.cell (o := 7) rfl
  have c_8 : w3.cell? ⟨w.heap.size + 1, 8, none⟩ = some (.string ⟨#[97]⟩) := BA3.out.cell (o := 8) rfl
  have c_9 : w3.cell? ⟨w.heap.size + 1, 9, none⟩ = some (.slice none 0 0) := BA3.out.cell (o := 9) rfl
  have c_10 : w3.cell? ⟨w.heap.size + 1, 10, none⟩ = some (.slice none 0 0) := BA3.out.cell (o := 10) rfl
  have x_0 : w3.cell? ⟨w2.heap.size, 0, none⟩ = some (.int .i64 5) := BX3.out.cell (o := 0) rfl
  have x_1 : w3.cell? ⟨w2.heap.size, 1, none⟩ = some (.int .i64 2) := BX3.out.cell (o := 1) rfl
  have x_2 : w3.cell? ⟨w2.heap.size, 2, none⟩ = some (.int .i64 1) := BX3.out.cell (o := 2) rfl
  have x_3 : w3.cell? ⟨w2.heap.size, 3, none⟩ = some (.int .i64 1) := BX3.out.cell (o := 3) rfl
  have x_4 : w3.cell? ⟨w2.heap.size, 4, none⟩ = some (.int .i64 5) := BX3.out.cell (o := 4) rfl
  have x_5 : w3.cell? ⟨w2.heap.size, 5, none⟩ = some (.int .i64 2) := BX3.out.cell (o := 5) rfl
  have x_6 : w3.cell? ⟨w2.heap.size, 6, none⟩ = some (.int .i64 0) := BX3.out.cell (o := 6) rfl
  have x_7 : w3.cell? ⟨w2.heap.size, 7, none⟩ = some (.int .i64 0) := BX3.out.cell (o := 7) rfl
  have x_8 : w3.cell? ⟨w2.heap.size, 8, none⟩ = some (.string ⟨#[97]⟩) := BX3.out.cell (o := 8) rfl
  have x_9 : w3.cell? ⟨w2.heap.size, 9, none⟩ = some (.slice da 0 dc) := BX3.out.cell (o := 9) rfl
  have x_10 : w3.cell? ⟨w2.heap.size, 10, none⟩ = some (.slice sa 0 sc) := BX3.out.cell (o := 10) rfl
  go_wp2_with fail
  refine (KQ.out _ _ _ (HD2.out.below G3.out) (HS2.out.below G3.out)).mono ?_
  rintro e w4 ⟨rfl, hb4⟩
  have BA4 := Lib.hid (blkBelow hb4 BA3.out BA3.out.lt)
  have HB4 := Lib.hid (HB3.out.trans (hb4.mono HB3.out.size))
  clear hb4
  clear c_0 c_1 c_2 c_3 c_4 c_5 c_6 c_7 c_8 c_9 c_10 x_0 x_1 x_2 x_3 x_4 x_5 x_6 x_7 x_8 x_9 x_10
  have c_0 : w4.cell? ⟨w.heap.size + 1, 0, none⟩ = some (.int .i64 5) := BA4.out.cell (o := 0) rfl
  have c_1 : w4.cell? ⟨w.heap.size + 1, 1, none⟩ = some (.int .i64 2) := BA4.out.cell (o := 1) rfl
  have c_2 : w4.cell? ⟨w.heap.size + 1, 2, none⟩ = some (.int .i64 1) := BA4.out.cell (o := 2) rfl
  have c_3 : w4.cell? ⟨w.heap.size + 1, 3, none⟩ = some (.int .i64 1) := BA4.out.cell (o := 3) rfl
  have c_4 : w4.cell? ⟨w.heap.size + 1, 4, none⟩ = some (.int .i64 5) := BA4.out.cell (o := 4) rfl
  have c_5 : w4.cell? ⟨w.heap.size + 1, 5, none⟩ = some (.int .i64 2) := BA4.out.cell (o := 5) rfl
  have c_6 : w4.cell? ⟨w.heap.size + 1, 6, none⟩ = some (.int .i64 0) := BA4.out.cell (o := 6) rfl
  have c_7 : w4.cell? ⟨w.heap.size + 1, 7, none⟩ = some (.int .i64 0) := BA4.out.cell (o := 7) rfl
  have c_8 : w4.cell? ⟨w.heap.size + 1, 8, none⟩ = some (.string ⟨#[97]⟩) := BA4.out.cell (o := 8) rfl
  have c_9 : w4.cell? ⟨w.heap.size + 1, 9, none⟩ = some (.slice none 0 0) := BA4.out.cell (o := 9) rfl
  have c_10 : w4.cell? ⟨w.heap.size + 1, 10, none⟩ = some (.slice none 0 0) := BA4.out.cell (o := 10) rfl
  go_wp2_with fail
  refine (KC.out _).mono ?_
  rintro e w5 ⟨rfl, hb5⟩
  have HB5 := Lib.hid (HB4.out.trans (hb5.mono HB4.out.size))
  clear hb5
  clear c_0 c_1 c_2 c_3 c_4 c_5 c_6 c_7 c_8 c_9 c_10
  go_wp2_with fail
  refine (opsTrash _).mono ?_
  rintro e w6 ⟨rfl, hb6⟩
  have HB6 := Lib.hid (HB5.out.trans (hb6.mono HB5.out.size))
  clear hb6
  go_wp2_with fail
  refine (opsRoot _).mono ?_
  rintro e w7 ⟨rfl, hb7⟩
  have HB7 := Lib.hid (HB6.out.trans (hb7.mono HB6.out.size))
  clear hb7
  go_wp2_with fail
  refine (KN.out _).mono ?_
  rintro e w8 ⟨rfl, hb8⟩
  have HB8 := Lib.hid (HB7.out.trans (hb8.mono HB7.out.size))
  clear hb8
  go_wp2
  go_ret
  exact ⟨rfl, HB8.out⟩
end Go.Proofs.Ythbalmoafpggdaa

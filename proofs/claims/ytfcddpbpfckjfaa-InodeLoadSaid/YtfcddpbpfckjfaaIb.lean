/- An inode: New, Size, Bytes. -/
import Derived.Test.YtfcddpbpfckjfaaChecked
import Derived.WalkKit
import Derived.Outline
import Derived.WalkSpells
import Derived.WalkLawsBesides
import Derived.Deep.QuietTactic
import Derived.Deep.RegionWith
import Derived.Deep.DeepMust
import Derived.BigQuiet
import Derived.Test.YtfcddpbpfckjfaaMem
import Derived.RegionTactic
import Derived.ChangeAlike
import Derived.StillTailTactics
import Derived.BigRegion
import Derived.Deep.LoopGhost
import Derived.Deep.RegionHeld3
import Derived.Test.YtfcddpbpfckjfaaIa
namespace Go.Proofs.Ytfcddpbpfckjfaa
open Go.RowKit
set_option linter.unusedVariables false
set_option linter.unusedSimpArgs false
abbrev u32v (x : Nat) : Value := .int .u32 (x : Int)
/-- An inode's cells: its size, ten numbers. -/
def inoC (s : Nat) (x0 x1 x2 x3 x4 x5 x6 x7 x8 x9 : Nat) : Array Value := #[.int .i64 (s : Int), u32v x0, u32v x1, u32v x2, u32v x3, u32v x4, u32v x5, u32v x6, u32v x7, u32v x8, u32v x9]
def inoB (s : Nat) (L : List Nat) : List Int := le4 s ++ L.flatMap le4
theorem inoB_len (s : Nat) (L : List Nat) : (inoB s L).length = 4 + 4 * L.length := by
  unfold inoB
  rw [List.length_append, le4_len]
  congr 1
  induction L with
  | nil => rfl
  | cons x r ih => rw [List.flatMap_cons, List.length_append, ih, le4_len, List.length_cons]; omega
theorem inoB_byt (s : Nat) (L : List Nat) : Byt (inoB s L) := by
  unfold inoB
  refine Byt.append (le4_byt s) fun q hq => ?_
  obtain ⟨x, _, hx⟩ := List.mem_flatMap.1 hq
  exact le4_byt x q hx
theorem inoB_succ (s : Nat) (L : List Nat) (i x : Nat) (h : L[i]? = some x) : inoB s (L.take (i + 1)) = inoB s (L.take i) ++ le4 x := by
  have hi : i < L.length := by
    rcases Nat.lt_or_ge i L.length with h' | h'
    · exact h'
    · rw [List.getElem?_eq_none h'] at h; cases h
  rw [List.getElem?_eq_getElem hi] at h
  injection h with h
  unfold inoB
  rw [List.take_add_one, List.getElem?_eq_getElem hi, h]
  simp
theorem inoNew (w : World) : Calls Try.prog 46 #[] w fun e w' => e = .returned (.pointer (some ⟨w.heap.size, 0, none⟩)) ∧ w' = w.alloc (.cells (inoC 0 0 0 0 0 0 0 0 0 0 0) 110) := by
  go_enter Try.func46, Try.ntmps46
  go_wp2
  go_ret
  exact ⟨rfl, rfl⟩
theorem inoSize {w : World} {nb s x0 x1 x2 x3 x4 x5 x6 x7 x8 x9 : Nat} (h : Blk w nb (inoC s x0 x1 x2 x3 x4 x5 x6 x7 x8 x9) 110) : Calls Try.prog 49 #[.pointer (some ⟨nb, 0, none⟩)] w fun e w' => e = .returned (.int .i64 (s : Int)) ∧ w = w' := by
  have c0 : w.cell? ⟨nb, 0, none⟩ = some (.int .i64 (s : Int)) := h.cell (o := 0) rfl
  clear h
  go_enter Try.func49, Try.ntmps49
  go_wp2
  go_ret
  exact ⟨rfl, rfl⟩
theorem inoSizeNil (w : World) : Calls Try.prog 49 #[.pointer none] w fun e w' => e = .returned (.int .i64 0) ∧ w = w' := by
  go_enter Try.func49, Try.ntmps49
  go_wp2
  go_ret
  exact ⟨rfl, rfl⟩
set_option maxHeartbeats 2000000 in
set_option maxRecDepth 100000 in
theorem inoBytes {w : World} {nb s x0 x1 x2 x3 x4 x5 x6 x7 x8 x9 : Nat} (h : Blk w nb (inoC s x0 x1 x2 x3 x4 x5 x6 x7 x8 x9) 110) (hs : s ≤ 65536)
    (hL : ∀ x ∈ [x0, x1, x2, x3, x4, x5, x6, x7, x8, x9], x ≤ 4294967295) :
    Calls Try.prog 43 #[.pointer (some ⟨nb, 0, none⟩)] w (ClonePost (inoB s [x0, x1, x2, x3, x4, x5, x6, x7, x8, x9]) w) := by
  have c0 : w.cell? ⟨nb, 0, none⟩ = some (.int .i64 (s : Int)) := h.cell (o := 0) rfl
  have KA := Lib.hid (app32 w.heap.size (.slice none 0 0) [] s w (by omega) (World.ownsRow_nil _ _ _ _) (Nat.le_refl _) (by simp))
  have i0 : ∀ w : World, (Instr.index 108 (.agg #[u32v x0, u32v x1, u32v x2, u32v x3, u32v x4, u32v x5, u32v x6, u32v x7, u32v x8, u32v x9]) (.int .i64 0)).run Try.prog w = .ok (u32v x0) w := fun _ => by kernel_rfl
  have i1 : ∀ w : World, (Instr.index 108 (.agg #[u32v x0, u32v x1, u32v x2, u32v x3, u32v x4, u32v x5, u32v x6, u32v x7, u32v x8, u32v x9]) (.int .i64 1)).run Try.prog w = .ok (u32v x1) w := fun _ => by kernel_rfl
  have i2 : ∀ w : World, (Instr.index 108 (.agg #[u32v x0, u32v x1, u32v x2, u32v x3, u32v x4, u32v x5, u32v x6, u32v x7, u32v x8, u32v x9]) (.int .i64 2)).run Try.prog w = .ok (u32v x2) w := fun _ => by kernel_rfl
  have i3 : ∀ w : World, (Instr.index 108 (.agg #[u32v x0, u32v x1, u32v x2, u32v x3, u32v x4, u32v x5, u32v x6, u32v x7, u32v x8, u32v x9]) (.int .i64 3)).run Try.prog w = .ok (u32v x3) w := fun _ => by kernel_rfl
  have i4 : ∀ w : World, (Instr.index 108 (.agg #[u32v x0, u32v x1, u32v x2, u32v x3, u32v x4, u32v x5, u32v x6, u32v x7, u32v x8, u32v x9]) (.int .i64 4)).run Try.prog w = .ok (u32v x4) w := fun _ => by kernel_rfl
  have i5 : ∀ w : World, (Instr.index 108 (.agg #[u32v x0, u32v x1, u32v x2, u32v x3, u32v x4, u32v x5, u32v x6, u32v x7, u32v x8, u32v x9]) (.int .i64 5)).run Try.prog w = .ok (u32v x5) w := fun _ => by kernel_rfl
  have i6 : ∀ w : World, (Instr.index 108 (.agg #[u32v x0, u32v x1, u32v x2, u32v x3, u32v x4, u32v x5, u32v x6, u32v x7, u32v x8, u32v x9]) (.int .i64 6)).run Try.prog w = .ok (u32v x6) w := fun _ => by kernel_rfl
  have i7 : ∀ w : World, (Instr.index 108 (.agg #[u32v x0, u32v x1, u32v x2, u32v x3, u32v x4, u32v x5, u32v x6, u32v x7, u32v x8, u32v x9]) (.int .i64 7)).run Try.prog w = .ok (u32v x7) w := fun _ => by kernel_rfl
  have i8 : ∀ w : World, (Instr.index 108 (.agg #[u32v x0, u32v x1, u32v x2, u32v x3, u32v x4, u32v x5, u32v x6, u32v x7, u32v x8, u32v x9]) (.int .i64 8)).run Try.prog w = .ok (u32v x8) w := fun _ => by kernel_rfl
  have i9 : ∀ w : World, (Instr.index 108 (.agg #[u32v x0, u32v x1, u32v x2, u32v x3, u32v x4, u32v x5, u32v x6, u32v x7, u32v x8, u32v x9]) (.int .i64 9)).run Try.prog w = .ok (u32v x9) w := fun _ => by kernel_rfl
  have HL := Lib.hid hL
  have H := Lib.hid h
  have k1 : (0 : Int) ≤ s := by omega
  have k2 : (s : Int) ≤ 65536 := by omega
  clear hL
  go_enter Try.func43, Try.ntmps43
  go_wp2_with fail
  refine KA.out.mono ?_
  rintro e w1 ⟨v, rfl, ho, hc⟩
  have hb : Below w.heap.size w w1 := hc.below (Nat.le_refl _) (fun i h1 h2 => by cases h2)
  have H1 := Lib.hid (blkBelow hb H.out H.out.lt)
  have B1 := Lib.hid hb
  have O1 : Hid (w1.ownsRow w.heap.size 5 1 v (inoB s (([x0, x1, x2, x3, x4, x5, x6, x7, x8, x9] : List Nat).take 0)).length ((inoB s (([x0, x1, x2, x3, x4, x5, x6, x7, x8, x9] : List Nat).take 0)).map u8v)) := Lib.hid (by
    have e : inoB s (([x0, x1, x2, x3, x4, x5, x6, x7, x8, x9] : List Nat).take 0) = [] ++ le4 s := by simp [inoB]
    rw [e]
    exact ho)
  have c1 : w1.cell? ⟨nb, 1, none⟩ = some (u32v x0) := H1.out.cell (o := 1) rfl
  have c2 : w1.cell? ⟨nb, 2, none⟩ = some (u32v x1) := H1.out.cell (o := 2) rfl
  have c3 : w1.cell? ⟨nb, 3, none⟩ = some (u32v x2) := H1.out.cell (o := 3) rfl
  have c4 : w1.cell? ⟨nb, 4, none⟩ = some (u32v x3) := H1.out.cell (o := 4) rfl
  have c5 : w1.cell? ⟨nb, 5, none⟩ = some (u32v x4) := H1.out.cell (o := 5) rfl
  have c6 : w1.cell? ⟨nb, 6, none⟩ = some (u32v x5) := H1.out.cell (o := 6) rfl
  have c7 : w1.cell? ⟨nb, 7, none⟩ = some (u32v x6) := H1.out.cell (o := 7) rfl
  have c8 : w1.cell? ⟨nb, 8, none⟩ = some (u32v x7) := H1.out.cell (o := 8) rfl
  have c9 : w1.cell? ⟨nb, 9, none⟩ = some (u32v x8) := H1.out.cell (o := 9) rfl
  have c10 : w1.cell? ⟨nb, 10, none⟩ = some (u32v x9) := H1.out.cell (o := 10) rfl
  clear ho hc hb KA c0
  go_wp2
  go_loopw [3, 5, 18] (fun v _ iv wr => ∃ i : Nat, i ≤ 10 ∧ iv = .int .i64 i ∧ wr.ownsRow w.heap.size 5 1 v (inoB s (([x0, x1, x2, x3, x4, x5, x6, x7, x8, x9] : List Nat).take i)).length ((inoB s (([x0, x1, x2, x3, x4, x5, x6, x7, x8, x9] : List Nat).take i)).map u8v) ∧ Below w.heap.size w wr) (fun _ _ iv _ => 10 - (intOf iv).toNat)
  case atStart => exact ⟨0, by omega, rfl, O1.out, B1.out⟩
  case round =>
    obtain ⟨i, hi, rfl, ho, hb⟩ := hrel
    by_cases hlt : i < 10
    · have KA := Lib.hid (fun x (hx : x ≤ 4294967295) => app32 w.heap.size _ (inoB s (([x0, x1, x2, x3, x4, x5, x6, x7, x8, x9] : List Nat).take i)) x wr (by omega) ho hb.size (by rw [inoB_len, List.length_take]; omega))
      have HB := Lib.hid hb
      have HO := Lib.hid ho
      have NX := Lib.hid (fun x (h : ([x0, x1, x2, x3, x4, x5, x6, x7, x8, x9] : List Nat)[i]? = some x) => inoB_succ s ([x0, x1, x2, x3, x4, x5, x6, x7, x8, x9] : List Nat) i x h)
      clear ho hb
      rcases (show i = 0 ∨ i = 1 ∨ i = 2 ∨ i = 3 ∨ i = 4 ∨ i = 5 ∨ i = 6 ∨ i = 7 ∨ i = 8 ∨ i = 9 by omega) with rfl | rfl | rfl | rfl | rfl | rfl | rfl | rfl | rfl | rfl
      all_goals
        go_wp2_with fail
        refine (KA.out _ ?hx).mono ?_
        case hx => exact HL.out _ (by simp)
        rintro e w2 ⟨v2, rfl, ho2, hc2⟩
        rw [← NX.out _ rfl] at ho2
        have O2 := Lib.hid ho2
        have B2 := Lib.hid (hc2.below_trans HB.out HB.out.size (fun i h1 h2 => by
          have := (own_typ HO.out h2.symm).1
          omega))
        clear ho2 hc2 KA NX
        go_wp2
        go_roundw
        case rel => exact ⟨_, by omega, by go_num, O2.out, B2.out⟩
        case measure => simp [intOf]
    · obtain rfl : i = 10 := by omega
      have HO := Lib.hid ho
      have HB := Lib.hid hb
      clear ho hb
      go_wp2
      go_ret
      exact ⟨_, rfl, HO.out, HB.out⟩
end Go.Proofs.Ytfcddpbpfckjfaa

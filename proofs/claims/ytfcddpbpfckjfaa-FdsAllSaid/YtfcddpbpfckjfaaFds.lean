/- Contracts of package fds: a table none of whose numbers was given back. -/
import Derived.Test.YtfcddpbpfckjfaaChecked
import Derived.WalkKit
import Derived.Outline
import Derived.WalkSpells
import Derived.WalkLawsBesides
import Derived.Deep.QuietTactic
import Derived.Deep.RegionWith
import Derived.Deep.DeepMust
import Derived.BigQuiet
import Derived.Test.YtfcddpbpfckjfaaMem
import Derived.RegionTactic
import Derived.ChangeAlike
import Derived.StillTailTactics
import Derived.BigRegion
import Derived.Deep.RegionHeld3
import Derived.Deep.RegionLaw
import Derived.Test.YtfcddpbpfckjfaaApp
namespace Go.Proofs.Ytfcddpbpfckjfaa
open Go.RowKit
set_option linter.unusedVariables false
set_option linter.unusedSimpArgs false
theorem Fd.info : (Try.prog.info? 85).map (fun i => (i.zero, i.size, i.bytes)) = some (some (.agg #[.int .i64 0, .int .i64 0, .int .i64 0, .int .i64 0, .bool false]), 5, 40) := by kernel_rfl
structure Fil where
  time : Int
  node : Int
  flags : Int
  at_ : Int
  op : Bool
def filC (f : Fil) : List Value := [.int .i64 f.time, .int .i64 f.node, .int .i64 f.flags, .int .i64 f.at_, .bool f.op]
def frow (fs : List Fil) : List Value := fs.flatMap filC
theorem frow_len : ∀ fs : List Fil, (frow fs).length = fs.length * 5
  | [] => rfl
  | f :: fs => by have := frow_len fs; unfold frow at *; simp [filC, this]; omega
theorem frow_snoc (fs : List Fil) (f : Fil) : frow (fs ++ [f]) = frow fs ++ filC f := by simp [frow]
structure FdAt (w : World) (b : Nat) (v : Value) (fs : List Fil) : Prop where
  blk : Blk w b #[v, .slice none 0 0] 89
  own : w.ownsRow b 85 5 v fs.length (frow fs)
  ne : v.ownBlock ≠ some b
theorem FdAt.below {w w' : World} {b : Nat} {v : Value} {fs : List Fil} (h : FdAt w b v fs) (g : Below w.heap.size w w') : FdAt w' b v fs :=
  ⟨blkBelow g h.blk h.blk.lt, ownsRow_below h.own g, h.ne⟩
theorem own_shp {w : World} {B e s : Nat} {v : Value} {n : Nat} {xs : List Value} (h : w.ownsRow B e s v n xs) : ∃ a c, v = .slice a n c ∧ n ≤ c ∧ c ≤ 9223372036854775807 ∧ (∀ x, a = some x → ∃ g, x = ⟨g, 0, none⟩) := by
  rcases h.2 with ⟨rfl, rfl⟩ | ⟨g, c, cur, rfl, _, _, h1, h2, _⟩
  · exact ⟨none, 0, rfl, Nat.le_refl _, by omega, fun x h => by cases h⟩
  · exact ⟨_, _, rfl, h1, by unfold maxLen at h2; omega, fun x h => by injection h with h; exact ⟨g, h.symm⟩⟩
def FNewPost (w : World) (e : Ending) (w' : World) : Prop := ∃ b, e = .returned (.pointer (some ⟨b, 0, none⟩)) ∧ w.heap.size ≤ b ∧ FdAt w' b (.slice none 0 0) [] ∧ Below w.heap.size w w'
theorem fdNew (w : World) : Calls Try.prog 13 #[] w (FNewPost w) := by
  go_enter Try.func13, Try.ntmps13
  go_wp2
  go_ret
  exact ⟨w.heap.size, rfl, Nat.le_refl _, ⟨Blk.new _ _ _, World.ownsRow_nil _ _ _ _, by simp [Value.ownBlock]⟩, (Below.refl _ _).alloc (Nat.le_refl _) _⟩
theorem fdLen (b : Nat) (v : Value) (fs : List Fil) (w : World) (h : FdAt w b v fs) : Calls Try.prog 17 #[.pointer (some ⟨b, 0, none⟩)] w fun e w' => e = .returned (.int .i64 fs.length) ∧ Drw w w' := by
  have c0 : w.cell? ⟨b, 0, none⟩ = some v := h.blk.cell (o := 0) rfl
  have c1 : w.cell? ⟨b, 1, none⟩ = some (.slice none 0 0) := h.blk.cell (o := 1) rfl
  have hz := h.blk.lt
  obtain ⟨va, vc, rfl, hv1, hv2, _⟩ := own_shp h.own
  clear h
  go_enter Try.func17, Try.ntmps17
  go_wp2
  go_quiet (fail)
  go_wp2
  go_ret
  exact ⟨ret_i (by first | rfl | omega), _, rfl⟩
theorem fdRoom (b : Nat) (v : Value) (fs : List Fil) (w : World) (h : FdAt w b v fs) : Calls Try.prog 18 #[.pointer (some ⟨b, 0, none⟩)] w fun e w' => e = .returned (.bool (decide (fs.length < 32))) ∧ Drw w w' := by
  have K := Lib.hid (fdLen b v fs w h)
  clear h
  go_enter Try.func18, Try.ntmps18
  go_wp2_with fail
  refine K.out.mono ?_
  rintro e w1 ⟨rfl, n, rfl⟩
  go_wp2
  go_ret
  exact ⟨ret_b (by simp; omega), _, rfl⟩
theorem fdLenNil (w : World) : Calls Try.prog 17 #[.pointer none] w fun e w' => e = .returned (.int .i64 0) ∧ Below w.heap.size w w' := by
  go_enter Try.func17, Try.ntmps17
  go_wp2
  go_ret
  exact ⟨rfl, Below.refl _ _⟩
theorem fdRoomNil (w : World) : Calls Try.prog 18 #[.pointer none] w fun e w' => e = .returned (.bool false) ∧ Below w.heap.size w w' := by
  go_enter Try.func18, Try.ntmps18
  go_wp2
  go_ret
  exact ⟨rfl, Below.refl _ _⟩
theorem fdFindNil (w : World) : Calls Try.prog 51 #[.pointer none, .int .i64 0] w fun e w' => e = .returned (.pointer none) ∧ Below w.heap.size w w' := by
  go_enter Try.func51, Try.ntmps51
  go_wp2
  go_ret
  exact ⟨rfl, Below.refl _ _⟩
theorem fdSeekNil (w : World) : Calls Try.prog 16 #[.pointer none, .int .i64 0, .int .i64 0] w fun e w' => e = .returned (.int .i64 9) ∧ Below w.heap.size w w' := by
  go_enter Try.func16, Try.ntmps16
  go_wp2
  go_ret
  exact ⟨rfl, Below.refl _ _⟩
theorem fdCloseNil (w : World) : Calls Try.prog 15 #[.pointer none, .int .i64 0] w fun e w' => e = .returned (.int .i64 9) ∧ Below w.heap.size w w' := by
  go_enter Try.func15, Try.ntmps15
  go_wp2
  go_ret
  exact ⟨rfl, Below.refl _ _⟩
theorem fdOpenNil (t n : Int) (w : World) : Calls Try.prog 11 #[.pointer none, .agg #[.int .i64 t, .int .i64 n], .int .i64 0] w fun e w' => e = .returned (.tuple #[.int .i64 0, .int .i64 23]) ∧ Below w.heap.size w w' := by
  go_enter Try.func11, Try.ntmps11
  go_wp2
  go_ret2
  exact ⟨rfl, (Below.refl _ _).alloc (Nat.le_refl _) _⟩
theorem fdGetNil (w : World) : Calls Try.prog 12 #[.pointer none, .int .i64 0] w fun e w' => e = .returned (.tuple #[.agg #[.int .i64 0, .int .i64 0], .int .i64 0, .int .i64 0, .int .i64 9]) ∧ Below w.heap.size w w' := by
  go_enter Try.func12, Try.ntmps12
  go_wp2
  exact bodyPost_ret (v := .tuple #[.agg #[.int .i64 0, .int .i64 0], .int .i64 0, .int .i64 0, .int .i64 9]) (by simp [results, Try.results12, go_sem]) rfl ⟨rfl, (Below.refl _ _).alloc (Nat.le_refl _) _⟩
end Go.Proofs.Ytfcddpbpfckjfaa

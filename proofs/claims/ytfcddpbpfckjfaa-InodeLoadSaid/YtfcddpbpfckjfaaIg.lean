/- An inode is written: what it lacks, one number is taken. -/
import Derived.Test.YtfcddpbpfckjfaaChecked
import Derived.WalkKit
import Derived.Outline
import Derived.WalkSpells
import Derived.WalkLawsBesides
import Derived.Deep.QuietTactic
import Derived.Deep.RegionWith
import Derived.Deep.DeepMust
import Derived.BigQuiet
import Derived.Test.YtfcddpbpfckjfaaMem
import Derived.RegionTactic
import Derived.ChangeAlike
import Derived.StillTailTactics
import Derived.BigRegion
import Derived.Deep.LoopGhost
import Derived.Deep.RegionHeld3
import Derived.Deep.OwnRows
import Derived.Laws.IdiomRangeMap
import Derived.Test.YtfcddpbpfckjfaaIf
import Derived.Test.YtfcddpbpfckjfaaBm2
namespace Go.Proofs.Ytfcddpbpfckjfaa
open Go.RowKit
set_option linter.unusedVariables false
set_option linter.unusedSimpArgs false
set_option maxHeartbeats 1000000 in
set_option maxRecDepth 100000 in
theorem inoLacks {w : World} {wb s x0 x2 x3 x4 x5 x6 x7 x8 x9 : Nat} {cv mv one two more taken back : Value} (h : Blk w wb (workC s x0 0 x2 x3 x4 x5 x6 x7 x8 x9 cv mv one two more taken back) 128) :
    Calls Try.prog 69 #[.pointer (some ⟨wb, 0, none⟩), .int .i64 1, .int .i64 2] w fun e w' => e = .returned (.int .i64 1) ∧ Below w.heap.size w w' := by
  have hmm := @run_makeMap Try.prog
  have hm : (w.alloc (.map #[] 0)).heap[w.heap.size]? = some (.map #[] 0) := heap_alloc_new _ _
  have hrg := run_range_map (P := Try.prog) (w.alloc (.map #[] 0)) 157 _ _ w.heap.size #[] 0 Try.underlying157 hm
  have hnx : ∀ ty, (Instr.next (.pointer (some ⟨(w.alloc (.map #[] 0)).heap.size, 0, none⟩)) false ty).run Try.prog ((w.alloc (.map #[] 0)).alloc (.mapIter (some w.heap.size) 0 #[] 0)) = .ok (.tuple #[.bool false]) ((w.alloc (.map #[] 0)).alloc (.mapIter (some w.heap.size) 0 #[] 0)) := fun ty => by
    rcases run_next_map (P := Try.prog) (w.alloc (.map #[] 0)) ty w.heap.size 0 0 #[] #[] 0 hm (by simp) (Nat.le_refl _) with ⟨_, h⟩ | ⟨e, he, _⟩
    · exact h
    · exact absurd he (by simp [leftOf])
  have KA := Lib.hid (inoAt1 (h.alloc (.map #[] 0)) (by omega))
  rw [show (w.alloc (.map #[] 0)).heap.size = w.heap.size + 1 by simp] at hrg hnx
  clear h hm
  go_enter Try.func69, Try.ntmps69
  go_wp2
  go_loopw [7, 9] (fun nv iv wr => ((iv = .int .i64 1 ∧ nv = .int .i64 0) ∨ (iv = .int .i64 2 ∧ nv = .int .i64 1)) ∧ wr = w.alloc (.map #[] 0)) (fun _ iv _ => 2 - (intOf iv).toNat)
  case atStart => exact ⟨.inl ⟨rfl, rfl⟩, rfl⟩
  case round =>
    obtain ⟨⟨rfl, rfl⟩ | ⟨rfl, rfl⟩, rfl⟩ := hrel
    · go_wp2_with fail
      refine KA.out.mono ?_
      rintro e w1 ⟨rfl, rfl⟩
      go_wp2
      go_roundw
      case rel => exact ⟨.inr ⟨by go_num, by go_num⟩, trivial⟩
      case measure => simp [intOf]
    · go_wp2
      go_loopw [7, 12] (fun nv _ wr => nv = .int .i64 1 ∧ wr = (w.alloc (.map #[] 0)).alloc (.mapIter (some w.heap.size) 0 #[] 0)) (fun _ _ _ => 0)
      case atStart => exact ⟨rfl, rfl⟩
      case round =>
        obtain ⟨rfl, rfl⟩ := hrel
        go_wp2
        go_ret
        exact ⟨rfl, by (repeat (first | exact Below.refl _ _ | (with_reducible assumption) | apply Below.drew | apply belowDN | (refine Below.alloc ?_ (by first | exact Nat.le_refl _ | omega | (simp; done) | (simp; omega)) _) | (refine Below.setCell ?_ (by first | exact Nat.le_refl _ | omega | (simp; done) | (simp; omega)) _) | (refine Below.trans ?_ (Below.mono (by with_reducible assumption) (by first | omega | (simp; done) | (simp; omega))))))⟩
end Go.Proofs.Ytfcddpbpfckjfaa

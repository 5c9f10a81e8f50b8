/- An inode is written: a number is taken, a block is filled. -/
import Derived.Test.YtfcddpbpfckjfaaChecked
import Derived.WalkKit
import Derived.Outline
import Derived.WalkSpells
import Derived.WalkLawsBesides
import Derived.Deep.QuietTactic
import Derived.Deep.RegionWith
import Derived.Deep.DeepMust
import Derived.BigQuiet
import Derived.Test.YtfcddpbpfckjfaaMem
import Derived.RegionTactic
import Derived.ChangeAlike
import Derived.StillTailTactics
import Derived.BigRegion
import Derived.Deep.LoopGhost
import Derived.Deep.RegionHeld3
import Derived.Deep.OwnRows
import Derived.Test.YtfcddpbpfckjfaaIg
namespace Go.Proofs.Ytfcddpbpfckjfaa
open Go.RowKit
set_option linter.unusedVariables false
set_option linter.unusedSimpArgs false
theorem intInfo : (Try.prog.info? 3).map (fun i => (i.zero, i.size, i.bytes)) = some (some (.int .i64 0), 1, 8) := by kernel_rfl
def us1 (n : Nat) : List Bool := true :: List.replicate n false
def us2 (n : Nat) : List Bool := true :: true :: List.replicate (n - 1) false
theorem us_take (n : Nat) (hn : 1 ≤ n) : 1 < (us1 n).length ∧ (∀ j, j ≤ 1 → rowTo (us1 n) j ≠ 1) ∧ rowTo (us1 n) (1 + 1) = 1 ∧ fillTo (us1 n) 1 1 = us2 n := by
  obtain ⟨k, rfl⟩ : ∃ k, n = k + 1 := ⟨n - 1, by omega⟩
  refine ⟨by simp [us1], ?_, ?_, ?_⟩
  · intro j hj
    rcases (show j = 0 ∨ j = 1 by omega) with rfl | rfl <;> simp [rowTo, us1]
  · simp [rowTo, us1, List.replicate_succ]
  · simp [fillTo, us1, us2, List.replicate_succ]
def WTakePost (wb mu mp n s x0 x1 x2 x3 x4 x5 x6 x7 x8 x9 : Nat) (cv one two more back : Value) (w : World) (e : Ending) (w' : World) : Prop :=
  ∃ tk tc : Nat, e = .returned (.tuple #[.int .i64 1, .int .i64 0]) ∧ Blk w' wb (workC s x0 x1 x2 x3 x4 x5 x6 x7 x8 x9 cv (.pointer (some ⟨mp, 0, none⟩)) one two more (.slice (some ⟨tk, 0, none⟩) 1 tc) back) 128 ∧ MapAt w' mp mu (us2 n) ∧ Chg (fun k => k = wb ∨ k = mu) w w'
theorem MapAt.plain {w : World} {b u : Nat} {us : List Bool} (h : MapAt w b u us) : Plain w b ∧ Plain w u := by
  refine ⟨⟨_, _, h.1, fun i n e => by rcases i with _ | i <;> simp at e⟩, ⟨_, _, h.2.1, fun i n e => ?_⟩⟩
  rw [List.getElem?_toArray, List.getElem?_map, Option.map_eq_some_iff] at e
  obtain ⟨q, _, e⟩ := e
  cases e
theorem MapAt.stay {S : Nat → Prop} {w w' : World} {b u : Nat} {us : List Bool} (h : MapAt w b u us) (hc : Chg S w w') (h1 : ¬ S b) (h2 : ¬ S u) : MapAt w' b u us := ⟨hc.blk h.1 h1, hc.blk h.2.1 h2, h.2.2⟩
set_option maxHeartbeats 1000000 in
set_option maxRecDepth 100000 in
theorem inoWTake {w : World} {wb mu mp n s x0 x1 x2 x3 x4 x5 x6 x7 x8 x9 : Nat} {cv one two more back : Value} (h : Blk w wb (workC s x0 x1 x2 x3 x4 x5 x6 x7 x8 x9 cv (.pointer (some ⟨mp, 0, none⟩)) one two more (.slice none 0 0) back) 128) (hM : MapAt w mp mu (us1 n)) (hn : 1 ≤ n) (hne : mu ≠ mp) (hwm : wb ≠ mp ∧ wb ≠ mu) :
    Calls Try.prog 116 #[.pointer (some ⟨wb, 0, none⟩)] w (WTakePost wb mu mp n s x0 x1 x2 x3 x4 x5 x6 x7 x8 x9 cv one two more back w) := by
  have c12 : w.cell? ⟨wb, 12, none⟩ = some (.pointer (some ⟨mp, 0, none⟩)) := h.cell (o := 12) rfl
  obtain ⟨h1, h2, h3, h4⟩ := us_take n hn
  have KT := bmTake mp mu (us1 n) 1 w hM hne h1 h2 h3
  rw [h4] at KT
  have KT2 := Lib.hid KT
  have H := Lib.hid h
  obtain ⟨i0, hi, hz0, hz1, hz2⟩ := info_parts intInfo
  clear h1 h2 h3 h4 KT h
  go_enter Try.func116, Try.ntmps116
  go_wp2_with fail
  refine KT2.out.mono ?_
  rintro e w1 ⟨rfl, hM1, hg1⟩
  have H1 := Lib.hid (hg1.blk H.out hwm.2)
  have M1 := Lib.hid hM1
  have G1 := Lib.hid hg1
  have d16 : w1.cell? ⟨wb, 16, none⟩ = some (.slice none 0 0) := H1.out.cell (o := 16) rfl
  have f16 := H1.out.free 16
  have hl1 := H1.out.lt
  clear hM1 hg1 c12 KT2
  go_wp2_with (at_builtin; refine wpList_append_own _ rfl _ _ 63 rfl w1.heap.size 3 i0 (.int .i64 0) 1 8 Try.underlying63 hi hz0 hz1 hz2 rfl (by decide) _ _ _ rfl (World.ownsRow_nil _ _ _ _) ⟨w1.heap.size, 0, none⟩ 1 1 [.int .i64 1] rfl rfl ?c1 ?c2 ?c3 ?c4 ?c5 ?_)
  case c1 => exact cell_one_new _ _ _
  case c2 => intro u hu; simp at hu; subst hu; rfl
  case c3 => unfold maxLen; omega
  case c4 => simp
  case c5 => simp
  intro v6 w6 ho6 hg6 _
  obtain ⟨tk, tc, rfl⟩ := own_addrT ho6 (by omega)
  have hb6 : Below w1.heap.size w1 w6 := ((Below.refl w1.heap.size w1).alloc (Nat.le_refl _) _).grown hg6 (by simp) (fun q hq => by simp [Value.ownBlock] at hq)
  have H6 := Lib.hid (blkBelow hb6 H1.out hl1)
  have M6 := Lib.hid (M1.out.of_below hb6)
  have G6 := Lib.hid ((G1.out.mono (S' := fun k => k = wb ∨ k = mu) fun i _ e => .inr e).trans (Chg.of_below hb6 (fun i h1 h2 => absurd h1 (Nat.not_lt.2 h2))))
  have d16' : w6.cell? ⟨wb, 16, none⟩ = some (.slice none 0 0) := H6.out.cell (o := 16) rfl
  have f16' := H6.out.free 16
  have hl6 := H6.out.lt
  clear ho6 hg6 hb6 d16 f16 H1 M1 G1
  have H7 : Hid (Blk (w6.setCell ⟨wb, 16, none⟩ (.slice (some ⟨tk, 0, none⟩) 1 tc)) wb (workC s x0 x1 x2 x3 x4 x5 x6 x7 x8 x9 cv (.pointer (some ⟨mp, 0, none⟩)) one two more (.slice (some ⟨tk, 0, none⟩) 1 tc) back) 128) := Lib.hid (H6.out.set 16 _)
  have hc7 : Chg (fun k => k = wb ∨ k = mu) w6 (w6.setCell ⟨wb, 16, none⟩ (.slice (some ⟨tk, 0, none⟩) 1 tc)) := Chg.set (Chg.refl _ _) (p := ⟨wb, 16, none⟩) (fun _ => .inl rfl) _
  have hc7' : Chg (· = wb) w6 (w6.setCell ⟨wb, 16, none⟩ (.slice (some ⟨tk, 0, none⟩) 1 tc)) := Chg.set (S := (· = wb)) (Chg.refl _ _) (p := ⟨wb, 16, none⟩) (fun _ => rfl) _
  have M7 := Lib.hid (M6.out.stay hc7' (fun e => hwm.1 e.symm) (fun e => hwm.2 e.symm))
  have G7 := Lib.hid (G6.out.trans hc7)
  clear hc7 hc7'
  go_wp2
  go_ret2
  exact ⟨tk, tc, rfl, H7.out, M7.out, G7.out⟩
theorem inoReach {w : World} {p : Value} : Calls Try.prog 115 #[p, .int .i64 1] w fun e w' => e = .returned (.int .i64 0) ∧ w = w' := by
  go_enter Try.func115, Try.ntmps115
  go_wp2
  go_ret
  exact ⟨rfl, rfl⟩
def WSetPost (wb s x0 x2 x3 x4 x5 x6 x7 x8 x9 : Nat) (cv mv one two more taken back : Value) (w : World) (e : Ending) (w' : World) : Prop :=
  e = .returned (.tuple #[]) ∧ Blk w' wb (workC s x0 1 x2 x3 x4 x5 x6 x7 x8 x9 cv mv one two more taken back) 128 ∧ Chg (· = wb) w w'
theorem inoWSet {w : World} {wb s x0 x1 x2 x3 x4 x5 x6 x7 x8 x9 : Nat} {cv mv one two more taken back : Value} (h : Blk w wb (workC s x0 x1 x2 x3 x4 x5 x6 x7 x8 x9 cv mv one two more taken back) 128) :
    Calls Try.prog 95 #[.pointer (some ⟨wb, 0, none⟩), .int .i64 1, .int .i64 1] w (WSetPost wb s x0 x2 x3 x4 x5 x6 x7 x8 x9 cv mv one two more taken back w) := by
  have c2 : w.cell? ⟨wb, 2, none⟩ = some (u32v x1) := h.cell (o := 2) rfl
  have f2 := h.free 2
  have hl := h.lt
  have H2 : Hid (Blk (w.setCell ⟨wb, 2, none⟩ (.int .u32 1)) wb (workC s x0 1 x2 x3 x4 x5 x6 x7 x8 x9 cv mv one two more taken back) 128) := Lib.hid (h.set 2 _)
  have hc := Lib.hid (Chg.set (S := (· = wb)) (Chg.refl (· = wb) w) (p := ⟨wb, 2, none⟩) (fun _ => rfl) (.int .u32 1))
  clear h
  go_enter Try.func95, Try.ntmps95
  go_wp2
  go_end0
  exact ⟨rfl, H2.out, hc.out⟩
end Go.Proofs.Ytfcddpbpfckjfaa

/- An inode is written: the change is done. -/
import Derived.Test.YtfcddpbpfckjfaaChecked
import Derived.WalkKit
import Derived.Outline
import Derived.WalkSpells
import Derived.WalkLawsBesides
import Derived.Deep.QuietTactic
import Derived.Deep.RegionWith
import Derived.Deep.DeepMust
import Derived.BigQuiet
import Derived.Test.YtfcddpbpfckjfaaMem
import Derived.RegionTactic
import Derived.ChangeAlike
import Derived.StillTailTactics
import Derived.BigRegion
import Derived.Deep.LoopGhost
import Derived.Deep.RegionHeld3
import Derived.Deep.OwnRows
import Derived.Test.YtfcddpbpfckjfaaIk
namespace Go.Proofs.Ytfcddpbpfckjfaa
open Go.RowKit
set_option linter.unusedVariables false
set_option linter.unusedSimpArgs false
theorem set11 {w : World} {nb y0 y1 y2 y3 y4 y5 y6 y7 y8 y9 y10 : Nat} (h : Blk w nb (inoC y0 y1 y2 y3 y4 y5 y6 y7 y8 y9 y10) 110) (v0 v1 v2 v3 v4 v5 v6 v7 v8 v9 v10 : Value) : ∃ W : World, W = (World.setCell (World.setCell (World.setCell (World.setCell (World.setCell (World.setCell (World.setCell (World.setCell (World.setCell (World.setCell (World.setCell w ⟨nb, 0, none⟩ v0) ⟨nb, 1, none⟩ v1) ⟨nb, 2, none⟩ v2) ⟨nb, 3, none⟩ v3) ⟨nb, 4, none⟩ v4) ⟨nb, 5, none⟩ v5) ⟨nb, 6, none⟩ v6) ⟨nb, 7, none⟩ v7) ⟨nb, 8, none⟩ v8) ⟨nb, 9, none⟩ v9) ⟨nb, 10, none⟩ v10) ∧ Blk W nb #[v0, v1, v2, v3, v4, v5, v6, v7, v8, v9, v10] 110 ∧ Chg (· = nb) w W := by
  obtain ⟨w0, e0⟩ : ∃ x : World, x = World.setCell w ⟨nb, 0, none⟩ v0 := ⟨_, rfl⟩
  have h0 : Blk w0 nb #[v0, u32v y1, u32v y2, u32v y3, u32v y4, u32v y5, u32v y6, u32v y7, u32v y8, u32v y9, u32v y10] 110 := by rw [e0]; exact Blk.set h 0 v0
  have c0 : Chg (· = nb) w w0 := by rw [e0]; exact Chg.set (S := (· = nb)) (Chg.refl (· = nb) w) (p := ⟨nb, 0, none⟩) (fun _ => rfl) v0
  obtain ⟨w1, e1⟩ : ∃ x : World, x = World.setCell w0 ⟨nb, 1, none⟩ v1 := ⟨_, rfl⟩
  have h1 : Blk w1 nb #[v0, v1, u32v y2, u32v y3, u32v y4, u32v y5, u32v y6, u32v y7, u32v y8, u32v y9, u32v y10] 110 := by rw [e1]; exact Blk.set h0 1 v1
  have c1 : Chg (· = nb) w w1 := by rw [e1]; exact Chg.set (S := (· = nb)) c0 (p := ⟨nb, 1, none⟩) (fun _ => rfl) v1
  obtain ⟨w2, e2⟩ : ∃ x : World, x = World.setCell w1 ⟨nb, 2, none⟩ v2 := ⟨_, rfl⟩
  have h2 : Blk w2 nb #[v0, v1, v2, u32v y3, u32v y4, u32v y5, u32v y6, u32v y7, u32v y8, u32v y9, u32v y10] 110 := by rw [e2]; exact Blk.set h1 2 v2
  have c2 : Chg (· = nb) w w2 := by rw [e2]; exact Chg.set (S := (· = nb)) c1 (p := ⟨nb, 2, none⟩) (fun _ => rfl) v2
  obtain ⟨w3, e3⟩ : ∃ x : World, x = World.setCell w2 ⟨nb, 3, none⟩ v3 := ⟨_, rfl⟩
  have h3 : Blk w3 nb #[v0, v1, v2, v3, u32v y4, u32v y5, u32v y6, u32v y7, u32v y8, u32v y9, u32v y10] 110 := by rw [e3]; exact Blk.set h2 3 v3
  have c3 : Chg (· = nb) w w3 := by rw [e3]; exact Chg.set (S := (· = nb)) c2 (p := ⟨nb, 3, none⟩) (fun _ => rfl) v3
  obtain ⟨w4, e4⟩ : ∃ x : World, x = World.setCell w3 ⟨nb, 4, none⟩ v4 := ⟨_, rfl⟩
  have h4 : Blk w4 nb #[v0, v1, v2, v3, v4, u32v y5, u32v y6, u32v y7, u32v y8, u32v y9, u32v y10] 110 := by rw [e4]; exact Blk.set h3 4 v4
  have c4 : Chg (· = nb) w w4 := by rw [e4]; exact Chg.set (S := (· = nb)) c3 (p := ⟨nb, 4, none⟩) (fun _ => rfl) v4
  obtain ⟨w5, e5⟩ : ∃ x : World, x = World.setCell w4 ⟨nb, 5, none⟩ v5 := ⟨_, rfl⟩
  have h5 : Blk w5 nb #[v0, v1, v2, v3, v4, v5, u32v y6, u32v y7, u32v y8, u32v y9, u32v y10] 110 := by rw [e5]; exact Blk.set h4 5 v5
  have c5 : Chg (· = nb) w w5 := by rw [e5]; exact Chg.set (S := (· = nb)) c4 (p := ⟨nb, 5, none⟩) (fun _ => rfl) v5
  obtain ⟨w6, e6⟩ : ∃ x : World, x = World.setCell w5 ⟨nb, 6, none⟩ v6 := ⟨_, rfl⟩
  have h6 : Blk w6 nb #[v0, v1, v2, v3, v4, v5, v6, u32v y7, u32v y8, u32v y9, u32v y10] 110 := by rw [e6]; exact Blk.set h5 6 v6
  have c6 : Chg (· = nb) w w6 := by rw [e6]; exact Chg.set (S := (· = nb)) c5 (p := ⟨nb, 6, none⟩) (fun _ => rfl) v6
  obtain ⟨w7, e7⟩ : ∃ x : World, x = World.setCell w6 ⟨nb, 7, none⟩ v7 := ⟨_, rfl⟩
  have h7 : Blk w7 nb #[v0, v1, v2, v3, v4, v5, v6, v7, u32v y8, u32v y9, u32v y10] 110 := by rw [e7]; exact Blk.set h6 7 v7
  have c7 : Chg (· = nb) w w7 := by rw [e7]; exact Chg.set (S := (· = nb)) c6 (p := ⟨nb, 7, none⟩) (fun _ => rfl) v7
  obtain ⟨w8, e8⟩ : ∃ x : World, x = World.setCell w7 ⟨nb, 8, none⟩ v8 := ⟨_, rfl⟩
  have h8 : Blk w8 nb #[v0, v1, v2, v3, v4, v5, v6, v7, v8, u32v y9, u32v y10] 110 := by rw [e8]; exact Blk.set h7 8 v8
  have c8 : Chg (· = nb) w w8 := by rw [e8]; exact Chg.set (S := (· = nb)) c7 (p := ⟨nb, 8, none⟩) (fun _ => rfl) v8
  obtain ⟨w9, e9⟩ : ∃ x : World, x = World.setCell w8 ⟨nb, 9, none⟩ v9 := ⟨_, rfl⟩
  have h9 : Blk w9 nb #[v0, v1, v2, v3, v4, v5, v6, v7, v8, v9, u32v y10] 110 := by rw [e9]; exact Blk.set h8 9 v9
  have c9 : Chg (· = nb) w w9 := by rw [e9]; exact Chg.set (S := (· = nb)) c8 (p := ⟨nb, 9, none⟩) (fun _ => rfl) v9
  obtain ⟨w10, e10⟩ : ∃ x : World, x = World.setCell w9 ⟨nb, 10, none⟩ v10 := ⟨_, rfl⟩
  have h10 : Blk w10 nb #[v0, v1, v2, v3, v4, v5, v6, v7, v8, v9, v10] 110 := by rw [e10]; exact Blk.set h9 10 v10
  have c10 : Chg (· = nb) w w10 := by rw [e10]; exact Chg.set (S := (· = nb)) c9 (p := ⟨nb, 10, none⟩) (fun _ => rfl) v10
  refine ⟨w10, ?_, h10, c10⟩
  rw [e10, e9, e8, e7, e6, e5, e4, e3, e2, e1, e0]
def DonePostI (wb nb s x0 x1 x2 x3 x4 x5 x6 x7 : Nat) (w : World) (e : Ending) (w' : World) : Prop :=
  e = .returned (.int .i64 0) ∧ Blk w' nb (inoC s x0 x1 x2 x3 x4 x5 x6 x7 0 0) 110 ∧ Chg (fun k => k = wb ∨ k = nb) w w'
set_option maxHeartbeats 2000000 in
set_option maxRecDepth 100000 in
theorem inoDone {w : World} {wb nb x0 x1 x2 x3 x4 x5 x6 x7 t1 z1 t2 z2 t3 z3 rb rc : Nat} {ca ma ka : Option Addr} {kn kc : Nat} {y0 y1 y2 y3 y4 y5 y6 y7 y8 y9 y10 : Nat} (h : WorkAt w wb 703 x0 x1 x2 x3 x4 x5 x6 x7 (.pointer ca) (.pointer ma) t1 z1 t2 z2 t3 z3 rb rc (.slice ka kn kc) (.slice none 0 0)) (hne : wb ≠ t1 ∧ wb ≠ t2 ∧ wb ≠ t3 ∧ wb ≠ rb)
    (hn : Blk w nb (inoC y0 y1 y2 y3 y4 y5 y6 y7 y8 y9 y10) 110) (hnw : nb ≠ wb) :
    Calls Try.prog 70 #[.pointer (some ⟨wb, 0, none⟩), .pointer (some ⟨nb, 0, none⟩), .int .i64 0] w (DonePostI wb nb 703 x0 x1 x2 x3 x4 x5 x6 x7 w) := by
  have KE := Lib.hid (inoEnd h hne)
  have HN := Lib.hid hn
  clear h hn
  go_enter Try.func70, Try.ntmps70
  go_wp2_with fail
  refine KE.out.mono ?_
  rintro e w1 ⟨rfl, hW, hC⟩
  have N1 := Lib.hid (hC.blk HN.out hnw)
  have C1 := Lib.hid hC
  have W1 := Lib.hid hW
  have c0 : w1.cell? ⟨wb, 0, none⟩ = some (.int .i64 (703 : Nat)) := W1.out.cell (o := 0) rfl
  have c1 : w1.cell? ⟨wb, 1, none⟩ = some (u32v x0) := W1.out.cell (o := 1) rfl
  have c2 : w1.cell? ⟨wb, 2, none⟩ = some (u32v x1) := W1.out.cell (o := 2) rfl
  have c3 : w1.cell? ⟨wb, 3, none⟩ = some (u32v x2) := W1.out.cell (o := 3) rfl
  have c4 : w1.cell? ⟨wb, 4, none⟩ = some (u32v x3) := W1.out.cell (o := 4) rfl
  have c5 : w1.cell? ⟨wb, 5, none⟩ = some (u32v x4) := W1.out.cell (o := 5) rfl
  have c6 : w1.cell? ⟨wb, 6, none⟩ = some (u32v x5) := W1.out.cell (o := 6) rfl
  have c7 : w1.cell? ⟨wb, 7, none⟩ = some (u32v x6) := W1.out.cell (o := 7) rfl
  have c8 : w1.cell? ⟨wb, 8, none⟩ = some (u32v x7) := W1.out.cell (o := 8) rfl
  have c9 : w1.cell? ⟨wb, 9, none⟩ = some (u32v 0) := W1.out.cell (o := 9) rfl
  have c10 : w1.cell? ⟨wb, 10, none⟩ = some (u32v 0) := W1.out.cell (o := 10) rfl
  have n0 : w1.cell? ⟨nb, 0, none⟩ = some (.int .i64 (y0 : Int)) := N1.out.cell (o := 0) rfl
  have f0 := N1.out.free 0
  have n1 : w1.cell? ⟨nb, 1, none⟩ = some (u32v y1) := N1.out.cell (o := 1) rfl
  have f1 := N1.out.free 1
  have n2 : w1.cell? ⟨nb, 2, none⟩ = some (u32v y2) := N1.out.cell (o := 2) rfl
  have f2 := N1.out.free 2
  have n3 : w1.cell? ⟨nb, 3, none⟩ = some (u32v y3) := N1.out.cell (o := 3) rfl
  have f3 := N1.out.free 3
  have n4 : w1.cell? ⟨nb, 4, none⟩ = some (u32v y4) := N1.out.cell (o := 4) rfl
  have f4 := N1.out.free 4
  have n5 : w1.cell? ⟨nb, 5, none⟩ = some (u32v y5) := N1.out.cell (o := 5) rfl
  have f5 := N1.out.free 5
  have n6 : w1.cell? ⟨nb, 6, none⟩ = some (u32v y6) := N1.out.cell (o := 6) rfl
  have f6 := N1.out.free 6
  have n7 : w1.cell? ⟨nb, 7, none⟩ = some (u32v y7) := N1.out.cell (o := 7) rfl
  have f7 := N1.out.free 7
  have n8 : w1.cell? ⟨nb, 8, none⟩ = some (u32v y8) := N1.out.cell (o := 8) rfl
  have f8 := N1.out.free 8
  have n9 : w1.cell? ⟨nb, 9, none⟩ = some (u32v y9) := N1.out.cell (o := 9) rfl
  have f9 := N1.out.free 9
  have n10 : w1.cell? ⟨nb, 10, none⟩ = some (u32v y10) := N1.out.cell (o := 10) rfl
  have f10 := N1.out.free 10
  have c17 : w1.cell? ⟨wb, 17, none⟩ = some (.slice none 0 0) := W1.out.cell (o := 17) rfl
  have hnl := N1.out.lt
  have hwl := W1.out.lt
  clear hW hC KE
  go_wp2
  obtain ⟨W, hW, hB, hG⟩ := set11 N1.out (.int .i64 703) (.int .u32 (x0 : Int)) (.int .u32 (x1 : Int)) (.int .u32 (x2 : Int)) (.int .u32 (x3 : Int)) (.int .u32 (x4 : Int)) (.int .u32 (x5 : Int)) (.int .u32 (x6 : Int)) (.int .u32 (x7 : Int)) (.int .u32 0) (.int .u32 0)
  rw [← hW]
  have HB := Lib.hid hB
  have HG := Lib.hid (((C1.out.mono (S' := fun k => k = wb ∨ k = nb) fun i _ e => .inl e)).trans (hG.mono fun i _ e => .inr e))
  clear hW hB hG
  go_loopw [9, 32] (fun _ iv wr => iv = .int .i64 0 ∧ wr = W) (fun _ _ _ => 0)
  case atStart => exact ⟨rfl, rfl⟩
  case round =>
    obtain ⟨rfl, rfl⟩ := hrel
    go_wp2
    go_ret
    exact ⟨rfl, HB.out, HG.out⟩
end Go.Proofs.Ytfcddpbpfckjfaa

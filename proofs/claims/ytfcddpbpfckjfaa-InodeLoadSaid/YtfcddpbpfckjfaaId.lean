/- A change of an inode begins. -/
import Derived.Test.YtfcddpbpfckjfaaChecked
import Derived.WalkKit
import Derived.Outline
import Derived.WalkSpells
import Derived.WalkLawsBesides
import Derived.Deep.QuietTactic
import Derived.Deep.RegionWith
import Derived.Deep.DeepMust
import Derived.BigQuiet
import Derived.Test.YtfcddpbpfckjfaaMem
import Derived.RegionTactic
import Derived.ChangeAlike
import Derived.StillTailTactics
import Derived.BigRegion
import Derived.Deep.LoopGhost
import Derived.Deep.RegionHeld3
import Derived.Deep.OwnRows
import Derived.Test.YtfcddpbpfckjfaaIc
namespace Go.Proofs.Ytfcddpbpfckjfaa
open Go.RowKit
set_option linter.unusedVariables false
set_option linter.unusedSimpArgs false
/-- A table without a number: zeros. -/
def TabAt (w : World) (tb zb : Nat) : Prop := Blk w tb #[.int .i64 0, .slice (some ⟨zb, 0, none⟩) 512 512, .bool false] 161 ∧ Rdv u8v w (.slice (some ⟨zb, 0, none⟩) 512 512) zB
theorem TabAt.plain {w : World} {tb zb : Nat} (h : TabAt w tb zb) : Plain w tb := ⟨_, _, h.1, fun i n e => by rcases i with _ | _ | _ | i <;> simp at e⟩
theorem TabAt.stayN {S : Nat → Prop} {w w' : World} {tb zb : Nat} (h : TabAt w tb zb) (g : Chg S w w') (hs : ∀ k, S k → NoB w k ∧ k ≠ tb) : TabAt w' tb zb :=
  ⟨g.blk h.1 (fun e => (hs _ e).2 rfl), h.2.stayN g (fun k hk => (hs k hk).1)⟩
theorem TabAt.below {w w' : World} {tb zb : Nat} (h : TabAt w tb zb) (g : Below w.heap.size w w') : TabAt w' tb zb := ⟨blkBelow g h.1 (Blk.lt h.1), h.2.below g⟩
def TLoadPost (w : World) (e : Ending) (w' : World) : Prop := ∃ tb zb : Nat, e = .returned (.tuple #[.pointer (some ⟨tb, 0, none⟩), .int .i64 0]) ∧ w.heap.size ≤ tb ∧ w.heap.size ≤ zb ∧ TabAt w' tb zb ∧ Below w.heap.size w w'
theorem inoLoad0 (p : Value) (w : World) : Calls Try.prog 86 #[p, .int .i64 0] w (TLoadPost w) := by
  have hmk := wMk512
  have hz := wZeros w 512 (by unfold maxLen; omega)
  have Z := Lib.hid hz
  clear hz
  go_enter Try.func86, Try.ntmps86
  go_wp2
  go_ret2
  refine ⟨w.heap.size + 1, w.heap.size, by simp, by omega, Nat.le_refl _, ⟨?_, ?_⟩, by (repeat (first | exact Below.refl _ _ | (with_reducible assumption) | apply Below.drew | apply belowDN | (refine Below.alloc ?_ (by first | exact Nat.le_refl _ | omega | (simp; done) | (simp; omega)) _) | (refine Below.setCell ?_ (by first | exact Nat.le_refl _ | omega | (simp; done) | (simp; omega)) _) | (refine Below.trans ?_ (Below.mono (by with_reducible assumption) (by first | omega | (simp; done) | (simp; omega))))))⟩
  · have := Blk.new (w.alloc (.cells (madeCells #[.int .u8 0] 512) 5)) #[.int .i64 0, .slice (some ⟨w.heap.size, 0, none⟩) 512 512, .bool false] 161
    simpa using this
  · exact Z.out.below ((Below.refl _ _).alloc (Nat.le_refl _) _)
theorem zB_get (k : Nat) : get4 (zB.drop k) = 0 := by
  unfold get4 zB
  simp only [drop_getD, zeros_getD]
  rfl
theorem inoTabAt {w : World} {tb zb : Nat} (h : TabAt w tb zb) : Calls Try.prog 87 #[.pointer (some ⟨tb, 0, none⟩), .int .i64 0] w fun e w' => e = .returned (.int .i64 0) ∧ Below w.heap.size w w' := by
  have c1 : w.cell? ⟨tb, 1, none⟩ = some (.slice (some ⟨zb, 0, none⟩) 512 512) := Blk.cell h.1 (o := 1) rfl
  have KG := get32 _ _ w h.2 (by intro q hq; have := (List.mem_replicate.1 hq).2; omega) (by rw [List.length_replicate]; omega)
  have e := zB_get 0
  rw [List.drop_zero] at e
  rw [e] at KG
  have KG2 := Lib.hid KG
  clear h KG e
  go_enter Try.func87, Try.ntmps87
  go_wp2_with fail
  refine KG2.out.mono ?_
  rintro e w1 ⟨rfl, n1, rfl⟩
  go_wp2
  go_ret
  exact ⟨rfl, Drw.below ⟨_, rfl⟩⟩
/-- A change's cells. -/
def workC (s x0 x1 x2 x3 x4 x5 x6 x7 x8 x9 : Nat) (cv mv one two more taken back : Value) : Array Value := #[.int .i64 (s : Int), u32v x0, u32v x1, u32v x2, u32v x3, u32v x4, u32v x5, u32v x6, u32v x7, u32v x8, u32v x9, cv, mv, one, two, more, taken, back]
structure WorkAt (w : World) (wb s x0 x1 x2 x3 x4 x5 x6 x7 : Nat) (cv mv : Value) (t1 z1 t2 z2 t3 z3 rb : Nat) (rc : Nat) (taken back : Value) : Prop where
  blk : Blk w wb (workC s x0 x1 x2 x3 x4 x5 x6 x7 0 0 cv mv (.pointer (some ⟨t1, 0, none⟩)) (.pointer (some ⟨t2, 0, none⟩)) (.slice (some ⟨rb, 0, none⟩) 1 rc) taken back) 128
  one : TabAt w t1 z1
  two : TabAt w t2 z2
  tre : TabAt w t3 z3
  row : w.cell? ⟨rb, 0, none⟩ = some (.pointer (some ⟨t3, 0, none⟩)) ∧ (∃ cs, Blk w rb cs 125) ∧ 1 ≤ rc ∧ rc ≤ 9223372036854775807
  apart : t1 ≠ t2 ∧ t1 ≠ t3 ∧ t2 ≠ t3
theorem workPlain {w : World} {wb s x0 x1 x2 x3 x4 x5 x6 x7 x8 x9 : Nat} {ca ma t1 t2 : Option Addr} {ra ta ba : Option Addr} {rn rc tn tc bn bc : Nat} (h : Blk w wb (workC s x0 x1 x2 x3 x4 x5 x6 x7 x8 x9 (.pointer ca) (.pointer ma) (.pointer t1) (.pointer t2) (.slice ra rn rc) (.slice ta tn tc) (.slice ba bn bc)) 128) : Plain w wb :=
  ⟨_, _, h, fun i n e => by
    rcases i with _ | _ | _ | _ | _ | _ | _ | _ | _ | _ | _ | _ | _ | _ | _ | _ | _ | _ | i <;> simp [workC] at e⟩
theorem own_addrT {w : World} {B T n : Nat} {v : Value} {xs : List Value} (h : w.ownsRow B T 1 v n xs) (hn : 0 < n) : ∃ g c, v = .slice (some ⟨g, 0, none⟩) n c := by
  obtain ⟨a, c, rfl, h1, _, h3⟩ := own_shape h
  rcases a with _ | x
  · exfalso
    rcases h.2 with ⟨h0, _⟩ | ⟨g, cap, cur, e1, _⟩
    · rw [Value.slice.injEq] at h0
      omega
    · rw [Value.slice.injEq] at e1
      cases e1.1
  · obtain ⟨g, rfl⟩ := h3 x rfl
    exact ⟨g, c, rfl⟩
theorem tabInfo : (Try.prog.info? 125).map (fun i => (i.zero, i.size, i.bytes)) = some (some (.pointer none), 1, 8) := by kernel_rfl
def BegPost (s x0 x1 x2 x3 x4 x5 x6 x7 : Nat) (cv mv : Value) (w : World) (e : Ending) (w' : World) : Prop :=
  ∃ wb t1 z1 t2 z2 t3 z3 rb rc : Nat, e = .returned (.tuple #[.pointer (some ⟨wb, 0, none⟩), .int .i64 0]) ∧ (w.heap.size ≤ wb ∧ w.heap.size ≤ t1 ∧ w.heap.size ≤ t2 ∧ w.heap.size ≤ t3 ∧ w.heap.size ≤ rb) ∧ WorkAt w' wb s x0 x1 x2 x3 x4 x5 x6 x7 cv mv t1 z1 t2 z2 t3 z3 rb rc (.slice none 0 0) (.slice none 0 0) ∧ Below w.heap.size w w'
set_option maxHeartbeats 2000000 in
set_option maxRecDepth 100000 in
theorem inoBegin {w : World} {nb s x0 x1 x2 x3 x4 x5 x6 x7 : Nat} (h : Blk w nb (inoC s x0 x1 x2 x3 x4 x5 x6 x7 0 0) 110) (cv mv : Value) (ca ma : Option Addr) (hcv : cv = .pointer ca) (hmv : mv = .pointer ma) :
    Calls Try.prog 65 #[.pointer (some ⟨nb, 0, none⟩), cv, mv] w (BegPost s x0 x1 x2 x3 x4 x5 x6 x7 cv mv w) := by
  subst hcv hmv
  have c0 : w.cell? ⟨nb, 0, none⟩ = some (.int .i64 (s : Int)) := h.cell (o := 0) rfl
  have c1 : w.cell? ⟨nb, 1, none⟩ = some (u32v x0) := h.cell (o := 1) rfl
  have c2 : w.cell? ⟨nb, 2, none⟩ = some (u32v x1) := h.cell (o := 2) rfl
  have c3 : w.cell? ⟨nb, 3, none⟩ = some (u32v x2) := h.cell (o := 3) rfl
  have c4 : w.cell? ⟨nb, 4, none⟩ = some (u32v x3) := h.cell (o := 4) rfl
  have c5 : w.cell? ⟨nb, 5, none⟩ = some (u32v x4) := h.cell (o := 5) rfl
  have c6 : w.cell? ⟨nb, 6, none⟩ = some (u32v x5) := h.cell (o := 6) rfl
  have c7 : w.cell? ⟨nb, 7, none⟩ = some (u32v x6) := h.cell (o := 7) rfl
  have c8 : w.cell? ⟨nb, 8, none⟩ = some (u32v x7) := h.cell (o := 8) rfl
  have c9 : w.cell? ⟨nb, 9, none⟩ = some (u32v 0) := h.cell (o := 9) rfl
  have c10 : w.cell? ⟨nb, 10, none⟩ = some (u32v 0) := h.cell (o := 10) rfl
  have H := Lib.hid h
  have hlt := h.lt
  have KL := Lib.hid inoLoad0
  go_enter Try.func65, Try.ntmps65
  go_wp2_with fail
  have W0 := Lib.hid (Blk.new w (workC s x0 x1 x2 x3 x4 x5 x6 x7 0 0 (.pointer ca) (.pointer ma) (.pointer none) (.pointer none) (.slice none 0 0) (.slice none 0 0) (.slice none 0 0)) 128)
  have N0 := Lib.hid (h.alloc (.cells (workC s x0 x1 x2 x3 x4 x5 x6 x7 0 0 (.pointer ca) (.pointer ma) (.pointer none) (.pointer none) (.slice none 0 0) (.slice none 0 0) (.slice none 0 0)) 128))
  have B0 := Lib.hid ((Below.refl w.heap.size w).alloc (Nat.le_refl _) (.cells (workC s x0 x1 x2 x3 x4 x5 x6 x7 0 0 (.pointer ca) (.pointer ma) (.pointer none) (.pointer none) (.slice none 0 0) (.slice none 0 0) (.slice none 0 0)) 128))
  obtain ⟨wb, hwb⟩ : ∃ wb : Nat, w.heap.size = wb := ⟨_, rfl⟩
  have hbn : nb ≠ wb := by omega
  refine (KL.out _ _).mono ?_
  rintro e w1 ⟨t1, z1, rfl, ht1, hz1, hT1, hb1⟩
  have hs1 : wb + 1 ≤ t1 := by rw [← hwb]; simpa using ht1
  have W1 := Lib.hid (blkBelow hb1 W0.out W0.out.lt)
  have N1 := Lib.hid (blkBelow hb1 N0.out N0.out.lt)
  have B1 := Lib.hid (B0.out.trans (hb1.mono B0.out.size))
  have T1 := Lib.hid hT1
  (try rw [hwb])
  rw [hwb] at W1
  have hwl := W1.out.lt
  have hnl := N1.out.lt
  clear c0 c1 c2 c3 c4 c5 c6 c7 c8 c9 c10 hT1 hb1 W0 N0 h
  have d10 : w1.cell? ⟨nb, 10, none⟩ = some (u32v 0) := N1.out.cell (o := 10) rfl
  have d13 : w1.cell? ⟨wb, 13, none⟩ = some (.pointer none) := W1.out.cell (o := 13) rfl
  have f13 := W1.out.free 13
  go_wp2_with fail
  have W1' : Hid (Blk (w1.setCell ⟨wb, 13, none⟩ (.pointer (some ⟨t1, 0, none⟩))) wb (workC s x0 x1 x2 x3 x4 x5 x6 x7 0 0 (.pointer ca) (.pointer ma) (.pointer (some ⟨t1, 0, none⟩)) (.pointer none) (.slice none 0 0) (.slice none 0 0) (.slice none 0 0)) 128) := Lib.hid (W1.out.set 13 _)
  have N1' := Lib.hid (N1.out.set_ne (a := ⟨wb, 13, none⟩) hbn (.pointer (some ⟨t1, 0, none⟩)))
  have hc1 : Chg (· = wb) w1 (w1.setCell ⟨wb, 13, none⟩ (.pointer (some ⟨t1, 0, none⟩))) := Chg.set (S := (· = wb)) (Chg.refl _ _) (p := ⟨wb, 13, none⟩) (fun _ => rfl) _
  have hbw : Plain w1 wb := workPlain W1.out
  have T1' := Lib.hid (T1.out.stayN hc1 (fun k hk => by subst hk; exact ⟨hbw.noB, by omega⟩))
  have B1' := Lib.hid (hc1.below_trans B1.out (by omega) (fun i h1 h2 => by omega))
  have htl := Blk.lt T1.out.1
  refine (KL.out _ _).mono ?_
  rintro e w2 ⟨t2, z2, rfl, ht2, hz2, hT2, hb2⟩
  have hs2 : w1.heap.size ≤ t2 := by simpa [size_setCell] using ht2
  have W2 := Lib.hid (blkBelow hb2 W1'.out W1'.out.lt)
  have B2 := Lib.hid (B1'.out.trans (hb2.mono B1'.out.size))
  have T2 := Lib.hid hT2
  have T12 := Lib.hid (T1'.out.below hb2)
  have hwl2 := W2.out.lt
  have d14 : w2.cell? ⟨wb, 14, none⟩ = some (.pointer none) := W2.out.cell (o := 14) rfl
  have f14 := W2.out.free 14
  clear d10 d13 f13 hT2 hb2 hc1 W1 N1 W1' N1' T1 T1' B1 B1'
  go_wp2_with fail
  have W2' : Hid (Blk (w2.setCell ⟨wb, 14, none⟩ (.pointer (some ⟨t2, 0, none⟩))) wb (workC s x0 x1 x2 x3 x4 x5 x6 x7 0 0 (.pointer ca) (.pointer ma) (.pointer (some ⟨t1, 0, none⟩)) (.pointer (some ⟨t2, 0, none⟩)) (.slice none 0 0) (.slice none 0 0) (.slice none 0 0)) 128) := Lib.hid (W2.out.set 14 _)
  have hc2 : Chg (· = wb) w2 (w2.setCell ⟨wb, 14, none⟩ (.pointer (some ⟨t2, 0, none⟩))) := Chg.set (S := (· = wb)) (Chg.refl _ _) (p := ⟨wb, 14, none⟩) (fun _ => rfl) _
  have hbw2 : Plain w2 wb := workPlain W2.out
  have T12' := Lib.hid (T12.out.stayN hc2 (fun k hk => by subst hk; exact ⟨hbw2.noB, by omega⟩))
  have T2' := Lib.hid (T2.out.stayN hc2 (fun k hk => by subst hk; exact ⟨hbw2.noB, by omega⟩))
  have B2' := Lib.hid (hc2.below_trans B2.out (by omega) (fun i h1 h2 => by omega))
  have htl2 := Blk.lt T12.out.1
  have htl3 := Blk.lt T2.out.1
  have hz0 : w2.heap.size ≤ (w2.setCell ⟨wb, 14, none⟩ (.pointer (some ⟨t2, 0, none⟩))).heap.size := hc2.size
  generalize w2.setCell ⟨wb, 14, none⟩ (.pointer (some ⟨t2, 0, none⟩)) = w3 at *
  clear d14 f14 hc2 W2 T12 T2 B2
  have KB := Lib.hid (fun w => inoBlocks 65536 w (by omega) (by omega))
  obtain ⟨i0, hi, hq0, hq1, hq2⟩ := info_parts tabInfo
  go_loopw [10, 11, 12] (fun iv _ _ wr => (iv = .int .i64 0 ∧ wr = w3) ∨ (iv = .int .i64 1 ∧ ∃ t3 z3 rb rc : Nat, w3.heap.size ≤ t3 ∧ w3.heap.size ≤ rb ∧ WorkAt wr wb s x0 x1 x2 x3 x4 x5 x6 x7 (.pointer ca) (.pointer ma) t1 z1 t2 z2 t3 z3 rb rc (.slice none 0 0) (.slice none 0 0) ∧ Below w.heap.size w wr)) (fun iv _ _ _ => 1 - (intOf iv).toNat)
  case atStart => exact .inl ⟨rfl, rfl⟩
  case round =>
    rcases hrel with ⟨rfl, rfl⟩ | ⟨rfl, t3, z3, rb, rc, ht3, hrb, hW, hB⟩
    · have d14 : wr.cell? ⟨wb, 14, none⟩ = some (.pointer (some ⟨t2, 0, none⟩)) := W2'.out.cell (o := 14) rfl
      have KT := Lib.hid (inoTabAt T2'.out)
      go_wp2_with fail
      refine (KB.out _).mono ?_
      rintro e w4 ⟨rfl, rfl⟩
      go_wp2_with fail
      refine KT.out.mono ?_
      rintro e w4 ⟨rfl, hb4⟩
      have hs4 := hb4.size
      have HB4 := Lib.hid hb4
      clear hb4 d14
      go_wp2_with fail
      refine (KL.out _ _).mono ?_
      rintro e w5 ⟨t3, z3, rfl, ht3, hz3, hT3, hb5⟩
      have hb5' : Below wr.heap.size wr w5 := HB4.out.trans (hb5.mono hs4)
      have W5 := Lib.hid (blkBelow hb5' W2'.out W2'.out.lt)
      have T15 := Lib.hid (T12'.out.below hb5')
      have T25 := Lib.hid (T2'.out.below hb5')
      have T35 := Lib.hid hT3
      have B5 := Lib.hid (B2'.out.trans (hb5'.mono B2'.out.size))
      have d15 : w5.cell? ⟨wb, 15, none⟩ = some (.slice none 0 0) := W5.out.cell (o := 15) rfl
      have f15 := W5.out.free 15
      have hwl5 := W5.out.lt
      have htl5 := Blk.lt T35.out.1
      have hs5 := hb5'.size
      clear hT3 hb5 hb5' KT HB4 T12' T2' W2' B2'
      go_wp2_with (at_builtin; refine wpList_append_own _ rfl _ _ 126 rfl w5.heap.size 125 i0 (.pointer none) 1 8 Try.underlying126 hi hq0 hq1 hq2 rfl (by decide) _ _ _ rfl (World.ownsRow_nil _ _ _ _) ⟨w5.heap.size, 0, none⟩ 1 1 [.pointer (some ⟨t3, 0, none⟩)] rfl rfl ?c1 ?c2 ?c3 ?c4 ?c5 ?_)
      case c1 => exact cell_one_new _ _ _
      case c2 => intro u hu; simp at hu; subst hu; rfl
      case c3 => unfold maxLen; omega
      case c4 => simp
      case c5 => simp
      intro v6 w6 ho6 hg6 _
      obtain ⟨rb, rc, rfl⟩ := own_addrT ho6 (by omega)
      obtain ⟨hrb, hrl, hr1, hr2, cur, hrw, hr3⟩ := own_cells ho6
      have hr0 : w6.cell? ⟨rb, 0, none⟩ = some (.pointer (some ⟨t3, 0, none⟩)) := hrw.cell (o := 0) (by
        have := congrArg (fun l : List Value => l[0]?) hr3.2
        simpa using this)
      have hb6 : Below w5.heap.size w5 w6 := ((Below.refl w5.heap.size w5).alloc (Nat.le_refl _) _).grown hg6 (by simp) (fun q hq => by simp [Value.ownBlock] at hq)
      have W6 := Lib.hid (blkBelow hb6 W5.out W5.out.lt)
      have T16 := Lib.hid (T15.out.below hb6)
      have T26 := Lib.hid (T25.out.below hb6)
      have T36 := Lib.hid (T35.out.below hb6)
      have B6 := Lib.hid (B5.out.trans (hb6.mono B5.out.size))
      have HR := Lib.hid hrw
      have HR0 := Lib.hid hr0
      have hwl6 := W6.out.lt
      have d15' : w6.cell? ⟨wb, 15, none⟩ = some (.slice none 0 0) := W6.out.cell (o := 15) rfl
      have f15' := W6.out.free 15
      have hs6 := hb6.size
      clear d15 f15 W5 T15 T25 T35 B5 hrw hr0 hr3 hb6 ho6 hg6
      have W7 : Hid (Blk (w6.setCell ⟨wb, 15, none⟩ (.slice (some ⟨rb, 0, none⟩) 1 rc)) wb (workC s x0 x1 x2 x3 x4 x5 x6 x7 0 0 (.pointer ca) (.pointer ma) (.pointer (some ⟨t1, 0, none⟩)) (.pointer (some ⟨t2, 0, none⟩)) (.slice (some ⟨rb, 0, none⟩) 1 rc) (.slice none 0 0) (.slice none 0 0)) 128) := Lib.hid (W6.out.set 15 _)
      have hc7 : Chg (· = wb) w6 (w6.setCell ⟨wb, 15, none⟩ (.slice (some ⟨rb, 0, none⟩) 1 rc)) := Chg.set (S := (· = wb)) (Chg.refl _ _) (p := ⟨wb, 15, none⟩) (fun _ => rfl) _
      have hp7 : Plain w6 wb := workPlain W6.out
      have T17 := Lib.hid (T16.out.stayN hc7 (fun k hk => by subst hk; exact ⟨hp7.noB, by omega⟩))
      have T27 := Lib.hid (T26.out.stayN hc7 (fun k hk => by subst hk; exact ⟨hp7.noB, by omega⟩))
      have T37 := Lib.hid (T36.out.stayN hc7 (fun k hk => by subst hk; exact ⟨hp7.noB, by omega⟩))
      have B7 := Lib.hid (hc7.below_trans B6.out (by omega) (fun i h1 h2 => by omega))
      have R7 := Lib.hid (hc7.blk HR.out (by omega))
      have R70 : Hid ((w6.setCell ⟨wb, 15, none⟩ (.slice (some ⟨rb, 0, none⟩) 1 rc)).cell? ⟨rb, 0, none⟩ = some (.pointer (some ⟨t3, 0, none⟩))) := Lib.hid (by
        rw [World.cell?_setCell_other _ _ _ _ (by intro e; injection e with e _ _; omega)]
        exact HR0.out)
      have ht3' : wr.heap.size ≤ t3 := by omega
      have FIN := Lib.hid (show WorkAt _ wb s x0 x1 x2 x3 x4 x5 x6 x7 (.pointer ca) (.pointer ma) t1 z1 t2 z2 t3 z3 rb rc (.slice none 0 0) (.slice none 0 0) from ⟨W7.out, T17.out, T27.out, T37.out, ⟨R70.out, ⟨_, R7.out⟩, hr1, hr2⟩, by omega, by omega, by omega⟩)
      clear hc7 hp7 W6 T16 T26 T36 B6 W7 T17 T27 T37 R7 R70 HR HR0
      go_wp2
      go_roundw
      case rel => exact .inr ⟨by go_num, t3, z3, rb, rc, ht3', by omega, FIN.out, B7.out⟩
      case measure => simp [intOf]
    · have HW := Lib.hid hW
      have HB := Lib.hid hB
      clear hW hB
      go_wp2_with fail
      refine (KB.out _).mono ?_
      rintro e w4 ⟨rfl, rfl⟩
      go_wp2
      go_ret2
      exact ⟨wb, t1, z1, t2, z2, t3, z3, rb, rc, rfl, by omega, HW.out, HB.out⟩
end Go.Proofs.Ytfcddpbpfckjfaa

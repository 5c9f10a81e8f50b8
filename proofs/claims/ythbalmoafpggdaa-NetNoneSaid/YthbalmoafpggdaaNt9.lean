/- A net: what is refused; what is begun. -/
import Derived.Test.YthbalmoafpggdaaChecked
import Derived.WalkKit
import Derived.Outline
import Derived.WalkSpells
import Derived.WalkLawsBesides
import Derived.Deep.QuietTactic
import Derived.Deep.RegionWith
import Derived.Deep.DeepMust
import Derived.BigQuiet
import Derived.Test.YthbalmoafpggdaaMem
import Derived.RegionTactic
import Derived.ChangeAlike
import Derived.StillTailTactics
import Derived.BigRegion
import Derived.Deep.LoopGhost
import Derived.Deep.RegionHeld
import Derived.Deep.RegionHeld3
import Derived.Deep.RegionLaw
import Derived.Deep.AppendLies
import Derived.Deep.DeepCutAuto
import Derived.Deep.CutBlock
import Derived.IntWalk
import Derived.Test.YthbalmoafpggdaaNt8
namespace Go.Proofs.Ythbalmoafpggdaa
open Go.RowKit
set_option linter.unusedVariables false
set_option linter.unusedSimpArgs false
def ErrPost (n : Int) (w : World) (e : Ending) (w' : World) : Prop := e = .returned (.int .i64 n) ∧ Below w.heap.size w w'
set_option maxRecDepth 100000 in
theorem nPutNil (src dst due : Int) (w : World) : Calls Try.prog 41 #[.pointer none, .agg #[.int .i64 src, .int .i64 dst, .int .i64 due, .slice none 0 0]] w (ErrPost 22 w) := by
  go_enter Try.func41, Try.ntmps41
  go_wp2
  go_ret
  exact ⟨rfl, by (repeat (first | exact Below.refl _ _ | (with_reducible assumption) | apply Below.drew | (refine Below.alloc ?_ (by first | exact Nat.le_refl _ | omega | (simp; done) | (simp; omega)) _) | (refine Below.setCell ?_ (by first | exact Nat.le_refl _ | omega | (simp; done) | (simp; omega)) _) | (refine Below.trans ?_ (Below.mono (by with_reducible assumption) (by first | omega | (simp; done) | (simp; omega))))))⟩
set_option maxRecDepth 100000 in
theorem nDupNil (w : World) : Calls Try.prog 43 #[.pointer none, .int .i64 0] w (ErrPost 22 w) := by
  go_enter Try.func43, Try.ntmps43
  go_wp2_with fail
  refine (nFindNil _).mono ?_
  rintro e w1 ⟨rfl, rfl⟩
  go_wp2
  go_ret
  exact ⟨rfl, Below.refl _ _⟩
set_option maxRecDepth 100000 in
theorem nSpoilNil (b : Int) (w : World) : Calls Try.prog 44 #[.pointer none, .int .i64 0, .int .i64 0, .int .u8 b] w (ErrPost 22 w) := by
  go_enter Try.func44, Try.ntmps44
  go_wp2_with fail
  refine (nFindNil _).mono ?_
  rintro e w1 ⟨rfl, rfl⟩
  go_wp2
  go_ret
  exact ⟨rfl, Below.refl _ _⟩
set_option maxRecDepth 100000 in
theorem nCutNil (w : World) : Calls Try.prog 45 #[.pointer none, .int .i64 0] w (ErrPost 0 w) := by
  go_enter Try.func45, Try.ntmps45
  go_wp2
  go_ret
  exact ⟨rfl, by (repeat (first | exact Below.refl _ _ | (with_reducible assumption) | apply Below.drew | (refine Below.alloc ?_ (by first | exact Nat.le_refl _ | omega | (simp; done) | (simp; omega)) _) | (refine Below.setCell ?_ (by first | exact Nat.le_refl _ | omega | (simp; done) | (simp; omega)) _) | (refine Below.trans ?_ (Below.mono (by with_reducible assumption) (by first | omega | (simp; done) | (simp; omega))))))⟩
theorem nNew (n : Int) (w : World) (h1 : 1 ≤ n) (h2 : n ≤ 65536) : Calls Try.prog 40 #[.int .i64 n] w fun e w' => e = .returned (.pointer (some ⟨w.heap.size, 0, none⟩)) ∧ w' = w.alloc (.cells #[.int .i64 n, .slice none 0 0, .int .i64 0] 130) := by
  go_enter Try.func40, Try.ntmps40
  go_wp2
  go_ret
  exact ⟨rfl, rfl⟩
theorem NetG.new (n : Int) (w : World) : NetG (w.alloc (.cells #[.int .i64 n, .slice none 0 0, .int .i64 0] 130)) w.heap.size n 0 (.slice none 0 0) [] :=
  ⟨Blk.new _ _ _, World.ownsRow_nil _ _ _ _, fun x hx => by cases hx⟩
set_option maxRecDepth 100000 in
theorem nPutLong (nb : Nat) (room came : Int) (lv : Value) (xs : List Wy) (src dst due : Int) (a : Option Addr) (n c : Nat) (w : World) (h : NetG w nb room came lv xs) (hr : (xs.length : Int) < room) (h1 : 0 ≤ src ∧ src < 64) (h2 : 0 ≤ dst ∧ dst < 64) (hl : 1048584 < n) (hn : n ≤ 9223372036854775807) :
    Calls Try.prog 41 #[.pointer (some ⟨nb, 0, none⟩), .agg #[.int .i64 src, .int .i64 dst, .int .i64 due, .slice a n c]] w (ErrPost 22 w) := by
  obtain ⟨la, lc, rfl, _, _, _⟩ := own_shape h.own
  have n_0 : w.cell? ⟨nb, 0, none⟩ = some (.int .i64 room) := h.blk.cell (o := 0) rfl
  have n_1 : w.cell? ⟨nb, 1, none⟩ = some (.slice la xs.length lc) := h.blk.cell (o := 1) rfl
  have hnl := h.blk.lt
  obtain ⟨s1, s2⟩ := h1
  obtain ⟨d1, d2⟩ := h2
  have hl' : (1048584 : Int) < (n : Int) := by omega
  clear h
  go_enter Try.func41, Try.ntmps41
  go_wp2
  go_quiet (fail)
  go_wp2_with fail
  refine (nNode _ _ s1 s2).mono ?_
  rintro e w2 ⟨rfl, rfl⟩
  go_wp2_with fail
  refine (nNode _ _ d1 d2).mono ?_
  rintro e w2 ⟨rfl, rfl⟩
  go_wp2
  go_ret
  exact ⟨rfl, below_drewN ((Below.refl w.heap.size w).alloc (Nat.le_refl _) _) _⟩
def NTrue (w : World) (e : Ending) (w' : World) : Prop := e = .returned (.bool true) ∧ Below w.heap.size w w'
theorem below_ns {w0 w w' : World} {nb g n c : Nat} (h0 : Below w0.heap.size w0 w) (hn : w0.heap.size ≤ nb) (hg : w0.heap.size ≤ g) (h : Chg (NS nb (.slice (some ⟨g, 0, none⟩) n c)) w w') : Below w0.heap.size w0 w' :=
  h.below_trans h0 h0.size (fun i hi e => by
    rcases e with e | e
    · omega
    · simp [Value.ownBlock] at e; omega)
set_option maxHeartbeats 8000000 in
set_option maxRecDepth 100000 in
theorem netBegun (w : World) : Calls Try.prog 42 #[] w (NTrue w) := by
  have kc := fun (w : World) (C : Array Value) (n c : Nat) => Lib.run_convert_bytes_const (P := Try.prog) w 24 5 C n c Try.underlying24 Try.underlying5
  go_enter Try.func42, Try.ntmps42
  go_wp2_with fail
  refine (nNew 5 w (by omega) (by omega)).mono ?_
  rintro e w1 ⟨rfl, hw1⟩
  have N1 := Lib.hid (hw1 ▸ NetG.new 5 w : NetG w1 w.heap.size 5 0 (.slice none 0 0) [])
  have B1 := Lib.hid (hw1 ▸ (Below.refl w.heap.size w).alloc (Nat.le_refl _) (.cells #[.int .i64 5, .slice none 0 0, .int .i64 0] 130) : Below w.heap.size w w1)
  have hb1 : w.heap.size < w1.heap.size := N1.out.blk.lt
  clear hw1
  have A1 := Lib.hid ((Below.refl w1.heap.size w1).alloc (Nat.le_refl _) (.cells #[.int .u8 120] 5 (1, 2)))
  have D1 : Hid (Rdv u8v (w1.alloc (.cells #[.int .u8 120] 5 (1, 2))) (.slice (some ⟨w1.heap.size, 0, none⟩) 1 1) [120]) := Lib.hid (rdv_mark w1 [120] _ _ (by decide))
  have K1 := Lib.hid (nPut w.heap.size 5 0 (.slice none 0 0) [] 1 2 9 _ [120] _ (N1.out.below A1.out) (.inl rfl) (by simp) (by omega) (by omega) D1.out (by simp) (by omega) (fun b o n c e => by rw [Value.slice.injEq] at e; obtain ⟨e, _⟩ := e; injection e with e; injection e with e _; omega))
  go_wp2_with fail
  refine K1.out.mono ?_
  rintro e w2 ⟨rfl, p1, b1, g1, c1, hn2, ho2, hg2⟩
  have N2 := Lib.hid hn2
  have B2 := Lib.hid (hg2.below_trans (B1.out.trans (A1.out.mono B1.out.size)) (B1.out.trans (A1.out.mono B1.out.size)).size (fun i hi e => by
    rcases e with e | e
    · omega
    · simp [Value.ownBlock] at e))
  have hb2 : w.heap.size < w2.heap.size := N2.out.blk.lt
  clear hn2 ho2 hg2 K1 D1 A1
  simp only [List.length_nil, Nat.zero_add, Int.zero_add] at N2
  have A2 := Lib.hid ((Below.refl w2.heap.size w2).alloc (Nat.le_refl _) (.cells #[.int .u8 121] 5 (1, 2)))
  have D2 : Hid (Rdv u8v (w2.alloc (.cells #[.int .u8 121] 5 (1, 2))) (.slice (some ⟨w2.heap.size, 0, none⟩) 1 1) [121]) := Lib.hid (rdv_mark w2 [121] _ _ (by decide))
  have K2 := Lib.hid (nPut w.heap.size 5 1 (.slice (some ⟨g1, 0, none⟩) 1 c1) [⟨p1, 1, 2, 9, b1, 1⟩] 1 3 4 _ [121] _ (N2.out.below A2.out) (.inr ⟨_, rfl, by simp⟩) (by simp) (by omega) (by omega) D2.out (by simp) (by omega) (fun b o n c e => by rw [Value.slice.injEq] at e; obtain ⟨e, _⟩ := e; injection e with e; injection e with e _; omega))
  have hgb : w.heap.size ≤ g1 := (own_cells N2.out.own).1
  go_wp2_with fail
  refine K2.out.mono ?_
  rintro e w3 ⟨rfl, p2, b2, g2, c2, hn3, ho3, hg3⟩
  obtain ⟨b2a, b2c, rfl, _, _, _⟩ := own_shape ho3
  have N3 := Lib.hid hn3
  have O3 := Lib.hid ho3
  have B3 := Lib.hid (below_ns (B2.out.trans (A2.out.mono B2.out.size)) (Nat.le_refl _) hgb hg3)
  have hb3 : w.heap.size < w3.heap.size := N3.out.blk.lt
  clear hn3 ho3 hg3 K2 D2 A2 N2 B2
  simp only [List.length_cons, List.length_nil, Nat.zero_add, Nat.reduceAdd, Int.reduceAdd] at N3 O3
  have K3 := Lib.hid (nAt0 w.heap.size g2 c2 5 2 ⟨p2, 1, 3, 4, .slice b2a 1 b2c, 2⟩ [⟨p1, 1, 2, 9, b1, 1⟩] [121] w3 N3.out (by simp) (Rdv.of_owns (enc := u8v) (xs := [121]) O3.out) (by simp))
  unfold AtPost at K3
  simp only at K3
  go_wp2_with fail
  refine K3.out.mono ?_
  rintro e w4 ⟨b4a, b4n, b4c, rfl, hb4⟩
  have A4 := Lib.hid ((Below.refl w4.heap.size w4).alloc (Nat.le_refl _) (.cells #[.int .i64 1, .int .i64 3, .int .i64 4, .slice b4a b4n b4c] 73))
  have hb4' := hb4.trans (A4.out.mono hb4.size)
  have N4 := Lib.hid (N3.out.below hb4')
  have O4 := Lib.hid (ownsRow_below O3.out hb4')
  have B4 := Lib.hid (B3.out.trans (hb4'.mono B3.out.size))
  have X4 := Lib.hid (Blk.new w4 #[.int .i64 1, .int .i64 3, .int .i64 4, .slice b4a b4n b4c] 73)
  have hgb2 : w.heap.size ≤ g2 := (own_cells N3.out.own).1
  clear hb4 hb4' N3 O3 K3 A4
  have K4 := Lib.hid (nNextDue w.heap.size g2 c2 5 2 5 ⟨p2, 1, 3, 4, .slice b2a 1 b2c, 2⟩ ⟨p1, 1, 2, 9, b1, 1⟩ _ N4.out ⟨_, _, _, rfl⟩ (by simp))
  unfold TakePost at K4
  simp only at K4
  go_wp2_with fail
  refine K4.out.mono ?_
  rintro e w5 ⟨rfl, hn5, hg5⟩
  have A5 := Lib.hid ((Below.refl w5.heap.size w5).alloc (Nat.le_refl _) (.cells #[.int .i64 1, .int .i64 3, .int .i64 4, .slice b2a 1 b2c] 73))
  have N5 := Lib.hid (hn5.below A5.out)
  have O5 := Lib.hid (ownsRow_below (ownsRow_chg O4.out hg5 (fun k e => by
    obtain ⟨_, cs, hk⟩ := own_typ O4.out e
    exact N4.out.far hk (by decide) (by decide))) A5.out)
  have X5 := Lib.hid (blkBelow A5.out (hg5.blk X4.out (N4.out.far X4.out (by decide) (by decide))) ((hg5.blk X4.out (N4.out.far X4.out (by decide) (by decide))).lt))
  have B5' := below_ns B4.out (Nat.le_refl _) hgb2 hg5
  have B5 := Lib.hid (B5'.trans (A5.out.mono B5'.size))
  have Y5 := Lib.hid (Blk.new w5 #[.int .i64 1, .int .i64 3, .int .i64 4, .slice b2a 1 b2c] 73)
  clear hn5 hg5 N4 O4 B4 X4 K4 A5 B5'
  have K5 := Lib.hid (nNextLate w.heap.size g2 c2 5 2 5 ⟨p1, 1, 2, 9, b1, 1⟩ _ N5.out (by simp))
  go_wp2_with fail
  refine K5.out.mono ?_
  rintro e w6 ⟨rfl, hb6⟩
  have A6 := Lib.hid ((Below.refl w6.heap.size w6).alloc (Nat.le_refl _) (.cells #[.int .i64 0, .int .i64 0, .int .i64 0, .slice none 0 0] 73))
  have hb6' := hb6.trans (A6.out.mono hb6.size)
  have N6 := Lib.hid (N5.out.below hb6')
  have R6 := (Rdv.of_owns (enc := u8v) (xs := [121]) O5.out).below hb6'
  have X6 := Lib.hid (blkBelow hb6 X5.out X5.out.lt)
  have Y6 := Lib.hid (blkBelow hb6 Y5.out Y5.out.lt)
  have B6 := Lib.hid (B5.out.trans (hb6'.mono B5.out.size))
  have ks := conv_rdv (P := Try.prog) 24 5 Try.underlying24 Try.underlying5 R6 9 Try.underlying9
  have KL := Lib.hid (nLenN _ _ _ _ _ _ N6.out)
  have hst : strOfNums [121] = ⟨#[121]⟩ := rfl
  rw [hst] at ks
  have x_1 : w6.cell? ⟨w4.heap.size, 1, none⟩ = some (.int .i64 3) := X6.out.cell (o := 1) rfl
  have y_3 : w6.cell? ⟨w5.heap.size, 3, none⟩ = some (.slice b2a 1 b2c) := Y6.out.cell (o := 3) rfl
  have xl := X6.out.lt
  have yl := Y6.out.lt
  clear hb6 hb6' N5 O5 X5 Y5 B5 K5 R6 A6
  go_wp2_with fail
  refine KL.out.mono ?_
  rintro e w7 ⟨rfl, rfl⟩
  go_wp2
  go_ret
  exact ⟨rfl, B6.out⟩
end Go.Proofs.Ythbalmoafpggdaa

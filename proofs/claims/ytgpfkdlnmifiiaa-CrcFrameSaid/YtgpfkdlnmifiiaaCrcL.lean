/- The laws of layer 2: their walks. -/
import Derived.Test.YtgpfkdlnmifiiaaChecked
import Derived.WalkKit
import Derived.Outline
import Derived.WalkSpells
import Derived.WalkLawsBesides
import Derived.Deep.QuietTactic
import Derived.Deep.RegionWith
import Derived.Deep.DeepMust
import Derived.BigQuiet
import Derived.Test.YtgpfkdlnmifiiaaMem
import Derived.RegionTactic
import Derived.ChangeAlike
import Derived.StillTailTactics
import Derived.Deep.LoopGhost
import Derived.Test.YtgpfkdlnmifiiaaCrcU
namespace Go.Proofs.Ytgpfkdlnmifiiaa
open Go.RowKit
set_option linter.unusedVariables false
set_option linter.unusedSimpArgs false
def CrcBegun (w : World) (e : Ending) (w' : World) : Prop := e = .returned (.bool true) ∧ Below w.heap.size w w'
theorem rdv_mark (w : World) (l : List Int) (T : TypeId) (fr : Nat × Nat) (hl : l.length ≤ maxLen) : Rdv u8v (w.alloc (.cells (l.map u8v).toArray T fr)) (.slice (some ⟨w.heap.size, 0, none⟩) l.length l.length) l :=
  ⟨_, _, rfl, Nat.le_refl _, hl, .inr ⟨w.heap.size, 0, rfl, fun i hi => by rw [Nat.zero_add, World.cell?_alloc_mark]; simp [List.getElem?_eq_getElem hi]⟩⟩
theorem bgc1 : unfL (frameL [97, 98, 99]) = ([97, 98, 99], 11, 0) := by decide +kernel
theorem bgc2 : flip32 (crcR (flip32 0) [49, 50, 51, 52, 53, 54, 55, 56, 57]) = 3421780262 := by decide +kernel
theorem bgc3 : crcOf [49, 50, 51, 52, 53, 54, 55, 56, 57] = 3421780262 := by decide +kernel
theorem frameL_byt {l : List Int} (h : Byt l) : Byt (frameL l) := ((le4_byt _).append (le4_byt _)).append h
def abc : List Int := [97, 98, 99]
def one9 : List Int := [49, 50, 51, 52, 53, 54, 55, 56, 57]
theorem abc_byt : Byt abc := by intro q hq; simp [abc] at hq; omega
theorem one9_byt : Byt one9 := by intro q hq; simp [one9] at hq; omega
set_option maxHeartbeats 4000000 in
set_option maxRecDepth 100000 in
theorem crcBegun (w : World) : Calls Try.prog 42 #[] w (CrcBegun w) := by
  have kc := fun (w : World) (C : Array Value) (n c : Nat) => Lib.run_convert_bytes_const (P := Try.prog) w 46 5 C n c Try.underlying46 Try.underlying5
  go_enter Try.func42, Try.ntmps42
  go_wp2_with fail
  refine (crcFrameOk _ abc _ (rdv_mark w abc _ _ (by unfold maxLen; simp [abc])) abc_byt (by simp [abc])).mono ?_
  rintro e w1 ⟨f, rfl, ho, hb1⟩
  have b1 : Below w.heap.size w w1 := by (repeat (first | exact Below.refl _ _ | (with_reducible assumption) | apply Below.drew | (refine Below.alloc ?_ (by first | exact Nat.le_refl _ | omega | (simp; done) | (simp; omega)) _) | (refine Below.setCell ?_ (by first | exact Nat.le_refl _ | omega | (simp; done) | (simp; omega)) _) | (refine Below.trans ?_ (Below.mono (by with_reducible assumption) (by first | omega | (simp; done) | (simp; omega))))))
  have hz1 := b1.size
  have hf := Rdv.of_owns ho
  clear ho hb1
  obtain ⟨fa, fn, fc, rfl⟩ := hf.shape
  go_wp2_with fail
  refine (crcUnframe _ _ _ hf (frameL_byt abc_byt)).mono ?_
  rw [show frameL abc = frameL [97, 98, 99] from rfl, bgc1]
  rintro e w2 ⟨b, rfl, hb, hb2⟩
  obtain ⟨ba, bn, bc, rfl⟩ := hb.shape
  have b2 : Below w.heap.size w w2 := b1.trans (hb2.mono hz1)
  have hz2 := b2.size
  clear hb2 hf
  go_wp2_with fail
  refine (crcNew w2).mono ?_
  rintro e w3 ⟨rfl, hs3, hw3⟩
  have c3 : Below w2.heap.size w2 w3 := by rw [hw3]; (repeat (first | exact Below.refl _ _ | (with_reducible assumption) | apply Below.drew | (refine Below.alloc ?_ (by first | exact Nat.le_refl _ | omega | (simp; done) | (simp; omega)) _) | (refine Below.setCell ?_ (by first | exact Nat.le_refl _ | omega | (simp; done) | (simp; omega)) _) | (refine Below.trans ?_ (Below.mono (by with_reducible assumption) (by first | omega | (simp; done) | (simp; omega))))))
  have h23 : w2.heap.size < w3.heap.size := by rw [hw3]; simp
  clear hw3
  go_wp2_with fail
  refine (crcAdd _ 0 _ one9 _ (by omega) (Blk.alloc hs3 _) (rdv_mark w3 one9 _ _ (by unfold maxLen; simp [one9])) one9_byt).mono ?_
  rintro e w4 ⟨rfl, hs4, hg4⟩
  rw [show flip32 (crcR (flip32 0) one9) = 3421780262 from bgc2] at hs4
  have c4 : Below w2.heap.size w2 w4 := Chg.below_trans (c3.alloc (by omega) _) hg4 (by simp; omega) (fun i hi e => by omega)
  have hz4 := c4.size
  have h24 := hs4.lt
  clear hs3 hg4 c3 h23
  go_wp2_with fail
  have hr := RdBs.one (Blk.new (w4.alloc (.cells (one9.map u8v).toArray 5 (9, 10))) #[.slice (some ⟨w4.heap.size, 0, none⟩) 9 9] 46) ((rdv_mark w4 one9 _ _ (by unfold maxLen; simp [one9])).alloc _)
  simp only [World.size_alloc] at hr
  refine (crcOfC _ _ _ hr (AllB.one one9_byt)).mono ?_
  clear hr
  rw [show crcOf [one9].flatten = 3421780262 from bgc3]
  rintro e w5 ⟨rfl, b5⟩
  have c5 : Below w4.heap.size w4 w5 := (((Below.refl _ w4).alloc (Nat.le_refl _) _).alloc (by simp) _).trans (b5.mono (by simp; omega))
  clear b5
  have hs5 : SumAt w5 w2.heap.size 3421780262 := blkBelow c5 hs4 h24
  have hb5 := (hb.below c4).below c5
  have b5 : Below w.heap.size w w5 := b2.trans ((c4.trans (c5.mono hz4)).mono hz2)
  have ks := conv_rdv (P := Try.prog) 46 5 Try.underlying46 Try.underlying5 hb5 9 Try.underlying9
  rw [show strOfNums [97, 98, 99] = ⟨#[97, 98, 99]⟩ from rfl] at ks
  clear hs4 c4 c5 hb hb5
  go_wp2_with fail
  refine (crcValue _ _ _ hs5).mono ?_
  rintro e w6 ⟨rfl, rfl⟩
  go_wp2
  go_ret
  exact ⟨rfl, b5⟩
end Go.Proofs.Ytgpfkdlnmifiiaa

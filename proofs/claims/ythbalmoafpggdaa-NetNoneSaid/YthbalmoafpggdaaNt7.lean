/- A net: At, Take, Next. -/
import Derived.Test.YthbalmoafpggdaaChecked
import Derived.WalkKit
import Derived.Outline
import Derived.WalkSpells
import Derived.WalkLawsBesides
import Derived.Deep.QuietTactic
import Derived.Deep.RegionWith
import Derived.Deep.DeepMust
import Derived.BigQuiet
import Derived.Test.YthbalmoafpggdaaMem
import Derived.RegionTactic
import Derived.ChangeAlike
import Derived.StillTailTactics
import Derived.BigRegion
import Derived.Deep.LoopGhost
import Derived.Deep.RegionHeld
import Derived.Deep.RegionHeld3
import Derived.Deep.RegionLaw
import Derived.Deep.AppendLies
import Derived.Deep.DeepCutAuto
import Derived.Deep.CutBlock
import Derived.IntWalk
import Derived.LaidEqlPtr
import Derived.Test.YthbalmoafpggdaaNt6
namespace Go.Proofs.Ythbalmoafpggdaa
open Go.RowKit
set_option linter.unusedVariables false
set_option linter.unusedSimpArgs false
theorem chg4 (w : World) (R : Nat) (c0 c1 c2 c3 : Value) : Chg (· = R) w ((((w.setCell ⟨R, 0, none⟩ c0).setCell ⟨R, 1, none⟩ c1).setCell ⟨R, 2, none⟩ c2).setCell ⟨R, 3, none⟩ c3) :=
  have h : ∀ o, (⟨R, o, none⟩ : Addr).block < w.heap.size → (· = R) R := fun _ _ => rfl
  Chg.set (S := (· = R)) (Chg.set (S := (· = R)) (Chg.set (S := (· = R)) (Chg.set (S := (· = R)) (Chg.refl _ _) (h 0) c0) (h 1) c1) (h 2) c2) (h 3) c3
def ZWPost (w : World) (e : Ending) (w' : World) : Prop := e = .returned (.tuple #[.agg #[.int .i64 0, .int .i64 0, .int .i64 0, .slice none 0 0], .bool false]) ∧ Below w.heap.size w w'
set_option maxRecDepth 100000 in
theorem nAtNil (w : World) : Calls Try.prog 37 #[.pointer none, .int .i64 0] w (ZWPost w) := by
  have A0 := Lib.hid ((Below.refl w.heap.size w).alloc (Nat.le_refl _) (.cells #[.int .i64 0, .int .i64 0, .int .i64 0, .slice none 0 0] 73))
  have X0 := Lib.hid (Blk.new w #[.int .i64 0, .int .i64 0, .int .i64 0, .slice none 0 0] 73)
  go_enter Try.func37, Try.ntmps37
  go_wp2_with fail
  refine (nFindNil _).mono ?_
  rintro e w1 ⟨rfl, rfl⟩
  go_wp2
  exact bodyPost_ret (v := .tuple #[.agg #[.int .i64 0, .int .i64 0, .int .i64 0, .slice none 0 0], .bool false]) (by simp [results, Try.results37, go_sem, *] <;> rfl) rfl ⟨rfl, by first | exact A0.out | (refine Chg.below_trans A0.out (chg4 _ w.heap.size _ _ _ _) A0.out.size (fun i hi e => by omega))⟩
set_option maxRecDepth 100000 in
theorem nTakeNil (w : World) : Calls Try.prog 38 #[.pointer none, .int .i64 0] w (ZWPost w) := by
  have A0 := Lib.hid ((Below.refl w.heap.size w).alloc (Nat.le_refl _) (.cells #[.int .i64 0, .int .i64 0, .int .i64 0, .slice none 0 0] 73))
  have X0 := Lib.hid (Blk.new w #[.int .i64 0, .int .i64 0, .int .i64 0, .slice none 0 0] 73)
  go_enter Try.func38, Try.ntmps38
  go_wp2_with fail
  refine (nFindNil _).mono ?_
  rintro e w1 ⟨rfl, rfl⟩
  go_wp2
  exact bodyPost_ret (v := .tuple #[.agg #[.int .i64 0, .int .i64 0, .int .i64 0, .slice none 0 0], .bool false]) (by simp [results, Try.results38, go_sem, *] <;> rfl) rfl ⟨rfl, by first | exact A0.out | (refine Chg.below_trans A0.out (chg4 _ w.heap.size _ _ _ _) A0.out.size (fun i hi e => by omega))⟩
set_option maxRecDepth 100000 in
theorem nNextNil (n : Int) (w : World) : Calls Try.prog 39 #[.pointer none, .int .i64 n] w (ZWPost w) := by
  have A0 := Lib.hid ((Below.refl w.heap.size w).alloc (Nat.le_refl _) (.cells #[.int .i64 0, .int .i64 0, .int .i64 0, .slice none 0 0] 73))
  go_enter Try.func39, Try.ntmps39
  go_wp2_with fail
  refine (nLenNil _).mono ?_
  rintro e w1 ⟨rfl, rfl⟩
  go_wp2
  exact bodyPost_ret (v := .tuple #[.agg #[.int .i64 0, .int .i64 0, .int .i64 0, .slice none 0 0], .bool false]) (by simp [results, Try.results39, go_sem, *] <;> rfl) rfl ⟨rfl, by first | exact A0.out | (refine Chg.below_trans A0.out (chg4 _ w.heap.size _ _ _ _) A0.out.size (fun i hi e => by omega))⟩
def AtPost (x : Wy) (w : World) (e : Ending) (w' : World) : Prop := ∃ ba bn bc, e = .returned (.tuple #[.agg #[.int .i64 x.src, .int .i64 x.dst, .int .i64 x.due, .slice ba bn bc], .bool true]) ∧ Below w.heap.size w w'
set_option maxHeartbeats 2000000 in
set_option maxRecDepth 100000 in
theorem nAt0 (nb g c : Nat) (room came : Int) (x : Wy) (xs : List Wy) (l : List Int) (w : World) (h : NetG w nb room came (.slice (some ⟨g, 0, none⟩) (xs.length + 1) c) (x :: xs)) (hl : xs.length ≤ 100) (hb : Rdv u8v w x.bv l) (hbl : l.length ≤ 10000000) :
    Calls Try.prog 37 #[.pointer (some ⟨nb, 0, none⟩), .int .i64 0] w (AtPost x w) := by
  have A0 := Lib.hid ((Below.refl w.heap.size w).alloc (Nat.le_refl _) (.cells #[.int .i64 0, .int .i64 0, .int .i64 0, .slice none 0 0] 73))
  have X0 := Lib.hid (Blk.new w #[.int .i64 0, .int .i64 0, .int .i64 0, .slice none 0 0] 73)
  have KF := Lib.hid (nFind0 nb g c room came x xs _ (h.below A0.out) hl)
  have HX := Lib.hid (h.way x List.mem_cons_self)
  have HB := Lib.hid hb
  obtain ⟨xa, xn, xc, hxb⟩ := hb.shape
  clear h hb
  go_enter Try.func37, Try.ntmps37
  go_wp2_with fail
  refine KF.out.mono ?_
  rintro e w1 ⟨rfl, hb1⟩
  have B1 := Lib.hid (A0.out.trans (hb1.mono A0.out.size))
  have X1 := Lib.hid (blkBelow hb1 X0.out X0.out.lt)
  have Y1 := Lib.hid (blkBelow B1.out HX.out HX.out.lt)
  have R1 := HB.out.below B1.out
  rw [hxb] at R1
  have R1 := Lib.hid R1
  have y_0 : w1.cell? ⟨x.p, 0, none⟩ = some (.int .i64 x.src) := Y1.out.cell (o := 0) rfl
  have y_1 : w1.cell? ⟨x.p, 1, none⟩ = some (.int .i64 x.dst) := Y1.out.cell (o := 1) rfl
  have y_2 : w1.cell? ⟨x.p, 2, none⟩ = some (.int .i64 x.due) := Y1.out.cell (o := 2) rfl
  have y_3 : w1.cell? ⟨x.p, 3, none⟩ = some (.slice xa xn xc) := by rw [← hxb]; exact Y1.out.cell (o := 3) rfl
  have hwp : wyP x = .pointer (some ⟨x.p, 0, none⟩) := rfl
  rw [hwp]
  clear hb1 KF HX HB hxb
  go_wp2_with fail
  refine (nCopied x.src x.dst x.due _ l w1 R1.out hbl).mono ?_
  rintro e w2 ⟨b, rfl, ho, hb2⟩
  obtain ⟨ba, bc, rfl, _, _, _⟩ := own_shape ho
  have X2 := Lib.hid (blkBelow hb2 X1.out X1.out.lt)
  have B2 := Lib.hid (B1.out.trans (hb2.mono B1.out.size))
  clear ho hb2 y_0 y_1 y_2 y_3
  have z_0 : w2.cell? ⟨w.heap.size, 0, none⟩ = some (.int .i64 0) := (X2.out).cell (o := 0) rfl
  have z_1 : w2.cell? ⟨w.heap.size, 1, none⟩ = some (.int .i64 0) := (X2.out).cell (o := 1) rfl
  have z_2 : w2.cell? ⟨w.heap.size, 2, none⟩ = some (.int .i64 0) := (X2.out).cell (o := 2) rfl
  have z_3 : w2.cell? ⟨w.heap.size, 3, none⟩ = some (.slice none 0 0) := (X2.out).cell (o := 3) rfl
  have yz_0 := (X2.out).free 0
  have yz_1 := (X2.out).free 1
  have yz_2 := (X2.out).free 2
  have yz_3 := (X2.out).free 3
  go_wp2
  exact bodyPost_ret (v := .tuple #[.agg #[.int .i64 x.src, .int .i64 x.dst, .int .i64 x.due, .slice ba l.length bc], .bool true]) (by simp [results, Try.results37, go_sem, *] <;> rfl) rfl ⟨_, _, _, rfl, Chg.below_trans B2.out (chg4 _ w.heap.size _ _ _ _) B2.out.size (fun i hi e => by omega)⟩
theorem Wyt.info : (Try.prog.info? 124).map (fun i => i.size) = some 5 := by kernel_rfl
set_option maxRecDepth 100000 in
theorem ptr_same (p : Nat) (w : World) : (binOp .eql 120 (.pointer (some ⟨p, 0, none⟩)) (.pointer (some ⟨p, 0, none⟩))).run Try.prog w = .ok (.bool true) w := by
  obtain ⟨j, hj, _⟩ := Option.map_eq_some_iff.1 Wyt.info
  exact run_eql_ptr_same w (te := 124) (j := j) ⟨p, 0, none⟩ Try.underlying120 hj
set_option maxRecDepth 100000 in
theorem nIndex0 (g n c p : Nat) (w : World) (hn : 0 < n) (hc : w.cell? ⟨g, 0, none⟩ = some (.pointer (some ⟨p, 0, none⟩))) (hnc : n ≤ c) (hcc : c ≤ 9223372036854775807) :
    Calls Try.prog 86 #[.slice (some ⟨g, 0, none⟩) n c, .pointer (some ⟨p, 0, none⟩)] w fun e w' => e = .returned (.int .i64 0) ∧ w = w' := by
  have hn1 : (0 : Int) < n := by omega
  have hps := ptr_same p
  go_enter Try.func86, Try.ntmps86
  go_wp2
  go_loopw [8] (fun kv wr => kv = .int .i64 0 ∧ wr = w) (fun _ _ => 0)
  case atStart => exact ⟨rfl, rfl⟩
  case round =>
    obtain ⟨rfl, rfl⟩ := hrel
    go_wp2
    go_ret
    exact ⟨rfl, rfl⟩
def RemPost (nb g c : Nat) (room came : Int) (x a : Wy) (w : World) (e : Ending) (w' : World) : Prop := e = .returned (.iface 120 (wyP x)) ∧ NetG w' nb room came (.slice (some ⟨g, 0, none⟩) 1 c) [a] ∧ Chg (NS nb (.slice (some ⟨g, 0, none⟩) 2 c)) w w'
set_option maxHeartbeats 2000000 in
set_option maxRecDepth 100000 in
theorem nRemove (nb g c : Nat) (room came : Int) (x a : Wy) (w : World) (h : NetG w nb room came (.slice (some ⟨g, 0, none⟩) 2 c) [x, a]) :
    Calls Try.prog 85 #[.iface 126 (.pointer (some ⟨nb, 1, none⟩)), .int .i64 0] w (RemPost nb g c room came x a w) := by
  obtain ⟨h1, h2, h3, h4, cur, h5, h6, h7⟩ := own_cells h.own
  have c0 : cur[0]? = some (wyP x) := cur_at h7 rfl
  have c1 : cur[1]? = some (wyP a) := cur_at h7 rfl
  have hc : w.cell? ⟨nb, 1, none⟩ = some (.slice (some ⟨g, 0, none⟩) 2 c) := h.blk.cell (o := 1) rfl
  have hm1 := mth_len _ _ _ hc
  have KL := Lib.hid (fLen (some ⟨g, 0, none⟩) 2 c w (by omega))
  have HN := Lib.hid h
  have H5 := Lib.hid h5
  have C0 := Lib.hid c0
  have C1 := Lib.hid c1
  clear h h5 h7 c0 c1
  go_enter Try.func85, Try.ntmps85
  go_wp2_with fail
  refine KL.out.mono ?_
  rintro e w1 ⟨rfl, nd, rfl⟩
  have hc2 : (w.drewN nd).cell? ⟨nb, 1, none⟩ = some (.slice (some ⟨g, 0, none⟩) 2 c) := hc
  have hm2 := mth_swap _ _ _ hc2
  have KS := Lib.hid (nSwap g 2 c 0 1 cur (wyP x) (wyP a) (w.drewN nd) (by omega) (by omega) h3 h4 H5.out C0.out C1.out ⟨_, rfl⟩ ⟨_, rfl⟩)
  clear hm1 KL
  go_wp2_with fail
  refine KS.out.mono ?_
  rintro e w2 ⟨rfl, hb2, hg2⟩
  have N2 := Lib.hid ((HN.out.drewN nd).swap2 H5.out hb2 hg2)
  have G2 : Hid (Chg (NS nb (.slice (some ⟨g, 0, none⟩) 2 c)) w w2) := Lib.hid (Chg.trans' (Chg.drewN (Chg.refl _ _) nd) hg2 (fun i hi e => by
    have e : i = g := e
    subst e
    exact .inr rfl))
  clear hb2 hg2 KS hm2
  go_wp2_with fail
  refine (nDown1 _ _).mono ?_
  rintro e w3 ⟨rfl, rfl⟩
  go_wp2_with fail
  refine (nUp0 _ _).mono ?_
  rintro e w3 ⟨rfl, rfl⟩
  have hm3 := mth_pop ⟨nb, 1, none⟩ w2
  have KP := Lib.hid (nPop nb g c room came [a] x w2 N2.out)
  go_wp2_with fail
  refine KP.out.mono ?_
  rintro e w4 ⟨rfl, hn4, hg4⟩
  have N4 := Lib.hid hn4
  have G4 := Lib.hid (Chg.trans' G2.out hg4 (fun i hi e => .inl e))
  clear hn4 hg4 KP hm3
  go_wp2
  go_ret
  exact ⟨rfl, N4.out, G4.out⟩
end Go.Proofs.Ythbalmoafpggdaa

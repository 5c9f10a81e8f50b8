/- The table of descriptors in general: Get, Seek, Close, Clear. -/
import Derived.Test.YtfcddpbpfckjfaaChecked
import Derived.WalkKit
import Derived.Outline
import Derived.WalkSpells
import Derived.WalkLawsBesides
import Derived.Deep.QuietTactic
import Derived.Deep.RegionWith
import Derived.Deep.DeepMust
import Derived.BigQuiet
import Derived.Test.YtfcddpbpfckjfaaMem
import Derived.RegionTactic
import Derived.ChangeAlike
import Derived.StillTailTactics
import Derived.BigRegion
import Derived.BigGuardPart
import Derived.Deep.RegionHeld3
import Derived.Deep.RegionLaw
import Derived.Test.YtfcddpbpfckjfaaFg3
namespace Go.Proofs.Ytfcddpbpfckjfaa
open Go.RowKit
set_option linter.unusedVariables false
set_option linter.unusedSimpArgs false
theorem gGetYes (b : Nat) (v cv : Value) (fs : List Fil) (xs : Array Int) (w : World) (h : FdG w b v cv fs xs) (k : Nat) (hk : k < fs.length) (hz : fs.length ≤ 1000) (ho : fs[k].op = true) : Calls Try.prog 12 #[.pointer (some ⟨b, 0, none⟩), .int .i64 k] w fun e w' => e = .returned (.tuple #[.agg #[.int .i64 fs[k].time, .int .i64 fs[k].node], .int .i64 fs[k].flags, .int .i64 fs[k].at_, .int .i64 0]) ∧ Below w.heap.size w w' := by
  have K := fun w' (hw : Below w.heap.size w w') => Lib.hid (gFindYes b v cv fs xs w' (h.below hw) k hk hz ho)
  obtain ⟨g, c, rfl, hbg, hgl, h1, h2, cur, hbk, _, ht⟩ := h.vshape (by omega)
  obtain ⟨k0, k1, k2, k3, k4⟩ := fd_cellsG (n := 0) hbk ht k hk
  generalize hf : fs[k] = f at *
  have HF := Lib.hid hf
  clear h hbk ht hf
  go_enter Try.func12, Try.ntmps12
  go_wp2_with fail
  obtain ⟨g2, hg2, K2⟩ := (K _ ((Below.refl _ _).alloc (Nat.le_refl _) _)).out
  have hg2 : g = g2 := by injection hg2
  subst hg2
  refine K2.mono ?_
  rintro e w1 ⟨rfl, m, rfl⟩
  clear K2
  go_wp2_with fail
  go_region
  all_goals go_wp2
  all_goals exact bodyPost_ret (v := .tuple #[.agg #[.int .i64 f.time, .int .i64 f.node], .int .i64 f.flags, .int .i64 f.at_, .int .i64 0]) (by simp [results, Try.results12, go_sem]) rfl ⟨rfl, by (repeat first | exact Below.refl _ _ | refine Below.drew ?_ | refine below_drewN ?_ _ | refine Below.alloc ?_ (by simp <;> omega) _ | refine Below.setCell ?_ (by simp) _)⟩
theorem gGetNo (b : Nat) (v cv : Value) (fs : List Fil) (xs : Array Int) (w : World) (h : FdG w b v cv fs xs) (fd : Int) (hz : fs.length ≤ 1000) (hb : -9223372036854775808 ≤ fd ∧ fd ≤ 9223372036854775807) (ho : FdNo fs fd) : Calls Try.prog 12 #[.pointer (some ⟨b, 0, none⟩), .int .i64 fd] w fun e w' => e = .returned (.tuple #[.agg #[.int .i64 0, .int .i64 0], .int .i64 0, .int .i64 0, .int .i64 9]) ∧ Below w.heap.size w w' := by
  have K := fun w' (hw : Below w.heap.size w w') => Lib.hid (gFindNo b v cv fs xs w' (h.below hw) fd hz hb ho)
  clear h ho
  go_enter Try.func12, Try.ntmps12
  go_wp2_with fail
  refine (K _ ?hB).out.mono ?_
  case hB => exact (Below.refl _ _).alloc (Nat.le_refl _) _
  rintro e w1 ⟨rfl, m, rfl⟩
  go_wp2
  exact bodyPost_ret (v := .tuple #[.agg #[.int .i64 0, .int .i64 0], .int .i64 0, .int .i64 0, .int .i64 9]) (by simp [results, Try.results12, go_sem]) rfl ⟨rfl, by (repeat first | exact Below.refl _ _ | refine Below.drew ?_ | refine below_drewN ?_ _ | refine Below.alloc ?_ (by simp <;> omega) _ | refine Below.setCell ?_ (by simp) _)⟩
theorem gSeekNo (b : Nat) (v cv : Value) (fs : List Fil) (xs : Array Int) (w : World) (h : FdG w b v cv fs xs) (fd at_ : Int) (hz : fs.length ≤ 1000) (hb : -9223372036854775808 ≤ fd ∧ fd ≤ 9223372036854775807) (ho : FdNo fs fd) : Calls Try.prog 16 #[.pointer (some ⟨b, 0, none⟩), .int .i64 fd, .int .i64 at_] w fun e w' => e = .returned (.int .i64 9) ∧ Drw w w' := by
  have K := Lib.hid (gFindNo b v cv fs xs w h fd hz hb ho)
  clear h ho
  go_enter Try.func16, Try.ntmps16
  go_wp2_with fail
  refine K.out.mono ?_
  rintro e w1 ⟨rfl, m, rfl⟩
  go_wp2
  go_ret
  exact ⟨rfl, _, rfl⟩
theorem gSeekBad (b : Nat) (v cv : Value) (fs : List Fil) (xs : Array Int) (w : World) (h : FdG w b v cv fs xs) (k : Nat) (hk : k < fs.length) (hz : fs.length ≤ 1000) (ho : fs[k].op = true) (at_ r : Int) (ha : (at_ < 0 ∧ r = 22) ∨ (1073741824 < at_ ∧ r = 75)) : Calls Try.prog 16 #[.pointer (some ⟨b, 0, none⟩), .int .i64 k, .int .i64 at_] w fun e w' => e = .returned (.int .i64 r) ∧ Drw w w' := by
  obtain ⟨g, hg, K⟩ := gFindYes b v cv fs xs w h k hk hz ho
  have K := Lib.hid K
  clear h ho hg
  rcases ha with ⟨ha, rfl⟩ | ⟨ha, rfl⟩
  · go_enter Try.func16, Try.ntmps16
    go_wp2_with fail
    refine K.out.mono ?_
    rintro e w1 ⟨rfl, m, rfl⟩
    go_wp2
    go_ret
    exact ⟨rfl, _, rfl⟩
  · have ha2 : ¬ at_ < 0 := by omega
    go_enter Try.func16, Try.ntmps16
    go_wp2_with fail
    refine K.out.mono ?_
    rintro e w1 ⟨rfl, m, rfl⟩
    go_wp2
    go_ret
    exact ⟨rfl, _, rfl⟩
def GPost (r : Value) (b : Nat) (v cv : Value) (fs' : List Fil) (xs' : Array Int) (w : World) (e : Ending) (w' : World) : Prop := e = .returned r ∧ FdG w' b v cv fs' xs' ∧ Chg (FdS b v cv) w w'
theorem gSeek (b : Nat) (v cv : Value) (fs : List Fil) (xs : Array Int) (w : World) (h : FdG w b v cv fs xs) (k : Nat) (hk : k < fs.length) (hz : fs.length ≤ 1000) (ho : fs[k].op = true) (at_ : Int) (h0 : 0 ≤ at_) (h1 : at_ ≤ 1073741824) : Calls Try.prog 16 #[.pointer (some ⟨b, 0, none⟩), .int .i64 k, .int .i64 at_] w (GPost (.int .i64 0) b v cv (fs.set k {fs[k] with at_ := at_}) xs w) := by
  obtain ⟨g, hg, K⟩ := gFindYes b v cv fs xs w h k hk hz ho
  obtain ⟨g', c, rfl, hbg, hgl, h2, h3, cur, hbk, _, ht⟩ := h.vshape (by omega)
  have hg : g' = g := by injection hg
  subst hg
  obtain ⟨k0, k1, k2, k3, k4⟩ := fd_cellsG (n := 0) hbk ht k hk
  have kf := hbk.free (k * 5 + 3)
  have K := Lib.hid K
  have HF := Lib.hid (h.seek k hk at_)
  clear h hbk ht ho
  go_enter Try.func16, Try.ntmps16
  go_wp2_with fail
  refine K.out.mono ?_
  rintro e w1 ⟨rfl, m, rfl⟩
  go_wp2
  go_ret
  exact ⟨rfl, HF.out.below (Drw.below ⟨m, rfl⟩), Chg.set (S := FdS b (.slice (some ⟨g', 0, none⟩) fs.length c) cv) (Chg.drewN (Chg.refl _ _) _) (p := ⟨g', k * 5 + 3, none⟩) (fun _ => .inr (.inl rfl)) _⟩
theorem gClear (b : Nat) (v cv : Value) (fs : List Fil) (xs : Array Int) (w : World) (h : FdG w b v cv fs xs) : Calls Try.prog 21 #[.pointer (some ⟨b, 0, none⟩)] w fun e w' => e = .returned (.tuple #[]) ∧ FdG w' b (.slice none 0 0) (.slice none 0 0) [] #[] ∧ Chg (FdS b v cv) w w' := by
  have f0 := h.blk.free 0
  have f1 := h.blk.free 1
  have c0 : w.cell? ⟨b, 0, none⟩ = some v := h.blk.cell (o := 0) rfl
  have c1 : w.cell? ⟨b, 1, none⟩ = some cv := h.blk.cell (o := 1) rfl
  have hz := h.blk.lt
  have B := Lib.hid ((h.blk.set 0 (.slice none 0 0)).set 1 (.slice none 0 0))
  clear h
  go_enter Try.func21, Try.ntmps21
  go_wp2
  go_end0
  exact ⟨rfl, ⟨by simpa using B.out, World.ownsRow_nil _ _ _ _, World.ownsRow_nil _ _ _ _⟩, Chg.set (S := FdS b v cv) (Chg.set (S := FdS b v cv) (Chg.refl _ _) (p := ⟨b, 0, none⟩) (fun _ => .inl rfl) _) (p := ⟨b, 1, none⟩) (fun _ => .inl rfl) _⟩
theorem gCloseNo (b : Nat) (v cv : Value) (fs : List Fil) (xs : Array Int) (w : World) (h : FdG w b v cv fs xs) (fd : Int) (hz : fs.length ≤ 1000) (hb : -9223372036854775808 ≤ fd ∧ fd ≤ 9223372036854775807) (ho : FdNo fs fd) : Calls Try.prog 15 #[.pointer (some ⟨b, 0, none⟩), .int .i64 fd] w fun e w' => e = .returned (.int .i64 9) ∧ Drw w w' := by
  have K := Lib.hid (gFindNo b v cv fs xs w h fd hz hb ho)
  clear h ho
  go_enter Try.func15, Try.ntmps15
  go_wp2_with fail
  refine K.out.mono ?_
  rintro e w1 ⟨rfl, m, rfl⟩
  go_wp2
  go_ret
  exact ⟨rfl, _, rfl⟩
theorem chg_put5 {S : Nat → Prop} {g : Nat} (hg : S g) {w : World} {a0 a1 a2 a3 a4 : Nat} {u0 u1 u2 u3 u4 : Value} (m : Nat) : Chg S w ((((((w.drewN m).setCell ⟨g, a0, none⟩ u0).setCell ⟨g, a1, none⟩ u1).setCell ⟨g, a2, none⟩ u2).setCell ⟨g, a3, none⟩ u3).setCell ⟨g, a4, none⟩ u4) :=
  Chg.set (Chg.set (Chg.set (Chg.set (Chg.set ((Chg.refl S w).drewN m) (p := ⟨g, a0, none⟩) (fun _ => hg) u0) (p := ⟨g, a1, none⟩) (fun _ => hg) u1) (p := ⟨g, a2, none⟩) (fun _ => hg) u2) (p := ⟨g, a3, none⟩) (fun _ => hg) u3) (p := ⟨g, a4, none⟩) (fun _ => hg) u4
def zFil : Fil := ⟨0, 0, 0, 0, false⟩
def CPost (b : Nat) (v cv : Value) (fs' : List Fil) (xs : Array Int) (k : Int) (w : World) (e : Ending) (w' : World) : Prop := e = .returned (.int .i64 0) ∧ ∃ cv' ys, FdG w' b v cv' fs' ys ∧ ys.size = xs.size + 1 ∧ ys.toList.Perm (xs.push k).toList ∧ Hq.IsHeap ilt ys ys.size ∧ Chg (FdS b v cv) w w'
set_option maxRecDepth 100000 in
theorem gClose (b : Nat) (v cv : Value) (fs : List Fil) (xs : Array Int) (w : World) (h : FdG w b v cv fs xs) (k : Nat) (hk : k < fs.length) (hz : fs.length ≤ 1000) (ho : fs[k].op = true) (hh : Hq.IsHeap ilt xs xs.size) (hx : xs.size ≤ 1000) : Calls Try.prog 15 #[.pointer (some ⟨b, 0, none⟩), .int .i64 k] w (CPost b v cv (fs.set k zFil) xs k w) := by
  obtain ⟨g, hg, K⟩ := gFindYes b v cv fs xs w h k hk hz ho
  obtain ⟨g', c, rfl, hbg, hgl, h2, h3, cur, hbk, _, ht⟩ := h.vshape (by omega)
  have hg : g' = g := by injection hg
  subst hg
  obtain ⟨k0, k1, k2, k3, k4⟩ := fd_cellsG (n := 0) hbk ht k hk
  have kf0 := hbk.free (k * 5)
  have kf1 := hbk.free (k * 5 + 1)
  have kf2 := hbk.free (k * 5 + 2)
  have kf3 := hbk.free (k * 5 + 3)
  have kf4 := hbk.free (k * 5 + 4)
  have hzb := h.blk.lt
  have K := Lib.hid K
  have HF := Lib.hid h
  have HH := Lib.hid hh
  clear h hbk ht ho hh
  go_enter Try.func15, Try.ntmps15
  go_wp2_with fail
  refine K.out.mono ?_
  rintro e w1 ⟨rfl, m, rfl⟩
  clear K
  go_wp2_with fail
  have hp : FdG ((((((w.drewN m).setCell ⟨g', k * 5, none⟩ (.int .i64 0)).setCell ⟨g', k * 5 + 1, none⟩ (.int .i64 0)).setCell ⟨g', k * 5 + 2, none⟩ (.int .i64 0)).setCell ⟨g', k * 5 + 3, none⟩ (.int .i64 0)).setCell ⟨g', k * 5 + 4, none⟩ (.bool false)) b (.slice (some ⟨g', 0, none⟩) fs.length c) cv (fs.set k zFil) xs := (HF.out.below (Drw.below ⟨m, rfl⟩)).put k hk zFil
  refine (fgPush b (.slice (some ⟨g', 0, none⟩) fs.length c) cv (fs.set k zFil) xs k _ hp HH.out hx).mono ?_
  clear hp
  rintro e w2 ⟨rfl, ys, ⟨cv', h1⟩, h2, h3, h4, h5⟩
  have H1 := Lib.hid (⟨cv', ys, h1, by rw [h2]; simp, h3, h4, h5⟩ : ∃ cv' ys, FdG w2 b (.slice (some ⟨g', 0, none⟩) fs.length c) cv' (fs.set k zFil) ys ∧ ys.size = xs.size + 1 ∧ ys.toList.Perm (xs.push (k : Int)).toList ∧ Hq.IsHeap ilt ys ys.size ∧ Chg (FdS b (.slice (some ⟨g', 0, none⟩) fs.length c) cv) _ w2)
  clear h1 h2 h3 h4 h5
  go_wp2
  go_ret
  obtain ⟨cv', ys, h1, h2, h3, h4, h5⟩ := H1.out
  refine ⟨rfl, cv', ys, h1, h2, h3, h4, Chg.trans ?_ h5⟩
  exact chg_put5 (.inr (.inl rfl)) m
end Go.Proofs.Ytfcddpbpfckjfaa

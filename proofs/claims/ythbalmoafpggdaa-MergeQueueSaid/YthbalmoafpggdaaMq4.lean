/- merge's queue: New, Push, Pop, Peek, Len. -/
import Derived.Test.YthbalmoafpggdaaChecked
import Derived.WalkKit
import Derived.Outline
import Derived.WalkSpells
import Derived.WalkLawsBesides
import Derived.Deep.QuietTactic
import Derived.Deep.RegionWith
import Derived.Deep.DeepMust
import Derived.BigQuiet
import Derived.Test.YthbalmoafpggdaaMem
import Derived.RegionTactic
import Derived.ChangeAlike
import Derived.StillTailTactics
import Derived.BigRegion
import Derived.Deep.RegionHeld3
import Derived.Deep.RegionLaw
import Derived.Deep.AppendLies
import Derived.Deep.DeepCutAuto
import Derived.Deep.CutBlock
import Derived.Test.YthbalmoafpggdaaMq3
namespace Go.Proofs.Ythbalmoafpggdaa
open Go.RowKit
set_option linter.unusedVariables false
set_option linter.unusedSimpArgs false
theorem wf_app : ∀ w, (Builtin.append_ #[47, 47] 47 #[.slice none 0 0, .slice none 0 0]).run Try.prog w = .ok (.slice none 0 0) w := fun _ => by kernel_rfl
theorem cloneNil (w : World) : Calls Try.prog 57 #[.slice none 0 0] w fun e w' => e = .returned (.slice none 0 0) ∧ w = w' := by
  have hq := fun w' => Lib.run_eql_slice_nil (P := Try.prog) w' 24 5 none 0 0 0 0 Try.underlying24
  go_enter Try.func57, Try.ntmps57
  go_wp2
  go_ret
  exact ⟨rfl, rfl⟩
set_option maxRecDepth 100000 in
set_option maxHeartbeats 2000000 in
theorem copyC (t n m : Int) (w : World) : Calls Try.prog 81 #[.agg #[.int .i64 t, .int .i64 n, .int .i64 0, .int .i64 m, .int .i64 0, .int .i64 0, .int .i64 0, .int .i64 0, .string ByteArray.empty, .slice none 0 0, .slice none 0 0]] w fun e w' => e = .returned (.agg #[.int .i64 t, .int .i64 n, .int .i64 0, .int .i64 m, .int .i64 0, .int .i64 0, .int .i64 0, .int .i64 0, .string ByteArray.empty, .slice none 0 0, .slice none 0 0]) ∧ Below w.heap.size w w' := by
  go_enter Try.func81, Try.ntmps81
  go_wp2
  go_region_with (go_at_call 57; refine (cloneNil _).mono ?_; rintro e w9 ⟨rfl, rfl⟩)
  all_goals go_wp2
  all_goals exact bodyPost_ret (v := .agg #[.int .i64 t, .int .i64 n, .int .i64 0, .int .i64 m, .int .i64 0, .int .i64 0, .int .i64 0, .int .i64 0, .string ByteArray.empty, .slice none 0 0, .slice none 0 0]) (by simp [results, Try.results81, go_sem] <;> rfl) rfl ⟨rfl, by (repeat first | exact Below.refl _ _ | refine Below.drew ?_ | refine Below.alloc ?_ (by simp <;> omega) _ | refine Below.setCell ?_ (by simp) _)⟩
theorem qLen (b : Nat) (F : Value) (came : Int) (v : Value) (xs : Array Mit) (w : World) (h : QAt w b F came v xs) : Calls Try.prog 36 #[.pointer (some ⟨b, 0, none⟩)] w fun e w' => e = .returned (.int .i64 xs.size) ∧ w = w' := by
  have c0 : w.cell? ⟨b, 0, none⟩ = some v := h.blk.cell (o := 0) rfl
  have hz := h.blk.lt
  obtain ⟨va, vc, rfl, hv1, hv2, _⟩ := own_shp h.own
  clear h
  go_enter Try.func36, Try.ntmps36
  go_wp2
  go_ret
  exact ⟨rfl, rfl⟩
def QNew (F : Value) (w : World) (e : Ending) (w' : World) : Prop := ∃ b, e = .returned (.pointer (some ⟨b, 0, none⟩)) ∧ b = w.heap.size ∧ QAt w' b F 0 (.slice none 0 0) #[] ∧ Below w.heap.size w w'
set_option maxRecDepth 100000 in
theorem qNewNil (w : World) : Calls Try.prog 32 #[.nilFunc] w (QNew (Fun 79) w) := by
  have hq : ∀ w, (binOp .eql 62 (.nilFunc) .nilFunc).run Try.prog w = .ok (.bool true) w := fun _ => by kernel_rfl
  go_enter Try.func32, Try.ntmps32
  go_wp2
  go_ret
  exact ⟨w.heap.size, rfl, rfl, ⟨Blk.new _ _ _, World.ownsRow_nil _ _ _ _⟩, (Below.refl _ _).alloc (Nat.le_refl _) _⟩
set_option maxRecDepth 100000 in
theorem qNewR (w : World) : Calls Try.prog 32 #[.func (.func 30) #[] #[]] w (QNew (Fun 30) w) := by
  have hq : ∀ w, (binOp .eql 62 (.func (.func 30) #[] #[]) .nilFunc).run Try.prog w = .ok (.bool false) w := fun _ => by kernel_rfl
  go_enter Try.func32, Try.ntmps32
  go_wp2
  go_ret
  exact ⟨w.heap.size, rfl, rfl, ⟨Blk.new _ _ _, World.ownsRow_nil _ _ _ _⟩, (Below.refl _ _).alloc (Nat.le_refl _) _⟩
set_option maxRecDepth 100000 in
theorem qNewB (w : World) : Calls Try.prog 32 #[.func (.func 31) #[] #[]] w (QNew (Fun 31) w) := by
  have hq : ∀ w, (binOp .eql 62 (.func (.func 31) #[] #[]) .nilFunc).run Try.prog w = .ok (.bool false) w := fun _ => by kernel_rfl
  go_enter Try.func32, Try.ntmps32
  go_wp2
  go_ret
  exact ⟨w.heap.size, rfl, rfl, ⟨Blk.new _ _ _, World.ownsRow_nil _ _ _ _⟩, (Below.refl _ _).alloc (Nat.le_refl _) _⟩
theorem qLenNil (w : World) : Calls Try.prog 36 #[.pointer none] w fun e w' => e = .returned (.int .i64 0) ∧ w = w' := by
  go_enter Try.func36, Try.ntmps36
  go_wp2
  go_ret
  exact ⟨rfl, rfl⟩
theorem qPushNil (w : World) : Calls Try.prog 33 #[.pointer none, .agg #[.int .i64 0, .int .i64 0, .int .i64 0, .int .i64 0, .int .i64 0, .int .i64 0, .int .i64 0, .int .i64 0, .string ByteArray.empty, .slice none 0 0, .slice none 0 0]] w fun e w' => e = .returned (.tuple #[]) ∧ Below w.heap.size w w' := by
  go_enter Try.func33, Try.ntmps33
  go_wp2
  go_end0
  exact ⟨rfl, (Below.refl _ _).alloc (Nat.le_refl _) _⟩
theorem qPopNil (w : World) : Calls Try.prog 35 #[.pointer none] w fun e w' => e = .returned (.tuple #[.agg #[.int .i64 0, .int .i64 0, .int .i64 0, .int .i64 0, .int .i64 0, .int .i64 0, .int .i64 0, .int .i64 0, .string ByteArray.empty, .slice none 0 0, .slice none 0 0], .bool false]) ∧ Below w.heap.size w w' := by
  go_enter Try.func35, Try.ntmps35
  go_wp2_with fail
  refine (qLenNil _).mono ?_
  rintro e w1 ⟨rfl, rfl⟩
  go_wp2
  exact bodyPost_ret (v := .tuple #[.agg #[.int .i64 0, .int .i64 0, .int .i64 0, .int .i64 0, .int .i64 0, .int .i64 0, .int .i64 0, .int .i64 0, .string ByteArray.empty, .slice none 0 0, .slice none 0 0], .bool false]) (by simp [results, Try.results35, go_sem] <;> rfl) rfl ⟨rfl, (Below.refl _ _).alloc (Nat.le_refl _) _⟩
structure PuMid (b gt : Nat) (F : Value) (came : Int) (v : Value) (xs : Array Mit) (t n m : Int) (w0 w' : World) : Prop where
  q : QAt w' b F came v xs
  box : Blk w' gt #[.int .i64 t, .int .i64 n, .int .i64 0, .int .i64 m, .int .i64 0, .int .i64 0, .int .i64 0, .int .i64 0, .string ByteArray.empty, .slice none 0 0, .slice none 0 0] 58
  c : Chg (MqS b v) w0 w'
theorem pu_below {b gt : Nat} {F : Value} {came : Int} {v : Value} {xs : Array Mit} {t n m : Int} {w0 W w' : World} (hb : Below W.heap.size W w') (g : PuMid b gt F came v xs t n m w0 W) : PuMid b gt F came v xs t n m w0 w' :=
  ⟨g.q.below hb, blkBelow hb g.box g.box.lt, chg_bel g.c hb⟩
theorem pu_drew {b gt : Nat} {F : Value} {came : Int} {v : Value} {xs : Array Mit} {t n m : Int} {w0 W : World} (g : PuMid b gt F came v xs t n m w0 W) : PuMid b gt F came v xs t n m w0 W.drew := pu_below (Below.drew (Below.refl _ _)) g
def QPushPost (back : Bool) (b : Nat) (F : Value) (came : Int) (v : Value) (xs : Array Mit) (w : World) (e : Ending) (w' : World) : Prop := e = .returned (.tuple #[]) ∧ ∃ v' ys, QAt w' b F came v' ys ∧ ys.size = xs.size ∧ ys.toList.Perm xs.toList ∧ Hq.IsHeap (mlt back) ys ys.size ∧ Chg (MqS b v) w w'
structure PuDone (back : Bool) (b gt : Nat) (F : Value) (came : Int) (v : Value) (xs : Array Mit) (t n m : Int) (w0 w' : World) : Prop where
  done : ∃ v' ys, QAt w' b F came v' ys ∧ ys.size = xs.size ∧ ys.toList.Perm xs.toList ∧ Hq.IsHeap (mlt back) ys ys.size
  box : Blk w' gt #[.int .i64 t, .int .i64 n, .int .i64 0, .int .i64 m, .int .i64 0, .int .i64 0, .int .i64 0, .int .i64 0, .string ByteArray.empty, .slice none 0 0, .slice none 0 0] 58
  c : Chg (MqS b v) w0 w'
def PuX (back : Bool) (b gt : Nat) (F : Value) (came : Int) (v : Value) (xs zs : Array Mit) (t n m : Int) (w0 w' : World) : Prop := PuMid b gt F came v xs t n m w0 w' ∨ PuDone back b gt F came v zs t n m w0 w'
theorem PuX.came {back : Bool} {b gt : Nat} {F : Value} {came : Int} {v : Value} {xs zs : Array Mit} {t n m : Int} {w0 w' : World} (g : PuX back b gt F came v xs zs t n m w0 w') : w'.cell? ⟨b, 2, none⟩ = some (.int .i64 came) := by
  rcases g with g | g
  · exact g.q.blk.cell (o := 2) rfl
  · obtain ⟨v', ys, h, _⟩ := g.done
    exact h.blk.cell (o := 2) rfl
theorem PuX.box {back : Bool} {b gt : Nat} {F : Value} {came : Int} {v : Value} {xs zs : Array Mit} {t n m : Int} {w0 w' : World} (g : PuX back b gt F came v xs zs t n m w0 w') : Blk w' gt #[.int .i64 t, .int .i64 n, .int .i64 0, .int .i64 m, .int .i64 0, .int .i64 0, .int .i64 0, .int .i64 0, .string ByteArray.empty, .slice none 0 0, .slice none 0 0] 58 := by
  rcases g with g | g
  · exact g.box
  · exact g.box
theorem px_drew {back : Bool} {b gt : Nat} {F : Value} {came : Int} {v : Value} {xs zs : Array Mit} {t n m : Int} {w0 W : World} (g : PuX back b gt F came v xs zs t n m w0 W) : PuX back b gt F came v xs zs t n m w0 W.drew := by
  rcases g with g | g
  · exact .inl (pu_drew g)
  · obtain ⟨v', ys, h, h2⟩ := g.done
    exact .inr ⟨⟨v', ys, h.below (Below.drew (Below.refl _ _)), h2⟩, g.box, g.c.drew⟩
theorem pu_done {back : Bool} {b gt : Nat} {F : Value} {came : Int} {v : Value} {xs zs : Array Mit} {t n m : Int} {w0 W w' : World} (g : PuMid b gt F came v xs t n m w0 W) {e : Ending} (h : PushPost (mlt back) (fun w' ys => ∃ v', QAt w' b F came v' ys) (MqS b v) zs W e w') : PuDone back b gt F came v zs t n m w0 w' := by
  obtain ⟨_, ys, ⟨v', h1⟩, h2, h3, h4, h5⟩ := h
  refine ⟨⟨v', ys, h1, h2, h3, h4⟩, h5.blk g.box ?_, g.c.trans h5⟩
  rintro (e | e)
  · subst e; exact absurd (type_ne g.box g.q.blk) (by decide)
  · obtain ⟨_, cur, h6⟩ := own_type g.q.own e
    exact absurd (type_ne h6 g.box) (by decide)
theorem pu_S {b gt : Nat} {F : Value} {came : Int} {v : Value} {xs : Array Mit} {t n m : Int} {w0 w' : World} {back : Bool} {zs : Array Mit} (g : PuX back b gt F came v xs zs t n m w0 w') : w'.cell? ⟨b, 2, none⟩ = some (.int .i64 came) ∧ w'.cell? ⟨gt, 0, none⟩ = some (.int .i64 t) ∧ w'.cell? ⟨gt, 1, none⟩ = some (.int .i64 n) ∧ w'.cell? ⟨gt, 2, none⟩ = some (.int .i64 0) ∧ w'.cell? ⟨gt, 3, none⟩ = some (.int .i64 m) ∧ w'.cell? ⟨gt, 4, none⟩ = some (.int .i64 0) ∧ w'.cell? ⟨gt, 5, none⟩ = some (.int .i64 0) ∧ w'.cell? ⟨gt, 6, none⟩ = some (.int .i64 0) ∧ w'.cell? ⟨gt, 7, none⟩ = some (.int .i64 0) ∧ w'.cell? ⟨gt, 8, none⟩ = some (.string ByteArray.empty) ∧ w'.cell? ⟨gt, 9, none⟩ = some (.slice none 0 0) ∧ w'.cell? ⟨gt, 10, none⟩ = some (.slice none 0 0) ∧ PuX back b gt F came v xs zs t n m w0 w' :=
  ⟨g.came, g.box.cell rfl, g.box.cell rfl, g.box.cell rfl, g.box.cell rfl, g.box.cell rfl, g.box.cell rfl, g.box.cell rfl, g.box.cell rfl, g.box.cell rfl, g.box.cell rfl, g.box.cell rfl, g⟩
theorem pu_of {back : Bool} {zs : Array Mit} {b gt : Nat} {F : Value} {came : Int} {v : Value} {xs : Array Mit} {t n m : Int} {w0 w' : World} (g : w'.cell? ⟨b, 2, none⟩ = some (.int .i64 came) ∧ w'.cell? ⟨gt, 0, none⟩ = some (.int .i64 t) ∧ w'.cell? ⟨gt, 1, none⟩ = some (.int .i64 n) ∧ w'.cell? ⟨gt, 2, none⟩ = some (.int .i64 0) ∧ w'.cell? ⟨gt, 3, none⟩ = some (.int .i64 m) ∧ w'.cell? ⟨gt, 4, none⟩ = some (.int .i64 0) ∧ w'.cell? ⟨gt, 5, none⟩ = some (.int .i64 0) ∧ w'.cell? ⟨gt, 6, none⟩ = some (.int .i64 0) ∧ w'.cell? ⟨gt, 7, none⟩ = some (.int .i64 0) ∧ w'.cell? ⟨gt, 8, none⟩ = some (.string ByteArray.empty) ∧ w'.cell? ⟨gt, 9, none⟩ = some (.slice none 0 0) ∧ w'.cell? ⟨gt, 10, none⟩ = some (.slice none 0 0) ∧ PuX back b gt F came v xs zs t n m w0 w') : PuX back b gt F came v xs zs t n m w0 w' := g.2.2.2.2.2.2.2.2.2.2.2.2
set_option maxRecDepth 100000 in
set_option maxHeartbeats 2000000 in
theorem qPush {back : Bool} {F : Value} (hF : LessOk back F) (b : Nat) (came : Int) (v : Value) (xs : Array Mit) (t n m : Int) (w : World) (h : QAt w b F came v xs) (hh : Hq.IsHeap (mlt back) xs xs.size) (hz : xs.size ≤ 1000) (h0 : 0 ≤ came) (h1 : came ≤ 1000) :
    Calls Try.prog 33 #[.pointer (some ⟨b, 0, none⟩), .agg #[.int .i64 t, .int .i64 n, .int .i64 0, .int .i64 m, .int .i64 0, .int .i64 0, .int .i64 0, .int .i64 0, .string ByteArray.empty, .slice none 0 0, .slice none 0 0]] w (QPushPost back b F (came + 1) v (xs.push ⟨t, n, m, came + 1⟩) w) := by
  have c2 : w.cell? ⟨b, 2, none⟩ = some (.int .i64 came) := h.blk.cell (o := 2) rfl
  have f2 := h.blk.free 2
  have hl := h.blk.lt
  have M : PuMid b w.heap.size F (came + 1) v xs t n m w ((w.setCell ⟨b, 2, none⟩ (.int .i64 (came + 1))).alloc (.cells #[.int .i64 t, .int .i64 n, .int .i64 0, .int .i64 m, .int .i64 0, .int .i64 0, .int .i64 0, .int .i64 0, .string ByteArray.empty, .slice none 0 0, .slice none 0 0] 58)) := by
    have q1 : QAt (w.setCell ⟨b, 2, none⟩ (.int .i64 (came + 1))) b F (came + 1) v xs := ⟨by simpa using h.blk.set 2 (.int .i64 (came + 1)), ownsRow_setCell_other h.own (a := ⟨b, 2, none⟩) h.ne _⟩
    refine ⟨q1.below ((Below.refl _ _).alloc (Nat.le_refl _) _), ?_, Chg.alloc (Chg.set (S := MqS b v) (Chg.refl _ w) (p := ⟨b, 2, none⟩) (fun _ => .inl rfl) _) _⟩
    have := Blk.new (w.setCell ⟨b, 2, none⟩ (.int .i64 (came + 1))) #[.int .i64 t, .int .i64 n, .int .i64 0, .int .i64 m, .int .i64 0, .int .i64 0, .int .i64 0, .int .i64 0, .string ByteArray.empty, .slice none 0 0, .slice none 0 0] 58
    simpa using this
  have HM := Lib.hid M
  have HH := Lib.hid hh
  have KP := Lib.hid (fun w' (hq : QAt w' b F (came + 1) v xs) => mqHPush hF b (came + 1) v xs ⟨t, n, m, came + 1⟩ w' hq hh hz)
  clear h hh M
  go_enter Try.func33, Try.ntmps33
  go_wp2
  go_region_held3 (fun w' => w'.cell? ⟨b, 2, none⟩ = some (.int .i64 (came + 1)) ∧ w'.cell? ⟨w.heap.size, 0, none⟩ = some (.int .i64 t) ∧ w'.cell? ⟨w.heap.size, 1, none⟩ = some (.int .i64 n) ∧ w'.cell? ⟨w.heap.size, 2, none⟩ = some (.int .i64 0) ∧ w'.cell? ⟨w.heap.size, 3, none⟩ = some (.int .i64 m) ∧ w'.cell? ⟨w.heap.size, 4, none⟩ = some (.int .i64 0) ∧ w'.cell? ⟨w.heap.size, 5, none⟩ = some (.int .i64 0) ∧ w'.cell? ⟨w.heap.size, 6, none⟩ = some (.int .i64 0) ∧ w'.cell? ⟨w.heap.size, 7, none⟩ = some (.int .i64 0) ∧ w'.cell? ⟨w.heap.size, 8, none⟩ = some (.string ByteArray.empty) ∧ w'.cell? ⟨w.heap.size, 9, none⟩ = some (.slice none 0 0) ∧ w'.cell? ⟨w.heap.size, 10, none⟩ = some (.slice none 0 0) ∧ PuX back b w.heap.size F (came + 1) v xs (xs.push ⟨t, n, m, came + 1⟩) t n m w w') ((refine pu_S ?_; first | (with_reducible assumption) | exact .inl HM.out | exact px_drew (.inl HM.out) | exact px_drew (by assumption) | exact px_drew (pu_of (by assumption)) | exact .inl (by assumption) | exact .inr (by assumption))) (first | (go_at_call 81; (with_reducible refine (copyC t n m _).mono ?_); rintro e w9 ⟨rfl, hb⟩; have g9 := pu_below hb (by first | assumption | exact HM.out | exact pu_drew HM.out); clear hb) | (go_at_call 80; (with_reducible refine (KP.out _ (PuMid.q (by assumption))).mono ?_); intro e w8 h8; have g8 := pu_done (by assumption) h8; have he8 := h8.1; clear h8; subst he8))
  have H8 := Lib.hid g8
  clear g8
  go_wp2
  go_end0
  obtain ⟨⟨v', ys, k1, k2, k3, k4⟩, _, k5⟩ := H8.out
  exact ⟨rfl, v', ys, k1, k2, k3, k4, k5⟩
def S11 (w : World) (g : Nat) (t n m : Int) : World := ((((((((((w.setCell ⟨g, 0, none⟩ (.int .i64 t)).setCell ⟨g, 1, none⟩ (.int .i64 n)).setCell ⟨g, 2, none⟩ (.int .i64 0)).setCell ⟨g, 3, none⟩ (.int .i64 m)).setCell ⟨g, 4, none⟩ (.int .i64 0)).setCell ⟨g, 5, none⟩ (.int .i64 0)).setCell ⟨g, 6, none⟩ (.int .i64 0)).setCell ⟨g, 7, none⟩ (.int .i64 0)).setCell ⟨g, 8, none⟩ (.string ByteArray.empty)).setCell ⟨g, 9, none⟩ (.slice none 0 0)).setCell ⟨g, 10, none⟩ (.slice none 0 0)
theorem S11_chg {S : Nat → Prop} {w : World} {g : Nat} {t n m : Int} (hg : S g) : Chg S w (S11 w g t n m) := Chg.set (Chg.set (Chg.set (Chg.set (Chg.set (Chg.set (Chg.set (Chg.set (Chg.set (Chg.set (Chg.set (Chg.refl _ _) (p := ⟨g, 0, none⟩) (fun _ => hg) (.int .i64 t)) (p := ⟨g, 1, none⟩) (fun _ => hg) (.int .i64 n)) (p := ⟨g, 2, none⟩) (fun _ => hg) (.int .i64 0)) (p := ⟨g, 3, none⟩) (fun _ => hg) (.int .i64 m)) (p := ⟨g, 4, none⟩) (fun _ => hg) (.int .i64 0)) (p := ⟨g, 5, none⟩) (fun _ => hg) (.int .i64 0)) (p := ⟨g, 6, none⟩) (fun _ => hg) (.int .i64 0)) (p := ⟨g, 7, none⟩) (fun _ => hg) (.int .i64 0)) (p := ⟨g, 8, none⟩) (fun _ => hg) (.string ByteArray.empty)) (p := ⟨g, 9, none⟩) (fun _ => hg) (.slice none 0 0)) (p := ⟨g, 10, none⟩) (fun _ => hg) (.slice none 0 0)
theorem qpop_end {w w2 : World} {b g c h : Nat} {F : Value} {came : Int} {ys : Array Mit} {v0 : Value} (t n m : Int) (hq : QAt w2 b F came (.slice (some ⟨g, 0, none⟩) ys.size c) ys) (hb : b < h) (hg : g < h) (hw : w.heap.size = h) (hc : Chg (MqS b v0) w w2) :
    QAt (S11 w2 h t n m) b F came (.slice (some ⟨g, 0, none⟩) ys.size c) ys ∧ Chg (MqS b v0) w (S11 w2 h t n m) :=
  ⟨hq.chg (S11_chg (S := (· = h)) rfl) (by omega) (fun k e => by injection e with e; have e : g = k := e; omega), hc.trans' (S11_chg (S := (· = h)) rfl) (fun i hi e => by omega)⟩
theorem fo_mit (x : Mit) (w : World) : (Instr.field 118 (.agg #[.int .i64 x.time, .int .i64 x.node, .int .i64 0, .int .i64 x.mark, .int .i64 0, .int .i64 0, .int .i64 0, .int .i64 0, .string ByteArray.empty, .slice none 0 0, .slice none 0 0, .int .i64 x.came]) 0).run Try.prog w = .ok (.agg #[.int .i64 x.time, .int .i64 x.node, .int .i64 0, .int .i64 x.mark, .int .i64 0, .int .i64 0, .int .i64 0, .int .i64 0, .string ByteArray.empty, .slice none 0 0, .slice none 0 0]) w := by kernel_rfl
def QPopPost (back : Bool) (b : Nat) (F : Value) (came : Int) (v : Value) (xs : Array Mit) (w : World) (e : Ending) (w' : World) : Prop := e = .returned (.tuple #[.agg #[.int .i64 xs[0]!.time, .int .i64 xs[0]!.node, .int .i64 0, .int .i64 xs[0]!.mark, .int .i64 0, .int .i64 0, .int .i64 0, .int .i64 0, .string ByteArray.empty, .slice none 0 0, .slice none 0 0], .bool true]) ∧ ∃ v' ys, QAt w' b F came v' ys ∧ ys.size + 1 = xs.size ∧ (xs[0]! :: ys.toList).Perm xs.toList ∧ Hq.IsHeap (mlt back) ys ys.size ∧ Chg (MqS b v) w w'
set_option maxRecDepth 100000 in
theorem qPop0 (b : Nat) (F : Value) (came : Int) (v : Value) (xs : Array Mit) (w : World) (h : QAt w b F came v xs) (hx : xs.size = 0) : Calls Try.prog 35 #[.pointer (some ⟨b, 0, none⟩)] w fun e w' => e = .returned (.tuple #[.agg #[.int .i64 0, .int .i64 0, .int .i64 0, .int .i64 0, .int .i64 0, .int .i64 0, .int .i64 0, .int .i64 0, .string ByteArray.empty, .slice none 0 0, .slice none 0 0], .bool false]) ∧ Below w.heap.size w w' := by
  have K := fun w' hw => Lib.hid (qLen b F came v xs w' (h.below hw))
  have e : (xs.size : Int) = 0 := by omega
  rw [e] at K
  clear h e hx
  go_enter Try.func35, Try.ntmps35
  go_wp2_with fail
  refine (K _ ((Below.refl _ _).alloc (Nat.le_refl _) _)).out.mono ?_
  rintro e w1 ⟨rfl, rfl⟩
  go_wp2
  exact bodyPost_ret (v := .tuple #[.agg #[.int .i64 0, .int .i64 0, .int .i64 0, .int .i64 0, .int .i64 0, .int .i64 0, .int .i64 0, .int .i64 0, .string ByteArray.empty, .slice none 0 0, .slice none 0 0], .bool false]) (by simp [results, Try.results35, go_sem] <;> rfl) rfl ⟨rfl, (Below.refl _ _).alloc (Nat.le_refl _) _⟩
set_option maxRecDepth 100000 in
set_option maxHeartbeats 2000000 in
theorem qPop {back : Bool} {F : Value} (hF : LessOk back F) (b : Nat) (came : Int) (v : Value) (xs : Array Mit) (w : World) (h : QAt w b F came v xs) (hh : Hq.IsHeap (mlt back) xs xs.size) (hx : 0 < xs.size) (hz : xs.size ≤ 1000) (x : Mit) (hx0 : xs[0]! = x) :
    Calls Try.prog 35 #[.pointer (some ⟨b, 0, none⟩)] w (QPopPost back b F came v xs w) := by
  unfold QPopPost
  rw [hx0]
  have K := fun w' hw => Lib.hid (qLen b F came v xs w' (h.below hw))
  obtain ⟨g, c, rfl⟩ : ∃ g c, v = .slice (some ⟨g, 0, none⟩) xs.size c := by
    rcases h.own.2 with ⟨_, h1⟩ | ⟨g, c, cur, rfl, _⟩
    · omega
    · exact ⟨g, c, rfl⟩
  have ta := ta_mit x
  have fo := fo_mit x
  have hne : ((xs.size : Int) == 0) = false := beq_eq_false_iff_ne.2 (by omega)
  have HX := Lib.hid hx0
  have hzb := h.blk.lt
  have KP := Lib.hid (fun w' (hw : Below w.heap.size w w') => mqHPop hF b g c came xs w' (h.below hw) hh hx hz)
  have H := Lib.hid h
  clear h hh hx0
  go_enter Try.func35, Try.ntmps35
  go_wp2_with fail
  refine (K _ ((Below.refl _ _).alloc (Nat.le_refl _) _)).out.mono ?_
  rintro e w1 ⟨rfl, rfl⟩
  go_wp2_with fail
  refine (KP.out _ ((Below.refl _ _).alloc (Nat.le_refl _) _)).mono ?_
  rintro e w2 ⟨pv, ys, rfl, hV, hR, hs, hp, hhp, hc⟩
  unfold MitV at hV
  subst hV
  rw [HX.out] at hp ⊢
  have hS : ¬ MqS b (.slice (some ⟨g, 0, none⟩) xs.size c) w.heap.size := by
    rintro (e | e)
    · omega
    · obtain ⟨_, cur, h2⟩ := own_type H.out.own e
      have := lt_of_block h2
      omega
  have B2 : Blk w2 w.heap.size #[.int .i64 0, .int .i64 0, .int .i64 0, .int .i64 0, .int .i64 0, .int .i64 0, .int .i64 0, .int .i64 0, .string ByteArray.empty, .slice none 0 0, .slice none 0 0] 58 := hc.blk (Blk.new _ _ _) hS
  have e0 : w2.cell? ⟨w.heap.size, 0, none⟩ = some (.int .i64 0) := B2.cell (o := 0) rfl
  have f0 := B2.free 0
  have e1 : w2.cell? ⟨w.heap.size, 1, none⟩ = some (.int .i64 0) := B2.cell (o := 1) rfl
  have f1 := B2.free 1
  have e2 : w2.cell? ⟨w.heap.size, 2, none⟩ = some (.int .i64 0) := B2.cell (o := 2) rfl
  have f2 := B2.free 2
  have e3 : w2.cell? ⟨w.heap.size, 3, none⟩ = some (.int .i64 0) := B2.cell (o := 3) rfl
  have f3 := B2.free 3
  have e4 : w2.cell? ⟨w.heap.size, 4, none⟩ = some (.int .i64 0) := B2.cell (o := 4) rfl
  have f4 := B2.free 4
  have e5 : w2.cell? ⟨w.heap.size, 5, none⟩ = some (.int .i64 0) := B2.cell (o := 5) rfl
  have f5 := B2.free 5
  have e6 : w2.cell? ⟨w.heap.size, 6, none⟩ = some (.int .i64 0) := B2.cell (o := 6) rfl
  have f6 := B2.free 6
  have e7 : w2.cell? ⟨w.heap.size, 7, none⟩ = some (.int .i64 0) := B2.cell (o := 7) rfl
  have f7 := B2.free 7
  have e8 : w2.cell? ⟨w.heap.size, 8, none⟩ = some (.string ByteArray.empty) := B2.cell (o := 8) rfl
  have f8 := B2.free 8
  have e9 : w2.cell? ⟨w.heap.size, 9, none⟩ = some (.slice none 0 0) := B2.cell (o := 9) rfl
  have f9 := B2.free 9
  have e10 : w2.cell? ⟨w.heap.size, 10, none⟩ = some (.slice none 0 0) := B2.cell (o := 10) rfl
  have f10 := B2.free 10
  have b2z := B2.lt
  have hgl : g < w.heap.size := by
    obtain ⟨_, cur, h2⟩ := own_type H.out.own rfl
    exact lt_of_block h2
  obtain ⟨E1, E2⟩ := qpop_end x.time x.node x.mark hR hzb hgl rfl ((chg_bel (Chg.refl _ w) ((Below.refl _ _).alloc (Nat.le_refl _) _)).trans hc)
  have HE1 := Lib.hid E1
  have HE2 := Lib.hid E2
  have HP := Lib.hid hp
  have HHP := Lib.hid hhp
  have HS := Lib.hid hs
  clear E1 E2 hp hhp hs hR hc B2 hS KP K H HX
  go_wp2
  exact bodyPost_ret (v := .tuple #[.agg #[.int .i64 x.time, .int .i64 x.node, .int .i64 0, .int .i64 x.mark, .int .i64 0, .int .i64 0, .int .i64 0, .int .i64 0, .string ByteArray.empty, .slice none 0 0, .slice none 0 0], .bool true]) (by simp [results, Try.results35, go_sem, *] <;> rfl) rfl ⟨rfl, _, ys, HE1.out, HS.out, HP.out, HHP.out, HE2.out⟩
end Go.Proofs.Ythbalmoafpggdaa

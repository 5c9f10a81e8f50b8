/- merge's queue: the methods of the heap. -/
import Derived.Test.YthbalmoafpggdaaChecked
import Derived.WalkKit
import Derived.Outline
import Derived.WalkSpells
import Derived.WalkLawsBesides
import Derived.Deep.QuietTactic
import Derived.Deep.RegionWith
import Derived.Deep.DeepMust
import Derived.BigQuiet
import Derived.Test.YthbalmoafpggdaaMem
import Derived.RegionTactic
import Derived.ChangeAlike
import Derived.StillTailTactics
import Derived.BigRegion
import Derived.Deep.RegionHeld3
import Derived.Deep.RegionLaw
import Derived.Deep.AppendLies
import Derived.Deep.DeepCutAuto
import Derived.Deep.CutBlock
import Derived.Test.YthbalmoafpggdaaMq
import Derived.Test.YthbalmoafpggdaaCmpL
namespace Go.Proofs.Ythbalmoafpggdaa
open Go.RowKit
set_option linter.unusedVariables false
set_option linter.unusedSimpArgs false
theorem backLess (t n t' n' : Int) (w : World) : Calls Try.prog 31 #[.agg #[.int .i64 t, .int .i64 n], .agg #[.int .i64 t', .int .i64 n']] w fun e w' => e = .returned (.bool (idLt t' n' t n)) ∧ Below w.heap.size w w' := by
  go_enter Try.func31, Try.ntmps31
  go_wp2_with (go_at_call 30; refine (refLess' _ _ _ _ _).mono ?_; rintro e w1 ⟨rfl, hb⟩)
  go_ret
  exact ⟨rfl, by (repeat (first | exact Below.refl _ _ | (with_reducible assumption) | apply Below.drew | (refine Below.alloc ?_ (by first | exact Nat.le_refl _ | omega | (simp; done) | (simp; omega)) _) | (refine Below.setCell ?_ (by first | exact Nat.le_refl _ | omega | (simp; done) | (simp; omega)) _) | (refine Below.trans ?_ (Below.mono (by with_reducible assumption) (by first | omega | (simp; done) | (simp; omega))))))⟩
def lf (back : Bool) (x y : Mit) : Bool := if back then idLt y.time y.node x.time x.node else idLt x.time x.node y.time y.node
/-- The queue's order: by stamps, then as they came. -/
def mlt (back : Bool) (x y : Mit) : Bool := if lf back x y then true else if lf back y x then false else decide (x.came < y.came)
def idC (x : Mit) : Value := .agg #[.int .i64 x.time, .int .i64 x.node]
theorem lessR (x y : Mit) (w : World) : Calls Try.prog 30 #[.agg #[.int .i64 x.time, .int .i64 x.node], .agg #[.int .i64 y.time, .int .i64 y.node]] w fun e w' => e = .returned (.bool (lf false x y)) ∧ Below w.heap.size w w' := refLess' _ _ _ _ w
theorem lessC (x y : Mit) (w : World) : Calls Try.prog 79 #[.agg #[.int .i64 x.time, .int .i64 x.node], .agg #[.int .i64 y.time, .int .i64 y.node]] w fun e w' => e = .returned (.bool (lf false x y)) ∧ Below w.heap.size w w' := clkLess' _ _ _ _ w
theorem lessB (x y : Mit) (w : World) : Calls Try.prog 31 #[.agg #[.int .i64 x.time, .int .i64 x.node], .agg #[.int .i64 y.time, .int .i64 y.node]] w fun e w' => e = .returned (.bool (lf true x y)) ∧ Below w.heap.size w w' := backLess _ _ _ _ w
theorem mlt_iff (back : Bool) (x y : Mit) : mlt back x y = true ↔ (if back then (y.time < x.time ∨ y.time = x.time ∧ (y.node < x.node ∨ y.node = x.node ∧ x.came < y.came)) else (x.time < y.time ∨ x.time = y.time ∧ (x.node < y.node ∨ x.node = y.node ∧ x.came < y.came))) := by
  unfold mlt lf idLt
  cases back
  all_goals simp only [Bool.false_eq_true, if_false, if_true, Bool.or_eq_true, Bool.and_eq_true, decide_eq_true_eq]
  all_goals repeat' split
  all_goals simp only [decide_eq_true_eq, Bool.false_eq_true, false_iff, true_iff]
  all_goals omega
theorem mlt_no (back : Bool) (x y : Mit) : mlt back x y = false ↔ ¬ (mlt back x y = true) := by simp
theorem mlt_ord (back : Bool) : Hq.Ord (mlt back) := by
  refine ⟨fun a b c h1 h2 => ?_, fun a b h => ?_⟩
  · rw [mlt_no, mlt_iff] at *
    cases back
    all_goals simp only [Bool.false_eq_true, if_false, if_true] at *
    all_goals omega
  · rw [mlt_no]
    rw [mlt_iff] at *
    cases back
    all_goals simp only [Bool.false_eq_true, if_false, if_true] at *
    all_goals omega
structure QAt (w : World) (b : Nat) (F : Value) (came : Int) (v : Value) (xs : Array Mit) : Prop where
  blk : Blk w b #[v, F, .int .i64 came] 114
  own : w.ownsRow b 118 12 v xs.size (mrow xs.toList)
def MqS (b : Nat) (v : Value) (k : Nat) : Prop := k = b ∨ v.ownBlock = some k
theorem own_type {w : World} {B e s : Nat} {v : Value} {n : Nat} {xs : List Value} (h : w.ownsRow B e s v n xs) {g : Nat} (hg : v.ownBlock = some g) : B ≤ g ∧ ∃ cur, w.heap[g]? = some (.cells cur e (0, 0)) := by
  rcases h.2 with ⟨rfl, _⟩ | ⟨g', c, cur, rfl, h0, h1, _⟩
  · cases hg
  · injection hg with hg
    have hg : g' = g := hg
    subst hg
    exact ⟨h0, cur, h1⟩
theorem type_ne {w : World} {g : Nat} {c1 c2 : Array Value} {T1 T2 : Nat} (h1 : w.heap[g]? = some (.cells c1 T1 (0, 0))) (h2 : w.heap[g]? = some (.cells c2 T2 (0, 0))) : T1 = T2 := by
  rw [h1] at h2
  injection h2 with h2
  injection h2
theorem own_shp {w : World} {B e s : Nat} {v : Value} {n : Nat} {xs : List Value} (h : w.ownsRow B e s v n xs) : ∃ a c, v = .slice a n c ∧ n ≤ c ∧ c ≤ 9223372036854775807 ∧ (∀ x, a = some x → ∃ g, x = ⟨g, 0, none⟩) := by
  rcases h.2 with ⟨rfl, rfl⟩ | ⟨g, c, cur, rfl, _, _, h1, h2, _⟩
  · exact ⟨none, 0, rfl, Nat.le_refl _, by omega, fun x h => by cases h⟩
  · exact ⟨_, _, rfl, h1, by unfold maxLen at h2; omega, fun x h => by injection h with h; exact ⟨g, h.symm⟩⟩
theorem QAt.ne {w : World} {b : Nat} {F : Value} {came : Int} {v : Value} {xs : Array Mit} (h : QAt w b F came v xs) : v.ownBlock ≠ some b := by
  intro e
  obtain ⟨_, cur, h1⟩ := own_type h.own e
  exact absurd (type_ne h1 h.blk) (by decide)
theorem QAt.below {w w' : World} {b : Nat} {F : Value} {came : Int} {v : Value} {xs : Array Mit} (h : QAt w b F came v xs) (g : Below w.heap.size w w') : QAt w' b F came v xs := ⟨blkBelow g h.blk h.blk.lt, ownsRow_below h.own g⟩
theorem QAt.chg {S : Nat → Prop} {w w' : World} {b : Nat} {F : Value} {came : Int} {v : Value} {xs : Array Mit} (h : QAt w b F came v xs) (g : Chg S w w') (h0 : ¬ S b) (h1 : ∀ k, v.ownBlock = some k → ¬ S k) : QAt w' b F came v xs := ⟨g.blk h.blk h0, ownsRow_chg h.own g h1⟩
theorem QAt.sle {w : World} {b k : Nat} {F : Value} {came : Int} {v : Value} {xs : Array Mit} (h : QAt w b F came v xs) (hk : MqS b v k) : b ≤ k := by
  rcases hk with e | e
  · omega
  · exact (own_type h.own e).1
theorem QAt.cells {w : World} {b g c : Nat} {F : Value} {came : Int} {xs : Array Mit} (h : QAt w b F came (.slice (some ⟨g, 0, none⟩) xs.size c) xs) : b < g ∧ g < w.heap.size ∧ xs.size ≤ c ∧ c ≤ 9223372036854775807 ∧ ∃ cur, Blk w g cur 118 ∧ cur.size = c * 12 ∧ cur.toList.take (xs.size * 12) = mrow xs.toList := by
  have hne : g ≠ b := fun e => h.ne (by rw [e]; rfl)
  rcases h.own.2 with ⟨e, _⟩ | ⟨g', c', cur, e, h1, h2, h3, h4, h5, h6⟩
  · cases e
  · injection e with e1 e2 e3
    injection e1 with e1
    injection e1 with e1
    subst e1
    subst e3
    exact ⟨by omega, lt_of_block h2, h3, by unfold maxLen at h4; omega, cur, h2, h5, h6⟩
def Fun (k : Nat) : Value := .func (.func k) #[] #[]
theorem mqLen (b : Nat) (F : Value) (came : Int) (v : Value) (xs : Array Mit) (w : World) (h : QAt w b F came v xs) : Calls Try.prog 160 #[.pointer (some ⟨b, 0, none⟩)] w fun e w' => e = .returned (.int .i64 xs.size) ∧ Below w.heap.size w w' := by
  have c0 : w.cell? ⟨b, 0, none⟩ = some v := h.blk.cell (o := 0) rfl
  have hz := h.blk.lt
  obtain ⟨va, vc, rfl, hv1, hv2, _⟩ := own_shp h.own
  clear h
  go_enter Try.func160, Try.ntmps160
  go_wp2
  go_ret
  exact ⟨rfl, Below.refl _ _⟩
structure LsMid (b : Nat) (F : Value) (ga gb : Nat) (x y : Mit) (w0 w' : World) : Prop where
  q : w'.cell? ⟨b, 1, none⟩ = some F
  a : Blk w' ga (mitC x).toArray 118
  b : Blk w' gb (mitC y).toArray 118
  bel : Below w0.heap.size w0 w'
theorem ls_below {b : Nat} {F : Value} {ga gb : Nat} {x y : Mit} {w0 W w' : World} (hb : Below W.heap.size W w') (g : LsMid b F ga gb x y w0 W) : LsMid b F ga gb x y w0 w' :=
  ⟨below_cell hb _ _ g.q, blkBelow hb g.a g.a.lt, blkBelow hb g.b g.b.lt, g.bel.trans (hb.mono g.bel.size)⟩
theorem ls_drew {b : Nat} {F : Value} {ga gb : Nat} {x y : Mit} {w0 W : World} (g : LsMid b F ga gb x y w0 W) : LsMid b F ga gb x y w0 W.drew := ⟨g.q, g.a, g.b, g.bel.drew⟩
abbrev LsC (b : Nat) (F : Value) (ga gb : Nat) (x y : Mit) (w' : World) : Prop := w'.cell? ⟨b, 1, none⟩ = some F ∧ w'.cell? ⟨ga, 0, none⟩ = some (.int .i64 x.time) ∧ w'.cell? ⟨ga, 1, none⟩ = some (.int .i64 x.node) ∧ w'.cell? ⟨gb, 0, none⟩ = some (.int .i64 y.time) ∧ w'.cell? ⟨gb, 1, none⟩ = some (.int .i64 y.node)
theorem ls_S {b : Nat} {F : Value} {ga gb : Nat} {x y : Mit} {w0 w' : World} (g : LsMid b F ga gb x y w0 w') : w'.cell? ⟨b, 1, none⟩ = some F ∧ w'.cell? ⟨ga, 0, none⟩ = some (.int .i64 x.time) ∧ w'.cell? ⟨ga, 1, none⟩ = some (.int .i64 x.node) ∧ w'.cell? ⟨gb, 0, none⟩ = some (.int .i64 y.time) ∧ w'.cell? ⟨gb, 1, none⟩ = some (.int .i64 y.node) ∧ LsMid b F ga gb x y w0 w' :=
  ⟨g.q, g.a.cell rfl, g.a.cell rfl, g.b.cell rfl, g.b.cell rfl, g⟩
theorem ls_of {b : Nat} {F : Value} {ga gb : Nat} {x y : Mit} {w0 w' : World} (g : w'.cell? ⟨b, 1, none⟩ = some F ∧ w'.cell? ⟨ga, 0, none⟩ = some (.int .i64 x.time) ∧ w'.cell? ⟨ga, 1, none⟩ = some (.int .i64 x.node) ∧ w'.cell? ⟨gb, 0, none⟩ = some (.int .i64 y.time) ∧ w'.cell? ⟨gb, 1, none⟩ = some (.int .i64 y.node) ∧ LsMid b F ga gb x y w0 w') : LsMid b F ga gb x y w0 w' := g.2.2.2.2.2
def LsCut (b : Nat) (F : Value) (x y : Mit) (w : World) (s7 s8 : Value) (wx : World) : Prop := ∃ ga gb, s7 = .pointer (some ⟨ga, 0, none⟩) ∧ s8 = .pointer (some ⟨gb, 0, none⟩) ∧ LsMid b F ga gb x y w wx
set_option maxHeartbeats 4000000 in
set_option maxRecDepth 100000 in
theorem mqLessR (b g c : Nat) (came : Int) (xs : Array Mit) (i j : Nat) (w : World) (h : QAt w b (Fun 30) came (.slice (some ⟨g, 0, none⟩) xs.size c) xs) (hi : i < xs.size) (hj : j < xs.size) : Calls Try.prog 161 #[.pointer (some ⟨b, 0, none⟩), .int .i64 i, .int .i64 j] w fun e w' => e = .returned (.bool (mlt false xs[i]! xs[j]!)) ∧ Below w.heap.size w w' := by
  have c0 : w.cell? ⟨b, 0, none⟩ = some (.slice (some ⟨g, 0, none⟩) xs.size c) := h.blk.cell (o := 0) rfl
  have c1 : w.cell? ⟨b, 1, none⟩ = some (.func (.func 30) #[] #[]) := h.blk.cell (o := 1) rfl
  have hz := h.blk.lt
  obtain ⟨hbg, hg, h3, h4, cur, hb, hs, ht⟩ := h.cells
  obtain ⟨x0, x1, x2, x3, x4, x5, x6, x7, x8, x9, x10, x11⟩ := McAt.of hb ht hi
  obtain ⟨y0, y1, y2, y3, y4, y5, y6, y7, y8, y9, y10, y11⟩ := McAt.of hb ht hj
  have i0 : (0 : Int) ≤ i := by omega
  have j0 : (0 : Int) ≤ j := by omega
  have i1 : (i : Int) < xs.size := by omega
  have j1 : (j : Int) < xs.size := by omega
  generalize xs[i]! = x at *
  generalize xs[j]! = y at *
  have M1 : LsMid b (.func (.func 30) #[] #[]) w.heap.size (w.heap.size + 1) x y w ((w.alloc (.cells (mitC x).toArray 118)).alloc (.cells (mitC y).toArray 118)).drew :=
    ⟨below_cell (((Below.refl w.heap.size w).alloc (Nat.le_refl _) _).alloc (by simp) _) _ _ c1, (Blk.new _ _ _).alloc _, by have := Blk.new (w.alloc (.cells (mitC x).toArray 118)) (mitC y).toArray 118; exact Blk.drew (by simpa using this), (((Below.refl w.heap.size w).alloc (Nat.le_refl _) _).alloc (by simp) _).drew⟩
  have M2 : LsMid b (.func (.func 30) #[] #[]) (w.heap.size + 1) w.heap.size x y w ((w.alloc (.cells (mitC y).toArray 118)).alloc (.cells (mitC x).toArray 118)).drew :=
    ⟨below_cell (((Below.refl w.heap.size w).alloc (Nat.le_refl _) _).alloc (by simp) _) _ _ c1, by have := Blk.new (w.alloc (.cells (mitC y).toArray 118)) (mitC x).toArray 118; exact Blk.drew (by simpa using this), (Blk.new _ _ _).alloc _, (((Below.refl w.heap.size w).alloc (Nat.le_refl _) _).alloc (by simp) _).drew⟩
  have HM1 := Lib.hid M1
  have HM2 := Lib.hid M2
  clear h hb ht hs M1 M2
  go_enter Try.func161, Try.ntmps161
  go_upto_region 1 with fail
  go_cut [7, 8] (fun s7 s8 wx => LsCut b (.func (.func 30) #[] #[]) x y w s7 s8 wx)
  case first =>
    go_region
    all_goals go_wp2_with fail
    all_goals go_meet
    all_goals first | exact ⟨_, _, rfl, rfl, HM1.out⟩ | exact ⟨_, _, rfl, rfl, HM2.out⟩
  case rest =>
    obtain ⟨ga, gb, rfl, rfl, M⟩ := hcut
    clear x0 x1 x2 x3 x4 x5 x6 x7 x8 x9 x10 x11 y0 y1 y2 y3 y4 y5 y6 y7 y8 y9 y10 y11 c0 c1 HM1 HM2
    obtain ⟨m0, m1, m2, m3, m4, _⟩ := ls_S M
    cases hp : lf false x y
    · have HPP := Lib.hid hp
      cases hq : lf false y x
      · have HQ := Lib.hid hq
        clear hp hq
        go_wp2_with fail
        go_region_held3 (fun w' => w'.cell? ⟨b, 1, none⟩ = some (.func (.func 30) #[] #[]) ∧ w'.cell? ⟨ga, 0, none⟩ = some (.int .i64 x.time) ∧ w'.cell? ⟨ga, 1, none⟩ = some (.int .i64 x.node) ∧ w'.cell? ⟨gb, 0, none⟩ = some (.int .i64 y.time) ∧ w'.cell? ⟨gb, 1, none⟩ = some (.int .i64 y.node) ∧ LsMid b (.func (.func 30) #[] #[]) ga gb x y w w') ((refine ls_S ?_; first | (with_reducible assumption) | exact ls_drew (by assumption) | exact ls_drew (ls_of (by assumption)))) (first | (go_at_call 30; (with_reducible refine (lessR x y _).mono ?_); rintro e w9 ⟨rfl, hb⟩; rw [HPP.out]; have g9 := ls_below hb (by first | assumption | exact ls_of (by assumption)); clear hb; obtain ⟨p9, q9, r9, s9, t9, _⟩ := ls_S g9))
        go_wp2_with fail
        go_region_held3 (fun w' => w'.cell? ⟨b, 1, none⟩ = some (.func (.func 30) #[] #[]) ∧ w'.cell? ⟨ga, 0, none⟩ = some (.int .i64 x.time) ∧ w'.cell? ⟨ga, 1, none⟩ = some (.int .i64 x.node) ∧ w'.cell? ⟨gb, 0, none⟩ = some (.int .i64 y.time) ∧ w'.cell? ⟨gb, 1, none⟩ = some (.int .i64 y.node) ∧ LsMid b (.func (.func 30) #[] #[]) ga gb x y w w') ((refine ls_S ?_; first | (with_reducible assumption) | exact ls_drew (by assumption) | exact ls_drew (ls_of (by assumption)))) (first | (go_at_call 30; (with_reducible refine (lessR y x _).mono ?_); rintro e w9 ⟨rfl, hb⟩; rw [HQ.out]; have g9 := ls_below hb (by first | assumption | exact ls_of (by assumption)); clear hb; obtain ⟨p9, q9, r9, s9, t9, _⟩ := ls_S g9))
        have Z := ls_of (by assumption)
        have z1 : w9.cell? ⟨ga, 11, none⟩ = some (.int .i64 x.came) := Z.a.cell (o := 11) rfl
        have z2 : w9.cell? ⟨gb, 11, none⟩ = some (.int .i64 y.came) := Z.b.cell (o := 11) rfl
        have HZ := Lib.hid Z.bel
        clear Z
        go_wp2
        go_ret
        exact ⟨by unfold mlt; rw [HPP.out, HQ.out]; rfl, HZ.out⟩
      · have HQ := Lib.hid hq
        clear hp hq
        go_wp2_with fail
        go_region_held3 (fun w' => w'.cell? ⟨b, 1, none⟩ = some (.func (.func 30) #[] #[]) ∧ w'.cell? ⟨ga, 0, none⟩ = some (.int .i64 x.time) ∧ w'.cell? ⟨ga, 1, none⟩ = some (.int .i64 x.node) ∧ w'.cell? ⟨gb, 0, none⟩ = some (.int .i64 y.time) ∧ w'.cell? ⟨gb, 1, none⟩ = some (.int .i64 y.node) ∧ LsMid b (.func (.func 30) #[] #[]) ga gb x y w w') ((refine ls_S ?_; first | (with_reducible assumption) | exact ls_drew (by assumption) | exact ls_drew (ls_of (by assumption)))) (first | (go_at_call 30; (with_reducible refine (lessR x y _).mono ?_); rintro e w9 ⟨rfl, hb⟩; rw [HPP.out]; have g9 := ls_below hb (by first | assumption | exact ls_of (by assumption)); clear hb; obtain ⟨p9, q9, r9, s9, t9, _⟩ := ls_S g9))
        go_wp2_with fail
        go_region_held3 (fun w' => w'.cell? ⟨b, 1, none⟩ = some (.func (.func 30) #[] #[]) ∧ w'.cell? ⟨ga, 0, none⟩ = some (.int .i64 x.time) ∧ w'.cell? ⟨ga, 1, none⟩ = some (.int .i64 x.node) ∧ w'.cell? ⟨gb, 0, none⟩ = some (.int .i64 y.time) ∧ w'.cell? ⟨gb, 1, none⟩ = some (.int .i64 y.node) ∧ LsMid b (.func (.func 30) #[] #[]) ga gb x y w w') ((refine ls_S ?_; first | (with_reducible assumption) | exact ls_drew (by assumption) | exact ls_drew (ls_of (by assumption)))) (first | (go_at_call 30; (with_reducible refine (lessR y x _).mono ?_); rintro e w9 ⟨rfl, hb⟩; rw [HQ.out]; have g9 := ls_below hb (by first | assumption | exact ls_of (by assumption)); clear hb; obtain ⟨p9, q9, r9, s9, t9, _⟩ := ls_S g9))
        have HZ := Lib.hid (ls_of (by assumption)).bel
        go_wp2
        go_ret
        exact ⟨by unfold mlt; rw [HPP.out, HQ.out]; rfl, HZ.out⟩
    · have HPP := Lib.hid hp
      clear hp
      go_wp2_with fail
      go_region_held3 (fun w' => w'.cell? ⟨b, 1, none⟩ = some (.func (.func 30) #[] #[]) ∧ w'.cell? ⟨ga, 0, none⟩ = some (.int .i64 x.time) ∧ w'.cell? ⟨ga, 1, none⟩ = some (.int .i64 x.node) ∧ w'.cell? ⟨gb, 0, none⟩ = some (.int .i64 y.time) ∧ w'.cell? ⟨gb, 1, none⟩ = some (.int .i64 y.node) ∧ LsMid b (.func (.func 30) #[] #[]) ga gb x y w w') ((refine ls_S ?_; first | (with_reducible assumption) | exact ls_drew (by assumption) | exact ls_drew (ls_of (by assumption)))) (first | (go_at_call 30; (with_reducible refine (lessR x y _).mono ?_); rintro e w9 ⟨rfl, hb⟩; rw [HPP.out]; have g9 := ls_below hb (by first | assumption | exact ls_of (by assumption)); clear hb; obtain ⟨p9, q9, r9, s9, t9, _⟩ := ls_S g9))
      have HZ := Lib.hid (ls_of (by assumption)).bel
      go_wp2
      go_ret
      exact ⟨by unfold mlt; rw [HPP.out]; rfl, HZ.out⟩
end Go.Proofs.Ythbalmoafpggdaa

/- merge's queue: Less, by the other two orders. -/
import Derived.Test.YthbalmoafpggdaaChecked
import Derived.WalkKit
import Derived.Outline
import Derived.WalkSpells
import Derived.WalkLawsBesides
import Derived.Deep.QuietTactic
import Derived.Deep.RegionWith
import Derived.Deep.DeepMust
import Derived.BigQuiet
import Derived.Test.YthbalmoafpggdaaMem
import Derived.RegionTactic
import Derived.ChangeAlike
import Derived.StillTailTactics
import Derived.BigRegion
import Derived.Deep.RegionHeld3
import Derived.Deep.RegionLaw
import Derived.Deep.AppendLies
import Derived.Deep.DeepCutAuto
import Derived.Deep.CutBlock
import Derived.Test.YthbalmoafpggdaaMq2
namespace Go.Proofs.Ythbalmoafpggdaa
open Go.RowKit
set_option linter.unusedVariables false
set_option linter.unusedSimpArgs false
set_option maxHeartbeats 4000000 in
set_option maxRecDepth 100000 in
theorem mqLessC (b g c : Nat) (came : Int) (xs : Array Mit) (i j : Nat) (w : World) (h : QAt w b (Fun 79) came (.slice (some ⟨g, 0, none⟩) xs.size c) xs) (hi : i < xs.size) (hj : j < xs.size) : Calls Try.prog 161 #[.pointer (some ⟨b, 0, none⟩), .int .i64 i, .int .i64 j] w fun e w' => e = .returned (.bool (mlt false xs[i]! xs[j]!)) ∧ Below w.heap.size w w' := by
  have c0 : w.cell? ⟨b, 0, none⟩ = some (.slice (some ⟨g, 0, none⟩) xs.size c) := h.blk.cell (o := 0) rfl
  have c1 : w.cell? ⟨b, 1, none⟩ = some (.func (.func 79) #[] #[]) := h.blk.cell (o := 1) rfl
  have hz := h.blk.lt
  obtain ⟨hbg, hg, h3, h4, cur, hb, hs, ht⟩ := h.cells
  obtain ⟨x0, x1, x2, x3, x4, x5, x6, x7, x8, x9, x10, x11⟩ := McAt.of hb ht hi
  obtain ⟨y0, y1, y2, y3, y4, y5, y6, y7, y8, y9, y10, y11⟩ := McAt.of hb ht hj
  have i0 : (0 : Int) ≤ i := by omega
  have j0 : (0 : Int) ≤ j := by omega
  have i1 : (i : Int) < xs.size := by omega
  have j1 : (j : Int) < xs.size := by omega
  generalize xs[i]! = x at *
  generalize xs[j]! = y at *
  have M1 : LsMid b (.func (.func 79) #[] #[]) w.heap.size (w.heap.size + 1) x y w ((w.alloc (.cells (mitC x).toArray 118)).alloc (.cells (mitC y).toArray 118)).drew :=
    ⟨below_cell (((Below.refl w.heap.size w).alloc (Nat.le_refl _) _).alloc (by simp) _) _ _ c1, (Blk.new _ _ _).alloc _, by have := Blk.new (w.alloc (.cells (mitC x).toArray 118)) (mitC y).toArray 118; exact Blk.drew (by simpa using this), (((Below.refl w.heap.size w).alloc (Nat.le_refl _) _).alloc (by simp) _).drew⟩
  have M2 : LsMid b (.func (.func 79) #[] #[]) (w.heap.size + 1) w.heap.size x y w ((w.alloc (.cells (mitC y).toArray 118)).alloc (.cells (mitC x).toArray 118)).drew :=
    ⟨below_cell (((Below.refl w.heap.size w).alloc (Nat.le_refl _) _).alloc (by simp) _) _ _ c1, by have := Blk.new (w.alloc (.cells (mitC y).toArray 118)) (mitC x).toArray 118; exact Blk.drew (by simpa using this), (Blk.new _ _ _).alloc _, (((Below.refl w.heap.size w).alloc (Nat.le_refl _) _).alloc (by simp) _).drew⟩
  have HM1 := Lib.hid M1
  have HM2 := Lib.hid M2
  clear h hb ht hs M1 M2
  go_enter Try.func161, Try.ntmps161
  go_upto_region 1 with fail
  go_cut [7, 8] (fun s7 s8 wx => LsCut b (.func (.func 79) #[] #[]) x y w s7 s8 wx)
  case first =>
    go_region
    all_goals go_wp2_with fail
    all_goals go_meet
    all_goals first | exact ⟨_, _, rfl, rfl, HM1.out⟩ | exact ⟨_, _, rfl, rfl, HM2.out⟩
  case rest =>
    obtain ⟨ga, gb, rfl, rfl, M⟩ := hcut
    clear x0 x1 x2 x3 x4 x5 x6 x7 x8 x9 x10 x11 y0 y1 y2 y3 y4 y5 y6 y7 y8 y9 y10 y11 c0 c1 HM1 HM2
    obtain ⟨m0, m1, m2, m3, m4, _⟩ := ls_S M
    cases hp : lf false x y
    · have HPP := Lib.hid hp
      cases hq : lf false y x
      · have HQ := Lib.hid hq
        clear hp hq
        go_wp2_with fail
        go_region_held3 (fun w' => w'.cell? ⟨b, 1, none⟩ = some (.func (.func 79) #[] #[]) ∧ w'.cell? ⟨ga, 0, none⟩ = some (.int .i64 x.time) ∧ w'.cell? ⟨ga, 1, none⟩ = some (.int .i64 x.node) ∧ w'.cell? ⟨gb, 0, none⟩ = some (.int .i64 y.time) ∧ w'.cell? ⟨gb, 1, none⟩ = some (.int .i64 y.node) ∧ LsMid b (.func (.func 79) #[] #[]) ga gb x y w w') ((refine ls_S ?_; first | (with_reducible assumption) | exact ls_drew (by assumption) | exact ls_drew (ls_of (by assumption)))) (first | (go_at_call 79; (with_reducible refine (lessC x y _).mono ?_); rintro e w9 ⟨rfl, hb⟩; rw [HPP.out]; have g9 := ls_below hb (by first | assumption | exact ls_of (by assumption)); clear hb; obtain ⟨p9, q9, r9, s9, t9, _⟩ := ls_S g9))
        go_wp2_with fail
        go_region_held3 (fun w' => w'.cell? ⟨b, 1, none⟩ = some (.func (.func 79) #[] #[]) ∧ w'.cell? ⟨ga, 0, none⟩ = some (.int .i64 x.time) ∧ w'.cell? ⟨ga, 1, none⟩ = some (.int .i64 x.node) ∧ w'.cell? ⟨gb, 0, none⟩ = some (.int .i64 y.time) ∧ w'.cell? ⟨gb, 1, none⟩ = some (.int .i64 y.node) ∧ LsMid b (.func (.func 79) #[] #[]) ga gb x y w w') ((refine ls_S ?_; first | (with_reducible assumption) | exact ls_drew (by assumption) | exact ls_drew (ls_of (by assumption)))) (first | (go_at_call 79; (with_reducible refine (lessC y x _).mono ?_); rintro e w9 ⟨rfl, hb⟩; rw [HQ.out]; have g9 := ls_below hb (by first | assumption | exact ls_of (by assumption)); clear hb; obtain ⟨p9, q9, r9, s9, t9, _⟩ := ls_S g9))
        have Z := ls_of (by assumption)
        have z1 : w9.cell? ⟨ga, 11, none⟩ = some (.int .i64 x.came) := Z.a.cell (o := 11) rfl
        have z2 : w9.cell? ⟨gb, 11, none⟩ = some (.int .i64 y.came) := Z.b.cell (o := 11) rfl
        have HZ := Lib.hid Z.bel
        clear Z
        go_wp2
        go_ret
        exact ⟨by unfold mlt; rw [HPP.out, HQ.out]; rfl, HZ.out⟩
      · have HQ := Lib.hid hq
        clear hp hq
        go_wp2_with fail
        go_region_held3 (fun w' => w'.cell? ⟨b, 1, none⟩ = some (.func (.func 79) #[] #[]) ∧ w'.cell? ⟨ga, 0, none⟩ = some (.int .i64 x.time) ∧ w'.cell? ⟨ga, 1, none⟩ = some (.int .i64 x.node) ∧ w'.cell? ⟨gb, 0, none⟩ = some (.int .i64 y.time) ∧ w'.cell? ⟨gb, 1, none⟩ = some (.int .i64 y.node) ∧ LsMid b (.func (.func 79) #[] #[]) ga gb x y w w') ((refine ls_S ?_; first | (with_reducible assumption) | exact ls_drew (by assumption) | exact ls_drew (ls_of (by assumption)))) (first | (go_at_call 79; (with_reducible refine (lessC x y _).mono ?_); rintro e w9 ⟨rfl, hb⟩; rw [HPP.out]; have g9 := ls_below hb (by first | assumption | exact ls_of (by assumption)); clear hb; obtain ⟨p9, q9, r9, s9, t9, _⟩ := ls_S g9))
        go_wp2_with fail
        go_region_held3 (fun w' => w'.cell? ⟨b, 1, none⟩ = some (.func (.func 79) #[] #[]) ∧ w'.cell? ⟨ga, 0, none⟩ = some (.int .i64 x.time) ∧ w'.cell? ⟨ga, 1, none⟩ = some (.int .i64 x.node) ∧ w'.cell? ⟨gb, 0, none⟩ = some (.int .i64 y.time) ∧ w'.cell? ⟨gb, 1, none⟩ = some (.int .i64 y.node) ∧ LsMid b (.func (.func 79) #[] #[]) ga gb x y w w') ((refine ls_S ?_; first | (with_reducible assumption) | exact ls_drew (by assumption) | exact ls_drew (ls_of (by assumption)))) (first | (go_at_call 79; (with_reducible refine (lessC y x _).mono ?_); rintro e w9 ⟨rfl, hb⟩; rw [HQ.out]; have g9 := ls_below hb (by first | assumption | exact ls_of (by assumption)); clear hb; obtain ⟨p9, q9, r9, s9, t9, _⟩ := ls_S g9))
        have HZ := Lib.hid (ls_of (by assumption)).bel
        go_wp2
        go_ret
        exact ⟨by unfold mlt; rw [HPP.out, HQ.out]; rfl, HZ.out⟩
    · have HPP := Lib.hid hp
      clear hp
      go_wp2_with fail
      go_region_held3 (fun w' => w'.cell? ⟨b, 1, none⟩ = some (.func (.func 79) #[] #[]) ∧ w'.cell? ⟨ga, 0, none⟩ = some (.int .i64 x.time) ∧ w'.cell? ⟨ga, 1, none⟩ = some (.int .i64 x.node) ∧ w'.cell? ⟨gb, 0, none⟩ = some (.int .i64 y.time) ∧ w'.cell? ⟨gb, 1, none⟩ = some (.int .i64 y.node) ∧ LsMid b (.func (.func 79) #[] #[]) ga gb x y w w') ((refine ls_S ?_; first | (with_reducible assumption) | exact ls_drew (by assumption) | exact ls_drew (ls_of (by assumption)))) (first | (go_at_call 79; (with_reducible refine (lessC x y _).mono ?_); rintro e w9 ⟨rfl, hb⟩; rw [HPP.out]; have g9 := ls_below hb (by first | assumption | exact ls_of (by assumption)); clear hb; obtain ⟨p9, q9, r9, s9, t9, _⟩ := ls_S g9))
      have HZ := Lib.hid (ls_of (by assumption)).bel
      go_wp2
      go_ret
      exact ⟨by unfold mlt; rw [HPP.out]; rfl, HZ.out⟩
set_option maxHeartbeats 4000000 in
set_option maxRecDepth 100000 in
theorem mqLessB (b g c : Nat) (came : Int) (xs : Array Mit) (i j : Nat) (w : World) (h : QAt w b (Fun 31) came (.slice (some ⟨g, 0, none⟩) xs.size c) xs) (hi : i < xs.size) (hj : j < xs.size) : Calls Try.prog 161 #[.pointer (some ⟨b, 0, none⟩), .int .i64 i, .int .i64 j] w fun e w' => e = .returned (.bool (mlt true xs[i]! xs[j]!)) ∧ Below w.heap.size w w' := by
  have c0 : w.cell? ⟨b, 0, none⟩ = some (.slice (some ⟨g, 0, none⟩) xs.size c) := h.blk.cell (o := 0) rfl
  have c1 : w.cell? ⟨b, 1, none⟩ = some (.func (.func 31) #[] #[]) := h.blk.cell (o := 1) rfl
  have hz := h.blk.lt
  obtain ⟨hbg, hg, h3, h4, cur, hb, hs, ht⟩ := h.cells
  obtain ⟨x0, x1, x2, x3, x4, x5, x6, x7, x8, x9, x10, x11⟩ := McAt.of hb ht hi
  obtain ⟨y0, y1, y2, y3, y4, y5, y6, y7, y8, y9, y10, y11⟩ := McAt.of hb ht hj
  have i0 : (0 : Int) ≤ i := by omega
  have j0 : (0 : Int) ≤ j := by omega
  have i1 : (i : Int) < xs.size := by omega
  have j1 : (j : Int) < xs.size := by omega
  generalize xs[i]! = x at *
  generalize xs[j]! = y at *
  have M1 : LsMid b (.func (.func 31) #[] #[]) w.heap.size (w.heap.size + 1) x y w ((w.alloc (.cells (mitC x).toArray 118)).alloc (.cells (mitC y).toArray 118)).drew :=
    ⟨below_cell (((Below.refl w.heap.size w).alloc (Nat.le_refl _) _).alloc (by simp) _) _ _ c1, (Blk.new _ _ _).alloc _, by have := Blk.new (w.alloc (.cells (mitC x).toArray 118)) (mitC y).toArray 118; exact Blk.drew (by simpa using this), (((Below.refl w.heap.size w).alloc (Nat.le_refl _) _).alloc (by simp) _).drew⟩
  have M2 : LsMid b (.func (.func 31) #[] #[]) (w.heap.size + 1) w.heap.size x y w ((w.alloc (.cells (mitC y).toArray 118)).alloc (.cells (mitC x).toArray 118)).drew :=
    ⟨below_cell (((Below.refl w.heap.size w).alloc (Nat.le_refl _) _).alloc (by simp) _) _ _ c1, by have := Blk.new (w.alloc (.cells (mitC y).toArray 118)) (mitC x).toArray 118; exact Blk.drew (by simpa using this), (Blk.new _ _ _).alloc _, (((Below.refl w.heap.size w).alloc (Nat.le_refl _) _).alloc (by simp) _).drew⟩
  have HM1 := Lib.hid M1
  have HM2 := Lib.hid M2
  clear h hb ht hs M1 M2
  go_enter Try.func161, Try.ntmps161
  go_upto_region 1 with fail
  go_cut [7, 8] (fun s7 s8 wx => LsCut b (.func (.func 31) #[] #[]) x y w s7 s8 wx)
  case first =>
    go_region
    all_goals go_wp2_with fail
    all_goals go_meet
    all_goals first | exact ⟨_, _, rfl, rfl, HM1.out⟩ | exact ⟨_, _, rfl, rfl, HM2.out⟩
  case rest =>
    obtain ⟨ga, gb, rfl, rfl, M⟩ := hcut
    clear x0 x1 x2 x3 x4 x5 x6 x7 x8 x9 x10 x11 y0 y1 y2 y3 y4 y5 y6 y7 y8 y9 y10 y11 c0 c1 HM1 HM2
    obtain ⟨m0, m1, m2, m3, m4, _⟩ := ls_S M
    cases hp : lf true x y
    · have HPP := Lib.hid hp
      cases hq : lf true y x
      · have HQ := Lib.hid hq
        clear hp hq
        go_wp2_with fail
        go_region_held3 (fun w' => w'.cell? ⟨b, 1, none⟩ = some (.func (.func 31) #[] #[]) ∧ w'.cell? ⟨ga, 0, none⟩ = some (.int .i64 x.time) ∧ w'.cell? ⟨ga, 1, none⟩ = some (.int .i64 x.node) ∧ w'.cell? ⟨gb, 0, none⟩ = some (.int .i64 y.time) ∧ w'.cell? ⟨gb, 1, none⟩ = some (.int .i64 y.node) ∧ LsMid b (.func (.func 31) #[] #[]) ga gb x y w w') ((refine ls_S ?_; first | (with_reducible assumption) | exact ls_drew (by assumption) | exact ls_drew (ls_of (by assumption)))) (first | (go_at_call 31; (with_reducible refine (lessB x y _).mono ?_); rintro e w9 ⟨rfl, hb⟩; rw [HPP.out]; have g9 := ls_below hb (by first | assumption | exact ls_of (by assumption)); clear hb; obtain ⟨p9, q9, r9, s9, t9, _⟩ := ls_S g9))
        go_wp2_with fail
        go_region_held3 (fun w' => w'.cell? ⟨b, 1, none⟩ = some (.func (.func 31) #[] #[]) ∧ w'.cell? ⟨ga, 0, none⟩ = some (.int .i64 x.time) ∧ w'.cell? ⟨ga, 1, none⟩ = some (.int .i64 x.node) ∧ w'.cell? ⟨gb, 0, none⟩ = some (.int .i64 y.time) ∧ w'.cell? ⟨gb, 1, none⟩ = some (.int .i64 y.node) ∧ LsMid b (.func (.func 31) #[] #[]) ga gb x y w w') ((refine ls_S ?_; first | (with_reducible assumption) | exact ls_drew (by assumption) | exact ls_drew (ls_of (by assumption)))) (first | (go_at_call 31; (with_reducible refine (lessB y x _).mono ?_); rintro e w9 ⟨rfl, hb⟩; rw [HQ.out]; have g9 := ls_below hb (by first | assumption | exact ls_of (by assumption)); clear hb; obtain ⟨p9, q9, r9, s9, t9, _⟩ := ls_S g9))
        have Z := ls_of (by assumption)
        have z1 : w9.cell? ⟨ga, 11, none⟩ = some (.int .i64 x.came) := Z.a.cell (o := 11) rfl
        have z2 : w9.cell? ⟨gb, 11, none⟩ = some (.int .i64 y.came) := Z.b.cell (o := 11) rfl
        have HZ := Lib.hid Z.bel
        clear Z
        go_wp2
        go_ret
        exact ⟨by unfold mlt; rw [HPP.out, HQ.out]; rfl, HZ.out⟩
      · have HQ := Lib.hid hq
        clear hp hq
        go_wp2_with fail
        go_region_held3 (fun w' => w'.cell? ⟨b, 1, none⟩ = some (.func (.func 31) #[] #[]) ∧ w'.cell? ⟨ga, 0, none⟩ = some (.int .i64 x.time) ∧ w'.cell? ⟨ga, 1, none⟩ = some (.int .i64 x.node) ∧ w'.cell? ⟨gb, 0, none⟩ = some (.int .i64 y.time) ∧ w'.cell? ⟨gb, 1, none⟩ = some (.int .i64 y.node) ∧ LsMid b (.func (.func 31) #[] #[]) ga gb x y w w') ((refine ls_S ?_; first | (with_reducible assumption) | exact ls_drew (by assumption) | exact ls_drew (ls_of (by assumption)))) (first | (go_at_call 31; (with_reducible refine (lessB x y _).mono ?_); rintro e w9 ⟨rfl, hb⟩; rw [HPP.out]; have g9 := ls_below hb (by first | assumption | exact ls_of (by assumption)); clear hb; obtain ⟨p9, q9, r9, s9, t9, _⟩ := ls_S g9))
        go_wp2_with fail
        go_region_held3 (fun w' => w'.cell? ⟨b, 1, none⟩ = some (.func (.func 31) #[] #[]) ∧ w'.cell? ⟨ga, 0, none⟩ = some (.int .i64 x.time) ∧ w'.cell? ⟨ga, 1, none⟩ = some (.int .i64 x.node) ∧ w'.cell? ⟨gb, 0, none⟩ = some (.int .i64 y.time) ∧ w'.cell? ⟨gb, 1, none⟩ = some (.int .i64 y.node) ∧ LsMid b (.func (.func 31) #[] #[]) ga gb x y w w') ((refine ls_S ?_; first | (with_reducible assumption) | exact ls_drew (by assumption) | exact ls_drew (ls_of (by assumption)))) (first | (go_at_call 31; (with_reducible refine (lessB y x _).mono ?_); rintro e w9 ⟨rfl, hb⟩; rw [HQ.out]; have g9 := ls_below hb (by first | assumption | exact ls_of (by assumption)); clear hb; obtain ⟨p9, q9, r9, s9, t9, _⟩ := ls_S g9))
        have HZ := Lib.hid (ls_of (by assumption)).bel
        go_wp2
        go_ret
        exact ⟨by unfold mlt; rw [HPP.out, HQ.out]; rfl, HZ.out⟩
    · have HPP := Lib.hid hp
      clear hp
      go_wp2_with fail
      go_region_held3 (fun w' => w'.cell? ⟨b, 1, none⟩ = some (.func (.func 31) #[] #[]) ∧ w'.cell? ⟨ga, 0, none⟩ = some (.int .i64 x.time) ∧ w'.cell? ⟨ga, 1, none⟩ = some (.int .i64 x.node) ∧ w'.cell? ⟨gb, 0, none⟩ = some (.int .i64 y.time) ∧ w'.cell? ⟨gb, 1, none⟩ = some (.int .i64 y.node) ∧ LsMid b (.func (.func 31) #[] #[]) ga gb x y w w') ((refine ls_S ?_; first | (with_reducible assumption) | exact ls_drew (by assumption) | exact ls_drew (ls_of (by assumption)))) (first | (go_at_call 31; (with_reducible refine (lessB x y _).mono ?_); rintro e w9 ⟨rfl, hb⟩; rw [HPP.out]; have g9 := ls_below hb (by first | assumption | exact ls_of (by assumption)); clear hb; obtain ⟨p9, q9, r9, s9, t9, _⟩ := ls_S g9))
      have HZ := Lib.hid (ls_of (by assumption)).bel
      go_wp2
      go_ret
      exact ⟨by unfold mlt; rw [HPP.out]; rfl, HZ.out⟩
end Go.Proofs.Ythbalmoafpggdaa

/- Contracts of package fds: Open, on a table none of whose numbers was given back. -/
import Derived.Test.YtfcddpbpfckjfaaChecked
import Derived.WalkKit
import Derived.Outline
import Derived.WalkSpells
import Derived.WalkLawsBesides
import Derived.Deep.QuietTactic
import Derived.Deep.RegionWith
import Derived.Deep.DeepMust
import Derived.BigQuiet
import Derived.Test.YtfcddpbpfckjfaaMem
import Derived.RegionTactic
import Derived.ChangeAlike
import Derived.StillTailTactics
import Derived.BigRegion
import Derived.Deep.RegionHeld3
import Derived.Deep.RegionLaw
import Derived.Test.YtfcddpbpfckjfaaFds
namespace Go.Proofs.Ytfcddpbpfckjfaa
open Go.RowKit
set_option linter.unusedVariables false
set_option linter.unusedSimpArgs false
theorem wanted_go {ops : Array Oper} {o : Oper} {a : Act} {w : World} {K : Act → World → Prop} {P : Program} {Q : Exit → Act → World → Prop} {E : Prop} (hg : o.guard = none) (h : Oper.wp P o a w K Q) : if Region.wanted o (yielded ops a.tmps) = true then Oper.wp P o a w K Q else E := by
  have hw : Region.wanted o (yielded ops a.tmps) = true := by simp [Region.wanted, hg]
  rw [if_pos hw]; exact h
theorem below_drewN {B : Nat} {a w : World} (h : Below B a w) (n : Nat) : Below B a (w.drewN n) := ⟨h.os, h.tape, h.output, h.size, h.block⟩
theorem fd_app {w W w2 : World} {b : Nat} {v v2 : Value} {fs : List Fil} {f : Fil} (h : FdAt w b v fs) (hb : Below w.heap.size w W) (ho : w2.ownsRow b 85 5 v2 (fs.length + 1) (frow fs ++ filC f)) (hg : W.grownBy w2 v.ownBlock) :
    w2.cell? ⟨b, 0, none⟩ = some v ∧ w2.cell? ⟨b, 1, none⟩ = some (.slice none 0 0) ∧ w2.frozen? ⟨b, 0, none⟩ = false ∧ FdAt (w2.setCell ⟨b, 0, none⟩ v2) b v2 (fs ++ [f]) ∧ Below b w w2 ∧ b < w2.heap.size := by
  have hl := h.blk.lt
  have B1 : Blk W b #[v, .slice none 0 0] 89 := blkBelow hb h.blk hl
  have B2 : Blk w2 b #[v, .slice none 0 0] 89 := B1.of_eq (hg.block b B1.lt (fun e => h.ne e.symm))
  have hne : v2.ownBlock ≠ some b := by
    intro e
    rcases ho.2 with ⟨rfl, _⟩ | ⟨g, c, cur, rfl, _, h1, _⟩
    · cases e
    · injection e with e
      have e : g = b := e
      subst e
      unfold Blk at B2
      rw [B2] at h1
      injection h1 with h1
      injection h1 with _ h1
      exact absurd h1 (by decide)
  have hge : ∀ k, v.ownBlock = some k → b ≤ k := by
    intro k e
    rcases h.own.2 with ⟨rfl, _⟩ | ⟨g, c, cur, rfl, h1, _⟩
    · cases e
    · injection e with e
      have e : g = k := e
      omega
  refine ⟨B2.cell (o := 0) rfl, B2.cell (o := 1) rfl, B2.free 0, ⟨?_, ?_, hne⟩, (hb.mono (by omega)).grown hg (by have := B1.lt; omega) hge, B2.lt⟩
  · have := B2.set 0 v2
    simpa using this
  · have := ownsRow_setCell_other ho (a := ⟨b, 0, none⟩) hne v2
    rw [frow_snoc]
    simpa using this
theorem fdOpen (b : Nat) (v : Value) (fs : List Fil) (t n fl : Int) (w : World) (h : FdAt w b v fs) (hl : fs.length < 32) : Calls Try.prog 11 #[.pointer (some ⟨b, 0, none⟩), .agg #[.int .i64 t, .int .i64 n], .int .i64 fl] w fun e w' => e = .returned (.tuple #[.int .i64 fs.length, .int .i64 0]) ∧ ∃ v', FdAt w' b v' (fs ++ [⟨t, n, fl, 0, true⟩]) ∧ Below b w w' := by
  have K := fun w' hw => Lib.hid (fdRoom b v fs w' (h.below hw))
  have c0 : w.cell? ⟨b, 0, none⟩ = some v := h.blk.cell (o := 0) rfl
  have c1 : w.cell? ⟨b, 1, none⟩ = some (.slice none 0 0) := h.blk.cell (o := 1) rfl
  have hz := h.blk.lt
  have hd : decide (fs.length < 32) = true := by simpa using hl
  have H := Lib.hid h
  obtain ⟨va, vc, rfl, hv1, hv2, _⟩ := own_shp h.own

  have x0 : ∀ k o o' o'', ((((w.alloc o).drewN k).alloc o').alloc o'').cell? ⟨b, 0, none⟩ = some (.slice va fs.length vc) := fun k o o' o'' => (((h.blk.alloc o).drewN k).alloc o' |>.alloc o'').cell (o := 0) rfl
  clear h
  obtain ⟨i0, hi, hi2⟩ := Option.map_eq_some_iff.1 Fd.info
  simp only [Prod.mk.injEq] at hi2
  obtain ⟨hz0, hz1, hz2⟩ := hi2
  go_enter Try.func11, Try.ntmps11
  go_wp2_with fail
  refine (K _ ?hB).out.mono ?_
  case hB => exact (Below.refl _ _).alloc (Nat.le_refl _) _
  rintro e w1 ⟨rfl, k, rfl⟩
  rw [hd]
  go_wp2_with fail
  go_region_law ((refine wanted_go rfl ?_); (refine wp_append_own _ (.tmp 40) (.tmp 42) 86 rfl b 85 i0 _ 5 40 Try.underlying86 hi hz0 hz1 hz2 rfl (Nat.zero_lt_succ 4) (.slice va fs.length vc) fs.length (frow fs) rfl (ownsRow_below H.out.own ?_) ⟨w.heap.size + 1 + 1, 0, none⟩ 1 1 [.int .i64 t, .int .i64 n, .int .i64 fl, .int .i64 0, .bool true] rfl rfl ?_ ?_ ?_ ?_ ?_ ?_); (case _ => (repeat first | exact Below.refl _ _ | refine Below.drew ?_ | refine below_drewN ?_ _ | refine Below.alloc ?_ (by simp <;> omega) _ | refine Below.setCell ?_ (by simp) _)); (case _ => (intro j u hu; rcases j with _ | _ | _ | _ | _ | j <;> simp at hu <;> subst hu <;> simp [Addr.add, go_sem, *])); (case _ => simp [Value.oneCell']); (case _ => (unfold maxLen; omega)); (case _ => omega); (case _ => (simp <;> omega)); (intro v2 w2 ho2 hg2 _); (obtain ⟨d0, d1, d2, d3, d4, d5⟩ := fd_app H.out (by (repeat first | exact Below.refl _ _ | refine Below.drew ?_ | refine below_drewN ?_ _ | refine Below.alloc ?_ (by simp <;> omega) _ | refine Below.setCell ?_ (by simp) _)) (f := ⟨t, n, fl, 0, true⟩) ho2 hg2); (obtain ⟨a2, c2, rfl, e1, e2, _⟩ := own_shp ho2); (have D3 := Lib.hid d3); (have D4 := Lib.hid d4); clear d3 d4 ho2 hg2)
  all_goals go_wp2
  all_goals go_ret2
  all_goals exact ⟨rfl, _, D3.out, Below.setCell D4.out (Nat.le_refl _) _⟩
theorem fdOpenFull (b : Nat) (v : Value) (fs : List Fil) (t n fl : Int) (w : World) (h : FdAt w b v fs) (hl : fs.length = 32) : Calls Try.prog 11 #[.pointer (some ⟨b, 0, none⟩), .agg #[.int .i64 t, .int .i64 n], .int .i64 fl] w fun e w' => e = .returned (.tuple #[.int .i64 0, .int .i64 23]) ∧ Below w.heap.size w w' := by
  have K := fun w' hw => Lib.hid (fdRoom b v fs w' (h.below hw))
  have hd : decide (fs.length < 32) = false := by simp [hl]
  clear h hl
  go_enter Try.func11, Try.ntmps11
  go_wp2_with fail
  refine (K _ ?hB).out.mono ?_
  case hB => exact (Below.refl _ _).alloc (Nat.le_refl _) _
  rintro e w1 ⟨rfl, k, rfl⟩
  rw [hd]
  go_wp2
  go_ret2
  exact ⟨rfl, by (repeat first | exact Below.refl _ _ | refine Below.drew ?_ | refine below_drewN ?_ _ | refine Below.alloc ?_ (by simp <;> omega) _ | refine Below.setCell ?_ (by simp) _)⟩
theorem fd_one {w : World} {b : Nat} {v : Value} {f : Fil} (h : FdAt w b v [f]) : ∃ g c cur, v = .slice (some ⟨g, 0, none⟩) 1 c ∧ b < g ∧ g < w.heap.size ∧ 1 ≤ c ∧ c ≤ 9223372036854775807 ∧ Blk w g cur 85 ∧ cur.size = c * 5 ∧ cur.toList.take 5 = filC f := by
  rcases h.own.2 with ⟨_, h0⟩ | ⟨g, c, cur, rfl, h1, h2, h3, h4, h5, h6⟩
  · cases h0
  · have hne : g ≠ b := fun e => h.ne (by rw [e]; rfl)
    exact ⟨g, c, cur, rfl, by omega, lt_of_block h2, h3, by unfold maxLen at h4; omega, h2, h5, by simpa [frow] using h6⟩
theorem fd_cells {w : World} {g c : Nat} {cur : Array Value} {f : Fil} (h : Blk w g cur 85) (ht : cur.toList.take 5 = filC f) :
    w.cell? ⟨g, 0, none⟩ = some (.int .i64 f.time) ∧ w.cell? ⟨g, 1, none⟩ = some (.int .i64 f.node) ∧ w.cell? ⟨g, 2, none⟩ = some (.int .i64 f.flags) ∧ w.cell? ⟨g, 3, none⟩ = some (.int .i64 f.at_) ∧ w.cell? ⟨g, 4, none⟩ = some (.bool f.op) := by
  have k : ∀ j u, j < 5 → (filC f)[j]? = some u → cur[j]? = some u := by
    intro j u hj hu
    rw [← ht, List.getElem?_take_of_lt hj] at hu
    simpa using hu
  exact ⟨h.cell (k 0 _ (by omega) rfl), h.cell (k 1 _ (by omega) rfl), h.cell (k 2 _ (by omega) rfl), h.cell (k 3 _ (by omega) rfl), h.cell (k 4 _ (by omega) rfl)⟩
theorem fdFind1 (b : Nat) (v : Value) (f : Fil) (w : World) (h : FdAt w b v [f]) (ho : f.op = true) : ∃ g, v.ownBlock = some g ∧ Calls Try.prog 51 #[.pointer (some ⟨b, 0, none⟩), .int .i64 0] w fun e w' => e = .returned (.pointer (some ⟨g, 0, none⟩)) ∧ Drw w w' := by
  have c0 : w.cell? ⟨b, 0, none⟩ = some v := h.blk.cell (o := 0) rfl
  have hz := h.blk.lt
  obtain ⟨g, c, cur, rfl, hbg, hg, h1, h2, hbk, _, ht⟩ := fd_one h
  obtain ⟨_, _, _, _, k4⟩ := fd_cells (c := c) hbk ht
  rw [ho] at k4
  clear h hbk ht ho
  refine ⟨g, rfl, ?_⟩
  go_enter Try.func51, Try.ntmps51
  go_wp2
  go_ret
  exact ⟨rfl, 0, rfl⟩
theorem fd_set1 {w : World} {b g : Nat} {v : Value} {f : Fil} (h : FdAt w b v [f]) (hv : v.ownBlock = some g) (n : Int) : FdAt (w.setCell ⟨g, 3, none⟩ (.int .i64 n)) b v [{f with at_ := n}] := by
  obtain ⟨g', c, cur, rfl, hbg, hg, h1, h2, hbk, hs, ht⟩ := fd_one h
  injection hv with hv
  have hv : g' = g := hv
  subst hv
  refine ⟨h.blk.set_ne (by show b ≠ g'; omega) _, ⟨by simp [frow, filC], .inr ⟨g', c, cur.setIfInBounds 3 (.int .i64 n), rfl, by omega, hbk.set 3 _, h1, by unfold maxLen; omega, by simpa using hs, ?_⟩⟩, h.ne⟩
  have : (cur.setIfInBounds 3 (.int .i64 n)).toList.take 5 = (filC f).set 3 (.int .i64 n) := by
    rw [Array.toList_setIfInBounds, List.take_set, ht]
  simpa [frow, filC] using this
theorem fdSeek1 (b : Nat) (v : Value) (f : Fil) (w : World) (h : FdAt w b v [f]) (ho : f.op = true) : Calls Try.prog 16 #[.pointer (some ⟨b, 0, none⟩), .int .i64 0, .int .i64 9] w fun e w' => e = .returned (.int .i64 0) ∧ FdAt w' b v [{f with at_ := 9}] ∧ Below b w w' := by
  obtain ⟨g, hg, K⟩ := fdFind1 b v f w h ho
  obtain ⟨g', c, cur, rfl, hbg, hgl, h1, h2, hbk, hs, ht⟩ := fd_one h
  injection hg with hg
  have hg : g' = g := hg
  subst hg
  obtain ⟨k0, k1, k2, k3, k4⟩ := fd_cells (c := c) hbk ht
  have kf := hbk.free 3
  have K := Lib.hid K
  have HF := Lib.hid (fd_set1 h rfl 9)
  clear h hbk ht ho hs
  go_enter Try.func16, Try.ntmps16
  go_wp2_with fail
  refine K.out.mono ?_
  rintro e w1 ⟨rfl, k, rfl⟩
  go_wp2
  go_ret
  exact ⟨rfl, HF.out.below (Drw.below ⟨k, rfl⟩), Below.setCell (below_drewN (Below.refl _ _) _) (by show b ≤ g'; omega) _⟩
theorem fdGet1 (b : Nat) (v : Value) (f : Fil) (w : World) (h : FdAt w b v [f]) (ho : f.op = true) : Calls Try.prog 12 #[.pointer (some ⟨b, 0, none⟩), .int .i64 0] w fun e w' => e = .returned (.tuple #[.agg #[.int .i64 f.time, .int .i64 f.node], .int .i64 f.flags, .int .i64 f.at_, .int .i64 0]) ∧ Below w.heap.size w w' := by
  have K := fun w' (hw : Below w.heap.size w w') => Lib.hid (fdFind1 b v f w' (h.below hw) ho)
  obtain ⟨g, c, cur, rfl, hbg, hgl, h1, h2, hbk, hs, ht⟩ := fd_one h
  obtain ⟨k0, k1, k2, k3, k4⟩ := fd_cells (c := c) hbk ht
  clear h hbk ht hs
  go_enter Try.func12, Try.ntmps12
  go_wp2_with fail
  obtain ⟨g2, hg2, K2⟩ := (K _ ((Below.refl _ _).alloc (Nat.le_refl _) _)).out
  injection hg2 with hg2
  have hg2 : g = g2 := hg2
  subst hg2
  refine K2.mono ?_
  rintro e w1 ⟨rfl, k, rfl⟩
  clear K2
  go_wp2_with fail
  go_region
  all_goals go_wp2
  all_goals exact bodyPost_ret (v := .tuple #[.agg #[.int .i64 f.time, .int .i64 f.node], .int .i64 f.flags, .int .i64 f.at_, .int .i64 0]) (by simp [results, Try.results12, go_sem]) rfl ⟨rfl, by (repeat first | exact Below.refl _ _ | refine Below.drew ?_ | refine below_drewN ?_ _ | refine Below.alloc ?_ (by simp <;> omega) _ | refine Below.setCell ?_ (by simp) _)⟩
end Go.Proofs.Ytfcddpbpfckjfaa

/- fds.free as a heap: Push and Pop. -/
import Derived.Test.YtfcddpbpfckjfaaChecked
import Derived.WalkKit
import Derived.Outline
import Derived.WalkSpells
import Derived.WalkLawsBesides
import Derived.Deep.QuietTactic
import Derived.Deep.RegionWith
import Derived.Deep.DeepMust
import Derived.BigQuiet
import Derived.Test.YtfcddpbpfckjfaaMem
import Derived.RegionTactic
import Derived.ChangeAlike
import Derived.StillTailTactics
import Derived.BigRegion
import Derived.Deep.RegionHeld3
import Derived.Deep.RegionLaw
import Derived.Deep.AppendLies
import Derived.Test.YtfcddpbpfckjfaaFg
namespace Go.Proofs.Ytfcddpbpfckjfaa
open Go.RowKit
set_option linter.unusedVariables false
set_option linter.unusedSimpArgs false
theorem step_append_lies' {P : Program} {ops : Array Oper} {o : Oper} {a : Act} {w : World} {K : Act → World → Prop} {Q : Exit → Act → World → Prop} {E : Prop} (hg : o.guard = none) (h : Oper.wp P o a w K Q) : if Region.wanted o (yielded ops a.tmps) = true then Oper.wp P o a w K Q else E := wanted_go hg h
theorem ta_int (n : Int) (w : World) : (Instr.typeAssert (.iface 3 (.int .i64 n)) 20 3 false).run Try.prog w = .ok (.int .i64 n) w := by kernel_rfl
def FPushPost (b : Nat) (v cv : Value) (fs : List Fil) (xs : Array Int) (w : World) (e : Ending) (w' : World) : Prop :=
  e = .returned (.tuple #[]) ∧ ∃ g c, FdG w' b v (.slice (some ⟨g, 0, none⟩) xs.size c) fs xs ∧ Chg (FdS b v cv) w w' ∧ (cv.ownBlock = some g ∨ w.heap.size ≤ g)
theorem fg_app {w W w2 : World} {b g c k : Nat} {v cv : Value} {fs : List Fil} {xs : Array Int} {n : Int} (h : FdG w b v cv fs xs) (hb : Below w.heap.size w W)
    (ho : w2.ownsRow b 3 1 (.slice (some ⟨g, 0, none⟩) (xs.size + 1) c) (xs.size + 1) (xs.toList.map n64 ++ [.int .i64 n])) (hg : W.grownBy w2 cv.ownBlock) (hk : W.heap.size = k) (hw : cv.ownBlock = some g ∨ g = k) :
    w2.cell? ⟨b, 1, none⟩ = some cv ∧ w2.frozen? ⟨b, 1, none⟩ = false ∧ b < w2.heap.size ∧ FdG (w2.setCell ⟨b, 1, none⟩ (.slice (some ⟨g, 0, none⟩) (xs.size + 1) c)) b v (.slice (some ⟨g, 0, none⟩) (xs.push n).size c) fs (xs.push n) ∧
      Chg (FdS b v cv) w (w2.setCell ⟨b, 1, none⟩ (.slice (some ⟨g, 0, none⟩) (xs.size + 1) c)) ∧ (cv.ownBlock = some g ∨ w.heap.size ≤ g) := by
  have hl := h.blk.lt
  have B1 : Blk W b #[v, cv] 89 := blkBelow hb h.blk hl
  have B2 : Blk w2 b #[v, cv] 89 := B1.of_eq (hg.block b B1.lt (fun e => h.cne e.symm))
  have hw' : cv.ownBlock = some g ∨ w.heap.size ≤ g := by
    rcases hw with hw | hw
    · exact .inl hw
    · right; have := hb.size; omega
  have C1 : Chg (FdS b v cv) w w2 := (Chg.of_below hb (fun i hi hn => by omega)).grown hg (fun k hk _ => .inr (.inr hk))
  have hgb : b ≠ g := by
    rcases hw' with e | e
    · intro e'; exact h.cne (by rw [e, e'])
    · omega
  have O2 : w2.ownsRow b 85 5 v fs.length (frow fs) := by
    have O1 := ownsRow_below h.own hb
    refine ownsRow_chg O1 (S := fun k => cv.ownBlock = some k) ((Chg.refl _ _).grown hg (fun k e _ => e)) (fun k e => ?_)
    exact h.apart e
  refine ⟨B2.cell (o := 1) rfl, B2.free 1, B2.lt, ⟨?_, ?_, ?_⟩, C1.set (fun _ => .inl rfl) _, hw'⟩
  · have := B2.set 1 (.slice (some ⟨g, 0, none⟩) (xs.size + 1) c)
    simpa using this
  · refine ownsRow_setCell_other O2 (a := ⟨b, 1, none⟩) ?_ _
    intro e
    exact h.ne e
  · have e : (xs.push n).toList.map n64 = xs.toList.map n64 ++ [.int .i64 n] := by simp
    rw [e, Array.size_push]
    refine ownsRow_setCell_other ho (a := ⟨b, 1, none⟩) ?_ _
    intro e
    injection e with e
    exact hgb e.symm
set_option maxRecDepth 100000 in
theorem fPush (b : Nat) (v cv : Value) (fs : List Fil) (xs : Array Int) (n : Int) (w : World) (h : FdG w b v cv fs xs) (hz : xs.size ≤ 1000) :
    Calls Try.prog 160 #[.pointer (some ⟨b, 1, none⟩), .iface 3 (.int .i64 n)] w (FPushPost b v cv fs (xs.push n) w) := by
  obtain ⟨i0, hi, hz0, hz1, hz2⟩ := info_parts In.info
  have c1 : w.cell? ⟨b, 1, none⟩ = some cv := h.blk.cell (o := 1) rfl
  have hl := h.blk.lt
  have H := Lib.hid h
  obtain ⟨va, vc, rfl, hv1, hv2, _⟩ := own_shp h.cown
  clear h
  have ta := ta_int n
  go_enter Try.func160, Try.ntmps160
  go_wp2
  go_region_law ((refine wanted_go rfl ?_); (refine wp_append_lies _ (.tmp 7) (.tmp 10) 87 rfl b 3 i0 _ 1 8 Try.underlying87 hi hz0 hz1 hz2 rfl (Nat.zero_lt_succ 0) (.slice va xs.size vc) xs.size (xs.toList.map n64) rfl (ownsRow_below H.out.cown ?_) ⟨w.heap.size, 0, none⟩ 1 1 [.int .i64 n] rfl rfl ?_ ?_ (Nat.zero_lt_succ 0) ?_ ?_ ?_ (w.heap.size + 1) ?_ ?_); (case _ => (repeat first | exact Below.refl _ _ | refine Below.drew ?_ | refine below_drewN ?_ _ | refine Below.alloc ?_ (by simp <;> omega) _ | refine Below.setCell ?_ (by simp) _)); (case _ => (intro j u hu; rcases j with _ | j <;> simp at hu <;> subst hu <;> simp [Addr.add, go_sem, *])); (case _ => simp [Value.oneCell']); (case _ => (unfold maxLen; omega)); (case _ => omega); (case _ => (simp <;> omega)); (case _ => (simp; done)); (intro g2 c2 w2 ho2 hg2 ha2 _); (obtain ⟨d0, d1, d2, d3, d4, d5⟩ := fg_app H.out (by (repeat first | exact Below.refl _ _ | refine Below.drew ?_ | refine below_drewN ?_ _ | refine Below.alloc ?_ (by simp <;> omega) _ | refine Below.setCell ?_ (by simp) _)) ho2 hg2 (by simp) ha2); (have D3 := Lib.hid d3); (have D4 := Lib.hid d4); (have D5 := Lib.hid d5); clear d3 d4 d5 ho2 hg2 ha2)
  all_goals go_wp2
  all_goals go_end0
  all_goals exact ⟨rfl, _, _, D3.out, D4.out, D5.out⟩
theorem FdG.pop {w : World} {b g c n : Nat} {v : Value} {fs : List Fil} {xs : Array Int} (h : FdG w b v (.slice (some ⟨g, 0, none⟩) xs.size c) fs xs) (hn : n + 1 = xs.size) : FdG (w.setCell ⟨b, 1, none⟩ (.slice (some ⟨g, 0, none⟩) n c)) b v (.slice (some ⟨g, 0, none⟩) xs.pop.size c) fs xs.pop := by
  obtain ⟨h1, h2, h3, h4, cur, h5, h6, h7, h8⟩ := h.cell
  have hs : xs.pop.size = n := by simp; omega
  rw [hs]
  refine ⟨?_, ?_, ?_⟩
  · have := h.blk.set 1 (.slice (some ⟨g, 0, none⟩) n c)
    simpa using this
  · exact ownsRow_setCell_other h.own (a := ⟨b, 1, none⟩) h.ne _
  · refine ⟨by simp, .inr ⟨g, c, cur, by rw [hs], by omega, h5.set_ne (by show g ≠ b; omega) _, by omega, by unfold maxLen; omega, by rw [Nat.mul_one]; exact h6, ?_⟩⟩
    rw [hs, Nat.mul_one]
    have : cur.toList.take n = (cur.toList.take xs.size).take n := by rw [List.take_take]; congr 1; omega
    rw [this, h7, ← List.map_take, Array.toList_pop, List.dropLast_eq_take, Array.length_toList, show xs.size - 1 = n by omega]
def IntV (w : World) (v : Value) (a : Int) : Prop := v = .iface 3 (.int .i64 a)
set_option maxRecDepth 100000 in
theorem fPop (b g c : Nat) (v : Value) (fs : List Fil) (xs : Array Int) (n : Nat) (w : World) (h : FdG w b v (.slice (some ⟨g, 0, none⟩) xs.size c) fs xs) (hn : n + 1 = xs.size) :
    Calls Try.prog 159 #[.pointer (some ⟨b, 1, none⟩)] w (PopMid IntV (FrR b g c v fs) (FdS b v (.slice (some ⟨g, 0, none⟩) xs.size c)) xs n w) := by
  have c1 : w.cell? ⟨b, 1, none⟩ = some (.slice (some ⟨g, 0, none⟩) xs.size c) := h.blk.cell (o := 1) rfl
  have f1 := h.blk.free 1
  have hl := h.blk.lt
  obtain ⟨h1, h2, h3, h4, cur, h5, h6, h7, h8⟩ := h.cell
  have cn : w.cell? ⟨g, n, none⟩ = some (.int .i64 xs[n]!) := h5.cell (h8 n (by omega))
  have H := Lib.hid (h.pop hn)
  have hk : (xs.size : Int) - 1 = (n : Int) := by omega
  have hn1 : n < xs.size := by omega
  have hn2 : (0 : Int) ≤ n := by omega
  have hn3 : (n : Int) < xs.size := by omega
  clear h h5 h6 h7 h8 hn
  generalize hy : xs[n]! = y at *
  have HY := Lib.hid hy
  clear hy
  go_enter Try.func159, Try.ntmps159
  go_wp2
  go_ret
  exact ⟨_, rfl, by rw [HY.out]; rfl, H.out, Chg.set (S := FdS b v (.slice (some ⟨g, 0, none⟩) xs.size c)) (Chg.refl _ w) (p := ⟨b, 1, none⟩) (fun _ => .inl rfl) _⟩
end Go.Proofs.Ytfcddpbpfckjfaa

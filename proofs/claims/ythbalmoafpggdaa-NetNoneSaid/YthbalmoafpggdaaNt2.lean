/- A net: its heap's Push and Pop. -/
import Derived.Test.YthbalmoafpggdaaChecked
import Derived.WalkKit
import Derived.Outline
import Derived.WalkSpells
import Derived.WalkLawsBesides
import Derived.Deep.QuietTactic
import Derived.Deep.RegionWith
import Derived.Deep.DeepMust
import Derived.BigQuiet
import Derived.Test.YthbalmoafpggdaaMem
import Derived.RegionTactic
import Derived.ChangeAlike
import Derived.StillTailTactics
import Derived.BigRegion
import Derived.Deep.LoopGhost
import Derived.Deep.RegionHeld3
import Derived.Deep.RegionLaw
import Derived.Deep.AppendLies
import Derived.Test.YthbalmoafpggdaaNt
namespace Go.Proofs.Ythbalmoafpggdaa
open Go.RowKit
set_option linter.unusedVariables false
set_option linter.unusedSimpArgs false
theorem below_drewN {B : Nat} {a w : World} (h : Below B a w) (n : Nat) : Below B a (w.drewN n) := ⟨h.os, h.tape, h.output, h.size, h.block⟩
theorem wanted_go {ops : Array Oper} {o : Oper} {a : Act} {w : World} {K : Act → World → Prop} {P : Program} {Q : Exit → Act → World → Prop} {E : Prop} (hg : o.guard = none) (h : Oper.wp P o a w K Q) : if Region.wanted o (yielded ops a.tmps) = true then Oper.wp P o a w K Q else E := by
  have hw : Region.wanted o (yielded ops a.tmps) = true := by simp [Region.wanted, hg]
  rw [if_pos hw]; exact h
theorem own_shape {w : World} {B e s : Nat} {v : Value} {n : Nat} {xs : List Value} (h : w.ownsRow B e s v n xs) : ∃ a c, v = .slice a n c ∧ n ≤ c ∧ c ≤ 9223372036854775807 ∧ (∀ x, a = some x → ∃ g, x = ⟨g, 0, none⟩) := by
  rcases h.2 with ⟨rfl, rfl⟩ | ⟨g, c, cur, rfl, _, _, h1, h2, _⟩
  · exact ⟨none, 0, rfl, Nat.le_refl _, by omega, fun x h => by cases h⟩
  · exact ⟨_, _, rfl, h1, by unfold maxLen at h2; omega, fun x h => by injection h with h; exact ⟨g, h.symm⟩⟩
theorem ta_way (p : Nat) (w : World) : (Instr.typeAssert (.iface 120 (.pointer (some ⟨p, 0, none⟩))) 20 120 false).run Try.prog w = .ok (.pointer (some ⟨p, 0, none⟩)) w := by kernel_rfl
theorem ng_app {w W w2 : World} {nb g c k : Nat} {room came : Int} {lv : Value} {xs : List Wy} {x : Wy} (h : NetG w nb room came lv xs) (hx : Blk w x.p (wyC x) 124) (hb : Below w.heap.size w W)
    (ho : w2.ownsRow nb 120 1 (.slice (some ⟨g, 0, none⟩) (xs.length + 1) c) (xs.length + 1) (xs.map wyP ++ [.pointer (some ⟨x.p, 0, none⟩)])) (hg : W.grownBy w2 lv.ownBlock) (hk : W.heap.size = k) (hw : lv.ownBlock = some g ∨ g = k) :
    w2.cell? ⟨nb, 1, none⟩ = some lv ∧ w2.frozen? ⟨nb, 1, none⟩ = false ∧ nb < w2.heap.size ∧ NetG (w2.setCell ⟨nb, 1, none⟩ (.slice (some ⟨g, 0, none⟩) (xs.length + 1) c)) nb room came (.slice (some ⟨g, 0, none⟩) (xs.length + 1) c) (xs ++ [x]) ∧
      Chg (NS nb lv) w (w2.setCell ⟨nb, 1, none⟩ (.slice (some ⟨g, 0, none⟩) (xs.length + 1) c)) := by
  have hl := h.blk.lt
  have H1 := h.below hb
  have HX := blkBelow hb hx hx.lt
  have hgc : Chg (fun k => lv.ownBlock = some k) W w2 := (Chg.refl _ _).grown hg (fun _ e _ => e)
  have B2 : Blk w2 nb #[.int .i64 room, lv, .int .i64 came] 130 := hgc.blk H1.blk H1.ne
  have hgb : nb ≠ g := by
    rcases hw with e | e
    · intro e'; exact h.ne (by rw [e, e'])
    · have := H1.blk.lt; omega
  have C1 : Chg (NS nb lv) w w2 := (Chg.of_below hb (fun i hi hn => by omega)).grown hg (fun k hk _ => .inr hk)
  have far : ∀ {p cs}, Blk W p cs 124 → Blk (w2.setCell ⟨nb, 1, none⟩ (.slice (some ⟨g, 0, none⟩) (xs.length + 1) c)) p cs 124 := fun {p cs} hp => by
    have h2 := hgc.blk hp (fun e => by obtain ⟨_, cur, h3⟩ := own_typ H1.own e; exact blk_ne h3 (by decide) hp)
    exact h2.set_ne (by show p ≠ nb; rintro rfl; exact blk_ne h2 (by decide) B2) _
  refine ⟨B2.cell (o := 1) rfl, B2.free 1, B2.lt, ⟨?_, ?_, ?_⟩, C1.set (fun _ => .inl rfl) _⟩
  · have := B2.set 1 (.slice (some ⟨g, 0, none⟩) (xs.length + 1) c)
    simpa using this
  · rw [List.map_append, List.length_append]
    refine ownsRow_setCell_other ho (a := ⟨nb, 1, none⟩) ?_ _
    intro e
    injection e with e
    exact hgb e.symm
  · intro y hy
    rcases List.mem_append.1 hy with hy | hy
    · exact far (H1.way y hy)
    · simp only [List.mem_singleton] at hy
      subst hy
      exact far HX
def NPush (nb : Nat) (room came : Int) (lv : Value) (xs : List Wy) (w : World) (e : Ending) (w' : World) : Prop := e = .returned (.tuple #[]) ∧ ∃ g c, NetG w' nb room came (.slice (some ⟨g, 0, none⟩) xs.length c) xs ∧ Chg (NS nb lv) w w' ∧ (lv.ownBlock = some g ∨ w.heap.size ≤ g)
set_option maxRecDepth 100000 in
theorem nPush (nb : Nat) (room came : Int) (lv : Value) (xs : List Wy) (x : Wy) (w : World) (h : NetG w nb room came lv xs) (hx : Blk w x.p (wyC x) 124) (hz : xs.length ≤ 1000) :
    Calls Try.prog 168 #[.pointer (some ⟨nb, 1, none⟩), .iface 120 (.pointer (some ⟨x.p, 0, none⟩))] w (NPush nb room came lv (xs ++ [x]) w) := by
  obtain ⟨i0, hi, hz0, hz1, hz2⟩ := info_parts Wy.info
  have c1 : w.cell? ⟨nb, 1, none⟩ = some lv := h.blk.cell (o := 1) rfl
  have hl := h.blk.lt
  have H := Lib.hid h
  have HX := Lib.hid hx
  obtain ⟨va, vc, rfl, hv1, hv2, _⟩ := own_shape h.own
  clear h hx
  have ta := ta_way x.p
  unfold NPush
  rw [List.length_append]
  go_enter Try.func168, Try.ntmps168
  go_wp2
  go_region_law ((refine wanted_go rfl ?_); (refine wp_append_lies _ (.tmp 7) (.tmp 10) 128 rfl nb 120 i0 _ 1 8 Try.underlying128 hi hz0 hz1 hz2 rfl (Nat.zero_lt_succ 0) (.slice va xs.length vc) xs.length (xs.map wyP) rfl (ownsRow_below H.out.own ?_) ⟨w.heap.size, 0, none⟩ 1 1 [.pointer (some ⟨x.p, 0, none⟩)] rfl rfl ?_ ?_ (Nat.zero_lt_succ 0) ?_ ?_ ?_ (w.heap.size + 1) ?_ ?_); (case _ => (repeat first | exact Below.refl _ _ | refine Below.drew ?_ | refine below_drewN ?_ _ | refine Below.alloc ?_ (by simp <;> omega) _ | refine Below.setCell ?_ (by simp) _)); (case _ => (intro j u hu; rcases j with _ | j <;> simp at hu <;> subst hu <;> simp [Addr.add, go_sem, *])); (case _ => simp [Value.oneCell']); (case _ => (unfold maxLen; omega)); (case _ => omega); (case _ => (simp <;> omega)); (case _ => (simp; done)); (intro g2 c2 w2 ho2 hg2 ha2 _); (obtain ⟨d0, d1, d2, d3, d4⟩ := ng_app H.out HX.out (by (repeat first | exact Below.refl _ _ | refine Below.drew ?_ | refine below_drewN ?_ _ | refine Below.alloc ?_ (by simp <;> omega) _ | refine Below.setCell ?_ (by simp) _)) ho2 hg2 (by simp) ha2); (have D3 := Lib.hid d3); (have D4 := Lib.hid d4); (have D5 := Lib.hid ha2); clear d3 d4 ho2 hg2 ha2)
  all_goals go_wp2
  all_goals go_end0
  all_goals exact ⟨rfl, _, _, D3.out, D4.out, D5.out.imp id (fun e => by omega)⟩
theorem own_cells {w : World} {B g n c : Nat} {T : TypeId} {xs : List Value} (h : w.ownsRow B T 1 (.slice (some ⟨g, 0, none⟩) n c) n xs) : B ≤ g ∧ g < w.heap.size ∧ n ≤ c ∧ c ≤ 9223372036854775807 ∧ ∃ cur, Blk w g cur T ∧ cur.size = c ∧ cur.toList.take n = xs := by
  rcases h.2 with ⟨e, _⟩ | ⟨g', c', cur, e, h1, h2, h3, h4, h5, h6⟩
  · cases e
  · injection e with e1 e2 e3
    injection e1 with e1
    injection e1 with e1
    subst e1
    subst e3
    rw [Nat.mul_one] at h5 h6
    exact ⟨h1, lt_of_block h2, h3, by unfold maxLen at h4; omega, cur, h2, h5, h6⟩
theorem cur_at {cur : Array Value} {n i : Nat} {xs : List Value} {x : Value} (h : cur.toList.take n = xs) (hx : xs[i]? = some x) : cur[i]? = some x := by
  have hi : i < n := by
    rcases Nat.lt_or_ge i n with h' | h'
    · exact h'
    · rw [← h, List.getElem?_eq_none (by simp; omega)] at hx; cases hx
  rw [← h, List.getElem?_take_of_lt hi] at hx
  simpa using hx
/-- The last one taken off. -/
theorem NetG.pop {w : World} {nb g c : Nat} {room came : Int} {xs : List Wy} {x : Wy} (h : NetG w nb room came (.slice (some ⟨g, 0, none⟩) (xs.length + 1) c) (xs ++ [x])) : NetG (w.setCell ⟨nb, 1, none⟩ (.slice (some ⟨g, 0, none⟩) xs.length c)) nb room came (.slice (some ⟨g, 0, none⟩) xs.length c) xs := by
  have ho := h.own
  rw [List.length_append] at ho
  obtain ⟨h1, h2, h3, h4, cur, h5, h6, h7⟩ := own_cells ho
  have hne : g ≠ nb := fun e => h.ne (by rw [e]; rfl)
  refine ⟨?_, ?_, fun y hy => ?_⟩
  · have := h.blk.set 1 (.slice (some ⟨g, 0, none⟩) xs.length c)
    simpa using this
  · refine ⟨by simp, .inr ⟨g, c, cur, rfl, h1, h5.set_ne (by show g ≠ nb; exact hne) _, by omega, by unfold maxLen; omega, by rw [Nat.mul_one]; exact h6, ?_⟩⟩
    rw [Nat.mul_one]
    have : cur.toList.take xs.length = (cur.toList.take (xs.length + 1)).take xs.length := by rw [List.take_take]; congr 1; omega
    rw [this, h7, List.map_append, List.take_left' (by simp)]
  · have hy' := h.way y (List.mem_append_left _ hy)
    exact hy'.set_ne (by show y.p ≠ nb; intro e; rw [e] at hy'; exact blk_ne hy' (by decide) h.blk) _
set_option maxRecDepth 100000 in
theorem nPop (nb g c : Nat) (room came : Int) (xs : List Wy) (x : Wy) (w : World) (h : NetG w nb room came (.slice (some ⟨g, 0, none⟩) (xs.length + 1) c) (xs ++ [x])) :
    Calls Try.prog 167 #[.pointer (some ⟨nb, 1, none⟩)] w fun e w' => e = .returned (.iface 120 (wyP x)) ∧ NetG w' nb room came (.slice (some ⟨g, 0, none⟩) xs.length c) xs ∧ Chg (· = nb) w w' := by
  have c1 : w.cell? ⟨nb, 1, none⟩ = some (.slice (some ⟨g, 0, none⟩) (xs.length + 1) c) := h.blk.cell (o := 1) rfl
  have f1 := h.blk.free 1
  have hl := h.blk.lt
  have ho := h.own
  rw [List.length_append] at ho
  obtain ⟨h1, h2, h3, h4, cur, h5, h6, h7⟩ := own_cells ho
  have cn : w.cell? ⟨g, xs.length, none⟩ = some (.pointer (some ⟨x.p, 0, none⟩)) := h5.cell (cur_at h7 (by rw [List.map_append, List.getElem?_append_right (by simp)]; simp [wyP]))
  have H := Lib.hid h.pop
  have hk : ((xs.length + 1 : Nat) : Int) - 1 = (xs.length : Int) := by omega
  have hn2 : (0 : Int) ≤ xs.length := by omega
  have hn3 : (xs.length : Int) < xs.length + 1 := by omega
  clear h ho h5 h6 h7
  generalize hn : xs.length = n at *
  go_enter Try.func167, Try.ntmps167
  go_wp2
  go_ret
  exact ⟨rfl, H.out, Chg.set (S := (· = nb)) (Chg.refl _ w) (p := ⟨nb, 1, none⟩) (fun _ => rfl) _⟩
end Go.Proofs.Ythbalmoafpggdaa

/- A directory of names: the names' heap, Push and Pop. -/
import Derived.Test.YtfcddpbpfckjfaaChecked
import Derived.WalkKit
import Derived.Outline
import Derived.WalkSpells
import Derived.WalkLawsBesides
import Derived.Deep.QuietTactic
import Derived.Deep.RegionWith
import Derived.Deep.DeepMust
import Derived.BigQuiet
import Derived.Test.YtfcddpbpfckjfaaMem
import Derived.RegionTactic
import Derived.ChangeAlike
import Derived.StillTailTactics
import Derived.BigRegion
import Derived.Deep.RegionHeld3
import Derived.Deep.RegionLaw
import Derived.Deep.AppendLies
import Derived.Test.YtfcddpbpfckjfaaDn
import Derived.Test.YtfcddpbpfckjfaaDh
namespace Go.Proofs.Ytfcddpbpfckjfaa
open Go.RowKit
set_option linter.unusedVariables false
set_option linter.unusedSimpArgs false
open Hq
theorem below_drewN {B : Nat} {a w : World} (h : Below B a w) (n : Nat) : Below B a (w.drewN n) := ⟨h.os, h.tape, h.output, h.size, h.block⟩
theorem wanted_go {ops : Array Oper} {o : Oper} {a : Act} {w : World} {K : Act → World → Prop} {P : Program} {Q : Exit → Act → World → Prop} {E : Prop} (hg : o.guard = none) (h : Oper.wp P o a w K Q) : if Region.wanted o (yielded ops a.tmps) = true then Oper.wp P o a w K Q else E := by
  have hw : Region.wanted o (yielded ops a.tmps) = true := by simp [Region.wanted, hg]
  rw [if_pos hw]; exact h
theorem blk_ne {w : World} {k : Nat} {c1 c2 : Array Value} {T1 T2 : Nat} (h1 : Blk w k c1 T1) (hn : T1 ≠ T2) : ¬ Blk w k c2 T2 := fun h2 => by
  have h1 : w.heap[k]? = _ := h1
  have h2 : w.heap[k]? = _ := h2
  rw [h1] at h2
  injection h2 with h2
  injection h2 with _ h2
  exact hn h2
theorem own_typ {w : World} {B e s : Nat} {v : Value} {n : Nat} {xs : List Value} (h : w.ownsRow B e s v n xs) {g : Nat} (hg : v.ownBlock = some g) : B ≤ g ∧ ∃ cur, Blk w g cur e := by
  rcases h.2 with ⟨rfl, _⟩ | ⟨g', c, cur, rfl, h0, h1, _⟩
  · cases hg
  · injection hg with hg
    have hg : g' = g := hg
    subst hg
    exact ⟨h0, cur, h1⟩
theorem own_shape {w : World} {B e s : Nat} {v : Value} {n : Nat} {xs : List Value} (h : w.ownsRow B e s v n xs) : ∃ a c, v = .slice a n c ∧ n ≤ c ∧ c ≤ 9223372036854775807 ∧ (∀ x, a = some x → ∃ g, x = ⟨g, 0, none⟩) := by
  rcases h.2 with ⟨rfl, rfl⟩ | ⟨g, c, cur, rfl, _, _, h1, h2, _⟩
  · exact ⟨none, 0, rfl, Nat.le_refl _, by omega, fun x h => by cases h⟩
  · exact ⟨_, _, rfl, h1, by unfold maxLen at h2; omega, fun x h => by injection h with h; exact ⟨g, h.symm⟩⟩
theorem own_cells {w : World} {B g n c : Nat} {T : TypeId} {xs : List Value} (h : w.ownsRow B T 1 (.slice (some ⟨g, 0, none⟩) n c) n xs) : B ≤ g ∧ g < w.heap.size ∧ n ≤ c ∧ c ≤ 9223372036854775807 ∧ ∃ cur, Blk w g cur T ∧ cur.size = c ∧ cur.toList.take n = xs := by
  rcases h.2 with ⟨e, _⟩ | ⟨g', c', cur, e, h1, h2, h3, h4, h5, h6⟩
  · cases e
  · injection e with e1 e2 e3
    injection e1 with e1
    injection e1 with e1
    subst e1
    subst e3
    rw [Nat.mul_one] at h5 h6
    exact ⟨h1, lt_of_block h2, h3, by unfold maxLen at h4; omega, cur, h2, h5, h6⟩
def NmS (b : Nat) (cv : Value) (k : Nat) : Prop := k = b ∨ cv.ownBlock = some k
theorem NmG.ne {B : Nat} {w : World} {b : Nat} {cv : Value} {xs : Array ByteArray} (h : NmG B w b cv xs) : cv.ownBlock ≠ some b := by
  intro e
  obtain ⟨_, cur, h1⟩ := own_typ h.own e
  exact blk_ne h1 (by decide) h.blk
theorem NmG.below {B : Nat} {w w' : World} {b : Nat} {cv : Value} {xs : Array ByteArray} (h : NmG B w b cv xs) (g : Below w.heap.size w w') : NmG B w' b cv xs := ⟨blkBelow g h.blk h.blk.lt, ownsRow_below h.own g⟩
theorem NmG.at_ {B : Nat} {w : World} {b g c : Nat} {xs : Array ByteArray} (h : NmG B w b (.slice (some ⟨g, 0, none⟩) xs.size c) xs) : B ≤ g ∧ g < w.heap.size ∧ g ≠ b ∧ xs.size ≤ c ∧ c ≤ 9223372036854775807 ∧ ∃ cur, Blk w g cur 9 ∧ cur.size = c ∧ cur.toList.take xs.size = xs.toList.map strv ∧ ∀ i, i < xs.size → cur[i]? = some (.string xs[i]!) := by
  obtain ⟨h1, h2, h3, h4, cur, h5, h6, h7⟩ := own_cells h.own
  refine ⟨h1, h2, fun e => h.ne (by rw [e]; rfl), h3, h4, cur, h5, h6, h7, fun i hi => ?_⟩
  have hk : (cur.toList.take xs.size)[i]? = (xs.toList.map strv)[i]? := by rw [h7]
  rw [List.getElem?_take_of_lt hi] at hk
  rw [← Array.getElem?_toList, hk]
  simp [hi]
theorem row_swap {cur : Array Value} {xs : Array ByteArray} {i j : Nat} (h : cur.toList.take xs.size = xs.toList.map strv) :
    ((cur.setIfInBounds i (.string xs[j]!)).setIfInBounds j (.string xs[i]!)).toList.take xs.size = (Hq.sw xs i j).toList.map strv := by
  unfold Hq.sw
  simp only [Array.toList_setIfInBounds, List.take_set, h, List.map_set]
theorem ta_str (s : ByteArray) (w : World) : (Instr.typeAssert (.iface 9 (.string s)) 20 9 false).run Try.prog w = .ok (.string s) w := by kernel_rfl
def NmPush (B b : Nat) (cv : Value) (xs : Array ByteArray) (w : World) (e : Ending) (w' : World) : Prop :=
  e = .returned (.tuple #[]) ∧ ∃ g c, NmG B w' b (.slice (some ⟨g, 0, none⟩) xs.size c) xs ∧ Chg (NmS b cv) w w' ∧ (cv.ownBlock = some g ∨ w.heap.size ≤ g)
theorem nm_app {B : Nat} {w W w2 : World} {b g c k : Nat} {cv : Value} {xs : Array ByteArray} {s : ByteArray} (h : NmG B w b cv xs) (hb : Below w.heap.size w W)
    (ho : w2.ownsRow B 9 1 (.slice (some ⟨g, 0, none⟩) (xs.size + 1) c) (xs.size + 1) (xs.toList.map strv ++ [.string s])) (hg : W.grownBy w2 cv.ownBlock) (hk : W.heap.size = k) (hw : cv.ownBlock = some g ∨ g = k) :
    w2.cell? ⟨b, 0, none⟩ = some cv ∧ w2.frozen? ⟨b, 0, none⟩ = false ∧ b < w2.heap.size ∧ NmG B (w2.setCell ⟨b, 0, none⟩ (.slice (some ⟨g, 0, none⟩) (xs.size + 1) c)) b (.slice (some ⟨g, 0, none⟩) (xs.push s).size c) (xs.push s) ∧
      Chg (NmS b cv) w (w2.setCell ⟨b, 0, none⟩ (.slice (some ⟨g, 0, none⟩) (xs.size + 1) c)) ∧ (cv.ownBlock = some g ∨ w.heap.size ≤ g) := by
  have H1 := h.below hb
  have hgc : Chg (fun k => cv.ownBlock = some k) W w2 := (Chg.refl _ _).grown hg (fun _ e _ => e)
  have B2 : Blk w2 b #[cv] 106 := hgc.blk H1.blk H1.ne
  have hw' : cv.ownBlock = some g ∨ w.heap.size ≤ g := by
    rcases hw with hw | hw
    · exact .inl hw
    · right; have := hb.size; omega
  have hgb : b ≠ g := by
    rcases hw' with e | e
    · intro e'; exact h.ne (by rw [e, e'])
    · have := h.blk.lt; omega
  have C1 : Chg (NmS b cv) w w2 := (Chg.of_below hb (fun i hi hn => by omega)).grown hg (fun k hk _ => .inr hk)
  refine ⟨B2.cell (o := 0) rfl, B2.free 0, B2.lt, ⟨?_, ?_⟩, C1.set (fun _ => .inl rfl) _, hw'⟩
  · have := B2.set 0 (.slice (some ⟨g, 0, none⟩) (xs.size + 1) c)
    simpa using this
  · have e : (xs.push s).toList.map strv = xs.toList.map strv ++ [.string s] := by simp
    rw [e, Array.size_push]
    refine ownsRow_setCell_other ho (a := ⟨b, 0, none⟩) ?_ _
    intro e
    injection e with e
    exact hgb e.symm
set_option maxRecDepth 100000 in
theorem nmPush (B b : Nat) (cv : Value) (xs : Array ByteArray) (s : ByteArray) (w : World) (h : NmG B w b cv xs) (hB : B ≤ w.heap.size) (hz : xs.size ≤ 100000) :
    Calls Try.prog 163 #[.pointer (some ⟨b, 0, none⟩), .iface 9 (.string s)] w (NmPush B b cv (xs.push s) w) := by
  obtain ⟨i0, hi, hz0, hz1, hz2⟩ := info_parts Sn.info
  have c1 : w.cell? ⟨b, 0, none⟩ = some cv := h.blk.cell (o := 0) rfl
  have hl := h.blk.lt
  have H := Lib.hid h
  obtain ⟨va, vc, rfl, hv1, hv2, _⟩ := own_shape h.own
  clear h
  have ta := ta_str s
  go_enter Try.func163, Try.ntmps163
  go_wp2
  go_region_law ((refine wanted_go rfl ?_); (refine wp_append_lies _ (.tmp 7) (.tmp 10) 106 rfl B 9 i0 _ 1 16 Try.underlying106 hi hz0 hz1 hz2 rfl (Nat.zero_lt_succ 0) (.slice va xs.size vc) xs.size (xs.toList.map strv) rfl (ownsRow_below H.out.own ?_) ⟨w.heap.size, 0, none⟩ 1 1 [.string s] rfl rfl ?_ ?_ (Nat.zero_lt_succ 0) ?_ ?_ ?_ (w.heap.size + 1) ?_ ?_); (case _ => (repeat first | exact Below.refl _ _ | refine Below.drew ?_ | refine below_drewN ?_ _ | refine Below.alloc ?_ (by simp <;> omega) _ | refine Below.setCell ?_ (by simp) _)); (case _ => (intro j u hu; rcases j with _ | j <;> simp at hu <;> subst hu <;> simp [Addr.add, go_sem, *])); (case _ => simp [Value.oneCell']); (case _ => (unfold maxLen; omega)); (case _ => omega); (case _ => (simp <;> omega)); (case _ => (simp; done)); (intro g2 c2 w2 ho2 hg2 ha2 _); (obtain ⟨d0, d1, d2, d3, d4, d5⟩ := nm_app H.out (by (repeat first | exact Below.refl _ _ | refine Below.drew ?_ | refine below_drewN ?_ _ | refine Below.alloc ?_ (by simp <;> omega) _ | refine Below.setCell ?_ (by simp) _)) ho2 hg2 (by simp) ha2); (have D3 := Lib.hid d3); (have D4 := Lib.hid d4); (have D5 := Lib.hid d5); clear d3 d4 d5 ho2 hg2 ha2)
  all_goals go_wp2
  all_goals go_end0
  all_goals exact ⟨rfl, _, _, D3.out, D4.out, D5.out⟩
theorem NmG.pop {B : Nat} {w : World} {b g c n : Nat} {xs : Array ByteArray} (h : NmG B w b (.slice (some ⟨g, 0, none⟩) xs.size c) xs) (hn : n + 1 = xs.size) : NmG B (w.setCell ⟨b, 0, none⟩ (.slice (some ⟨g, 0, none⟩) n c)) b (.slice (some ⟨g, 0, none⟩) xs.pop.size c) xs.pop := by
  obtain ⟨h1, h2, hne, h3, h4, cur, h5, h6, h7, h8⟩ := h.at_
  have hs : xs.pop.size = n := by simp; omega
  rw [hs]
  refine ⟨by have := h.blk.set 0 (.slice (some ⟨g, 0, none⟩) n c); simpa using this, by simp, .inr ⟨g, c, cur, by rw [hs], h1, h5.set_ne (by show g ≠ b; exact hne) _, by omega, by unfold maxLen; omega, by rw [Nat.mul_one]; exact h6, ?_⟩⟩
  rw [hs, Nat.mul_one]
  have : cur.toList.take n = (cur.toList.take xs.size).take n := by rw [List.take_take]; congr 1; omega
  rw [this, h7, ← List.map_take, Array.toList_pop, List.dropLast_eq_take, Array.length_toList, show xs.size - 1 = n by omega]
end Go.Proofs.Ytfcddpbpfckjfaa

/- merge's queue: Swap, Push, Pop as a heap's. -/
import Derived.Test.YthbalmoafpggdaaChecked
import Derived.WalkKit
import Derived.Outline
import Derived.WalkSpells
import Derived.WalkLawsBesides
import Derived.Deep.QuietTactic
import Derived.Deep.RegionWith
import Derived.Deep.DeepMust
import Derived.BigQuiet
import Derived.Test.YthbalmoafpggdaaMem
import Derived.RegionTactic
import Derived.ChangeAlike
import Derived.StillTailTactics
import Derived.BigRegion
import Derived.Deep.RegionHeld3
import Derived.Deep.RegionLaw
import Derived.Deep.AppendLies
import Derived.Deep.DeepCutAuto
import Derived.Deep.CutBlock
import Derived.Test.YthbalmoafpggdaaMq2b
namespace Go.Proofs.Ythbalmoafpggdaa
open Go.RowKit
set_option linter.unusedVariables false
set_option linter.unusedSimpArgs false
theorem below_drewN {B : Nat} {a w : World} (h : Below B a w) (n : Nat) : Below B a (w.drewN n) := ⟨h.os, h.tape, h.output, h.size, h.block⟩
theorem wanted_go {ops : Array Oper} {o : Oper} {a : Act} {w : World} {K : Act → World → Prop} {P : Program} {Q : Exit → Act → World → Prop} {E : Prop} (hg : o.guard = none) (h : Oper.wp P o a w K Q) : if Region.wanted o (yielded ops a.tmps) = true then Oper.wp P o a w K Q else E := by
  have hw : Region.wanted o (yielded ops a.tmps) = true := by simp [Region.wanted, hg]
  rw [if_pos hw]; exact h
theorem It.info : (Try.prog.info? 118).map (fun i => (i.zero, i.size, i.bytes)) = some (some (.agg #[.int .i64 0, .int .i64 0, .int .i64 0, .int .i64 0, .int .i64 0, .int .i64 0, .int .i64 0, .int .i64 0, .string ByteArray.empty, .slice none 0 0, .slice none 0 0, .int .i64 0]), 12, 136) := by kernel_rfl
theorem sw_list (xs : Array Mit) (i j : Nat) : (Hq.sw xs i j).toList = (xs.toList.set i xs[j]!).set j xs[i]! := by simp [Hq.sw]
theorem mqSwap (b g c : Nat) (F : Value) (came : Int) (xs : Array Mit) (i j : Nat) (w : World) (h : QAt w b F came (.slice (some ⟨g, 0, none⟩) xs.size c) xs) (hi : i < xs.size) (hj : j < xs.size) : Calls Try.prog 164 #[.pointer (some ⟨b, 0, none⟩), .int .i64 i, .int .i64 j] w fun e w' => e = .returned (.tuple #[]) ∧ QAt w' b F came (.slice (some ⟨g, 0, none⟩) (Hq.sw xs i j).size c) (Hq.sw xs i j) ∧ Chg (· = g) w w' := by
  obtain ⟨hbg, hg, h3, h4, cur, hb, hs, ht⟩ := h.cells
  have c0 : w.cell? ⟨b, 0, none⟩ = some (.slice (some ⟨g, 0, none⟩) xs.size c) := h.blk.cell (o := 0) rfl
  refine (mSwap0 b g xs.size c i j cur xs[i]! xs[j]! w c0 hb (by omega) hi hj h3 h4 (McAt.of hb ht hi) (McAt.of hb ht hj)).mono ?_
  rintro e w' ⟨he, rfl⟩
  have B1 := (S12_blk (x := xs[i]!) (o := j * 12) (S12_blk (x := xs[j]!) (o := i * 12) hb)).drew
  have C1 : Chg (· = g) w (S12 (S12 w g (i * 12) xs[j]!) g (j * 12) xs[i]!).drew := ((S12_chg (S := (· = g)) rfl).trans (S12_chg (S := (· = g)) rfl)).drew
  generalize (S12 (S12 w g (i * 12) xs[j]!) g (j * 12) xs[i]!).drew = w' at *
  refine ⟨he, ⟨C1.blk (by rw [Hq.sw_size]; exact h.blk) (by omega), ⟨by rw [mrow_len]; simp, .inr ⟨g, c, _, rfl, by omega, B1, by rw [Hq.sw_size]; exact h3, by unfold maxLen; omega, by rw [A12_size, A12_size]; exact hs, ?_⟩⟩⟩, C1⟩
  rw [Hq.sw_size, A12_take, A12_take, ht, sw_list, ← mrow_put _ _ _ (by simpa using hi), ← mrow_put _ _ _ (by simpa using hj)]
theorem ta_mit (x : Mit) (w : World) : (Instr.typeAssert (.iface 118 (.agg #[.int .i64 x.time, .int .i64 x.node, .int .i64 0, .int .i64 x.mark, .int .i64 0, .int .i64 0, .int .i64 0, .int .i64 0, .string ByteArray.empty, .slice none 0 0, .slice none 0 0, .int .i64 x.came])) 20 118 false).run Try.prog w = .ok (.agg #[.int .i64 x.time, .int .i64 x.node, .int .i64 0, .int .i64 x.mark, .int .i64 0, .int .i64 0, .int .i64 0, .int .i64 0, .string ByteArray.empty, .slice none 0 0, .slice none 0 0, .int .i64 x.came]) w := by kernel_rfl
def MqPost (b : Nat) (F : Value) (came : Int) (v : Value) (xs : Array Mit) (w : World) (e : Ending) (w' : World) : Prop :=
  e = .returned (.tuple #[]) ∧ ∃ g c, QAt w' b F came (.slice (some ⟨g, 0, none⟩) xs.size c) xs ∧ Chg (MqS b v) w w' ∧ (v.ownBlock = some g ∨ w.heap.size ≤ g)
theorem mrow_push (xs : Array Mit) (x : Mit) : mrow (xs.push x).toList = mrow xs.toList ++ mitC x := by simp [mrow]
theorem mq_app {w W w2 : World} {b g c k : Nat} {F : Value} {came : Int} {v : Value} {xs : Array Mit} {x : Mit} (h : QAt w b F came v xs) (hb : Below w.heap.size w W)
    (ho : w2.ownsRow b 118 12 (.slice (some ⟨g, 0, none⟩) (xs.size + 1) c) (xs.size + 1) (mrow xs.toList ++ [.int .i64 x.time, .int .i64 x.node, .int .i64 0, .int .i64 x.mark, .int .i64 0, .int .i64 0, .int .i64 0, .int .i64 0, .string ByteArray.empty, .slice none 0 0, .slice none 0 0, .int .i64 x.came])) (hg : W.grownBy w2 v.ownBlock) (hk : W.heap.size = k) (hw : v.ownBlock = some g ∨ g = k) :
    w2.cell? ⟨b, 0, none⟩ = some v ∧ w2.frozen? ⟨b, 0, none⟩ = false ∧ b < w2.heap.size ∧ QAt (w2.setCell ⟨b, 0, none⟩ (.slice (some ⟨g, 0, none⟩) (xs.size + 1) c)) b F came (.slice (some ⟨g, 0, none⟩) (xs.push x).size c) (xs.push x) ∧
      Chg (MqS b v) w (w2.setCell ⟨b, 0, none⟩ (.slice (some ⟨g, 0, none⟩) (xs.size + 1) c)) ∧ (v.ownBlock = some g ∨ w.heap.size ≤ g) := by
  have hl := h.blk.lt
  have B1 : Blk W b #[v, F, .int .i64 came] 114 := blkBelow hb h.blk hl
  have B2 : Blk w2 b #[v, F, .int .i64 came] 114 := B1.of_eq (hg.block b B1.lt (fun e => h.ne e.symm))
  have hw' : v.ownBlock = some g ∨ w.heap.size ≤ g := by
    rcases hw with hw | hw
    · exact .inl hw
    · right; have := hb.size; omega
  have C1 : Chg (MqS b v) w w2 := (Chg.of_below hb (fun i hi hn => by omega)).grown hg (fun k hk _ => .inr hk)
  have hgb : b ≠ g := by
    rcases hw' with e | e
    · intro e'; exact h.ne (by rw [e, e'])
    · omega
  refine ⟨B2.cell (o := 0) rfl, B2.free 0, B2.lt, ⟨?_, ?_⟩, C1.set (fun _ => .inl rfl) _, hw'⟩
  · have := B2.set 0 (.slice (some ⟨g, 0, none⟩) (xs.size + 1) c)
    simpa using this
  · rw [mrow_push, Array.size_push]
    refine ownsRow_setCell_other ho (a := ⟨b, 0, none⟩) ?_ _
    intro e
    injection e with e
    exact hgb e.symm
set_option maxRecDepth 100000 in
set_option maxHeartbeats 2000000 in
theorem mqPush0 (b : Nat) (F : Value) (came : Int) (v : Value) (xs : Array Mit) (x : Mit) (w : World) (h : QAt w b F came v xs) (hz : xs.size ≤ 1000) :
    Calls Try.prog 163 #[.pointer (some ⟨b, 0, none⟩), .iface 118 (.agg #[.int .i64 x.time, .int .i64 x.node, .int .i64 0, .int .i64 x.mark, .int .i64 0, .int .i64 0, .int .i64 0, .int .i64 0, .string ByteArray.empty, .slice none 0 0, .slice none 0 0, .int .i64 x.came])] w (MqPost b F came v (xs.push x) w) := by
  obtain ⟨i0, hi, hi2⟩ := Option.map_eq_some_iff.1 It.info
  simp only [Prod.mk.injEq] at hi2
  obtain ⟨hz0, hz1, hz2⟩ := hi2
  have c1 : w.cell? ⟨b, 0, none⟩ = some v := h.blk.cell (o := 0) rfl
  have hl := h.blk.lt
  have H := Lib.hid h
  obtain ⟨va, vc, rfl, hv1, hv2, _⟩ := own_shp h.own
  clear h
  have ta := ta_mit x
  go_enter Try.func163, Try.ntmps163
  go_wp2
  go_region_law ((refine wanted_go rfl ?_); (refine wp_append_lies _ (.tmp 8) (.tmp 11) 112 rfl b 118 i0 _ 12 136 Try.underlying112 hi hz0 hz1 hz2 rfl (Nat.zero_lt_succ 11) (.slice va xs.size vc) xs.size (mrow xs.toList) rfl (ownsRow_below H.out.own ?_) ⟨w.heap.size, 0, none⟩ 1 1 [.int .i64 x.time, .int .i64 x.node, .int .i64 0, .int .i64 x.mark, .int .i64 0, .int .i64 0, .int .i64 0, .int .i64 0, .string ByteArray.empty, .slice none 0 0, .slice none 0 0, .int .i64 x.came] rfl rfl ?_ ?_ (Nat.zero_lt_succ 0) ?_ ?_ ?_ (w.heap.size + 1) ?_ ?_); (case _ => (repeat first | exact Below.refl _ _ | refine Below.drew ?_ | refine below_drewN ?_ _ | refine Below.alloc ?_ (by simp <;> omega) _ | refine Below.setCell ?_ (by simp) _)); (case _ => (intro j u hu; rcases j with _ | _ | _ | _ | _ | _ | _ | _ | _ | _ | _ | _ | j <;> simp at hu <;> subst hu <;> simp [Addr.add, go_sem, *])); (case _ => simp [Value.oneCell']); (case _ => (unfold maxLen; omega)); (case _ => omega); (case _ => (simp <;> omega)); (case _ => (simp; done)); (intro g2 c2 w2 ho2 hg2 ha2 _); (obtain ⟨d0, d1, d2, d3, d4, d5⟩ := mq_app (x := x) H.out (by (repeat first | exact Below.refl _ _ | refine Below.drew ?_ | refine below_drewN ?_ _ | refine Below.alloc ?_ (by simp <;> omega) _ | refine Below.setCell ?_ (by simp) _)) ho2 hg2 (by simp) ha2); (have D3 := Lib.hid d3); (have D4 := Lib.hid d4); (have D5 := Lib.hid d5); clear d3 d4 d5 ho2 hg2 ha2)
  all_goals go_wp2
  all_goals go_end0
  all_goals exact ⟨rfl, _, _, D3.out, D4.out, D5.out⟩
theorem QAt.pop {w : World} {b g c n : Nat} {F : Value} {came : Int} {xs : Array Mit} (h : QAt w b F came (.slice (some ⟨g, 0, none⟩) xs.size c) xs) (hn : n + 1 = xs.size) : QAt (w.setCell ⟨b, 0, none⟩ (.slice (some ⟨g, 0, none⟩) n c)) b F came (.slice (some ⟨g, 0, none⟩) xs.pop.size c) xs.pop := by
  obtain ⟨h1, h2, h3, h4, cur, h5, h6, h7⟩ := h.cells
  have hs : xs.pop.size = n := by simp; omega
  rw [hs]
  refine ⟨?_, ?_⟩
  · have := h.blk.set 0 (.slice (some ⟨g, 0, none⟩) n c)
    simpa using this
  · refine ⟨by rw [mrow_len]; simp, .inr ⟨g, c, cur, by rw [hs], by omega, h5.set_ne (by show g ≠ b; omega) _, by omega, by unfold maxLen; omega, h6, ?_⟩⟩
    rw [hs]
    have e1 : cur.toList.take (n * 12) = (cur.toList.take (xs.size * 12)).take (n * 12) := by rw [List.take_take]; congr 1; omega
    have e2 : xs.toList = xs.pop.toList ++ [xs[n]!] := Hq.pop_list hn
    rw [e1, h7, e2, mrow, List.flatMap_append, List.take_append_of_le_length (by have := mrow_len xs.pop.toList; unfold mrow at this; simp at this ⊢; omega), List.take_of_length_le (by have := mrow_len xs.pop.toList; unfold mrow at this; simp at this ⊢; omega)]
    rfl
theorem mqpop_end {w : World} {b g c n m : Nat} {F : Value} {came : Int} {ys : Array Mit} {o : Obj} (h : QAt (w.setCell ⟨b, 0, none⟩ (.slice (some ⟨g, 0, none⟩) n c)) b F came (.slice (some ⟨g, 0, none⟩) ys.size c) ys) :
    QAt (((w.setCell ⟨b, 0, none⟩ (.slice (some ⟨g, 0, none⟩) n c)).alloc o).drew.drew) b F came (.slice (some ⟨g, 0, none⟩) ys.size c) ys ∧ Chg (MqS b (.slice (some ⟨g, 0, none⟩) m c)) w (((w.setCell ⟨b, 0, none⟩ (.slice (some ⟨g, 0, none⟩) n c)).alloc o).drew.drew) := by
  refine ⟨h.below (((Below.refl _ _).alloc (Nat.le_refl _) _).drew.drew), ?_⟩
  exact (Chg.alloc (Chg.set (S := MqS b (.slice (some ⟨g, 0, none⟩) m c)) (Chg.refl _ w) (p := ⟨b, 0, none⟩) (fun _ => .inl rfl) _) _).drew.drew
def MitV (w : World) (v : Value) (x : Mit) : Prop := v = .iface 118 (.agg #[.int .i64 x.time, .int .i64 x.node, .int .i64 0, .int .i64 x.mark, .int .i64 0, .int .i64 0, .int .i64 0, .int .i64 0, .string ByteArray.empty, .slice none 0 0, .slice none 0 0, .int .i64 x.came])
set_option maxRecDepth 100000 in
set_option maxHeartbeats 2000000 in
theorem mqPop0 (b g c : Nat) (F : Value) (came : Int) (xs : Array Mit) (n : Nat) (w : World) (h : QAt w b F came (.slice (some ⟨g, 0, none⟩) xs.size c) xs) (hn : n + 1 = xs.size) :
    Calls Try.prog 162 #[.pointer (some ⟨b, 0, none⟩)] w (PopMid MitV (fun w' ys => QAt w' b F came (.slice (some ⟨g, 0, none⟩) ys.size c) ys) (MqS b (.slice (some ⟨g, 0, none⟩) xs.size c)) xs n w) := by
  have c1 : w.cell? ⟨b, 0, none⟩ = some (.slice (some ⟨g, 0, none⟩) xs.size c) := h.blk.cell (o := 0) rfl
  have f1 := h.blk.free 0
  have hl := h.blk.lt
  obtain ⟨h1, h2, h3, h4, cur, h5, h6, h7⟩ := h.cells
  obtain ⟨x0, x1, x2, x3, x4, x5, x6, x7, x8, x9, x10, x11⟩ := McAt.of h5 h7 (k := n) (by omega)
  have H := Lib.hid (h.pop hn)
  have hk : (xs.size : Int) - 1 = (n : Int) := by omega
  have hn1 : n < xs.size := by omega
  have hn2 : (0 : Int) ≤ n := by omega
  have hn3 : (n : Int) < xs.size := by omega
  clear h h5 h6 h7 hn
  generalize hy : xs[n]! = y at *
  have HY := Lib.hid hy
  clear hy
  go_enter Try.func162, Try.ntmps162
  go_wp2
  go_region
  all_goals go_wp2
  all_goals go_region
  all_goals go_wp2
  all_goals go_ret
  all_goals exact ⟨_, rfl, by rw [HY.out]; rfl, mqpop_end H.out⟩
/-- What Less must do. -/
def LessOk (back : Bool) (F : Value) : Prop := ∀ (b g c : Nat) (came : Int) (xs : Array Mit) (i j : Nat) (w : World), QAt w b F came (.slice (some ⟨g, 0, none⟩) xs.size c) xs → i < xs.size → j < xs.size → Calls Try.prog 161 #[.pointer (some ⟨b, 0, none⟩), .int .i64 i, .int .i64 j] w fun e w' => e = .returned (.bool (mlt back xs[i]! xs[j]!)) ∧ Below w.heap.size w w'
theorem lessOkR : LessOk false (Fun 30) := fun b g c came xs i j w h hi hj => mqLessR b g c came xs i j w h hi hj
theorem lessOkC : LessOk false (Fun 79) := fun b g c came xs i j w h hi hj => mqLessC b g c came xs i j w h hi hj
theorem lessOkB : LessOk true (Fun 31) := fun b g c came xs i j w h hi hj => mqLessB b g c came xs i j w h hi hj
theorem mq_less (a : Addr) (w : World) : (method 288 116 (.pointer (some a)) "Less").run Try.prog w = .ok (161, .pointer (some a)) w := by kernel_rfl
theorem mq_swap (a : Addr) (w : World) : (method 288 116 (.pointer (some a)) "Swap").run Try.prog w = .ok (164, .pointer (some a)) w := by kernel_rfl
theorem mq_len (a : Addr) (w : World) : (method 288 116 (.pointer (some a)) "Len").run Try.prog w = .ok (160, .pointer (some a)) w := by kernel_rfl
theorem mq_push (a : Addr) (w : World) : (method 288 116 (.pointer (some a)) "Push").run Try.prog w = .ok (163, .pointer (some a)) w := by kernel_rfl
theorem mq_pop (a : Addr) (w : World) : (method 288 116 (.pointer (some a)) "Pop").run Try.prog w = .ok (162, .pointer (some a)) w := by kernel_rfl
def MqR (b g c : Nat) (F : Value) (came : Int) (w : World) (xs : Array Mit) : Prop := QAt w b F came (.slice (some ⟨g, 0, none⟩) xs.size c) xs
theorem mqIs {back : Bool} {F : Value} (hF : LessOk back F) (b g c : Nat) (came : Int) : mqHp (mlt back) (.pointer (some ⟨b, 0, none⟩)) (MqR b g c F came) (· = g) where
  drw := fun w w' xs hd h => QAt.below h hd
  mless := fun w xs h => ⟨_, mq_less _ _, fun i j hi hj => hF b g c came xs i j w h hi hj⟩
  mlen := fun w xs h => ⟨_, mq_len _ _, mqLen b F came _ xs w h⟩
  mswap := fun w xs h => ⟨_, mq_swap _ _, fun i j hi hj => mqSwap b g c F came xs i j w h hi hj⟩
theorem mqHPush {back : Bool} {F : Value} (hF : LessOk back F) (b : Nat) (came : Int) (v : Value) (xs : Array Mit) (x : Mit) (w : World) (h : QAt w b F came v xs) (hh : Hq.IsHeap (mlt back) xs xs.size) (hz : xs.size ≤ 1000) :
    Calls Try.prog 80 #[.iface 116 (.pointer (some ⟨b, 0, none⟩)), .iface 118 (.agg #[.int .i64 x.time, .int .i64 x.node, .int .i64 0, .int .i64 x.mark, .int .i64 0, .int .i64 0, .int .i64 0, .int .i64 0, .string ByteArray.empty, .slice none 0 0, .slice none 0 0, .int .i64 x.came])] w (PushPost (mlt back) (fun w' ys => ∃ v', QAt w' b F came v' ys) (MqS b v) (xs.push x) w) :=
  mqPush (mlt_ord back) xs x _ w hh (by omega) ⟨_, mq_push _ _, (mqPush0 b F came v xs x w h hz).mono fun e w' ⟨he, g, c, h1, h2, h3⟩ =>
    ⟨he, MqR b g c F came, (· = g), mqIs hF b g c came, h1, h2, fun i hi e => by
      subst e
      rcases h3 with h3 | h3
      · exact .inr h3
      · omega, fun w2 ys _ h4 => ⟨_, h4⟩⟩⟩
theorem mqHPop {back : Bool} {F : Value} (hF : LessOk back F) (b g c : Nat) (came : Int) (xs : Array Mit) (w : World) (h : QAt w b F came (.slice (some ⟨g, 0, none⟩) xs.size c) xs) (hh : Hq.IsHeap (mlt back) xs xs.size) (h0 : 0 < xs.size) (hz : xs.size ≤ 1000) :
    Calls Try.prog 82 #[.iface 116 (.pointer (some ⟨b, 0, none⟩))] w (PopPost (mlt back) MitV (MqR b g c F came) (MqS b (.slice (some ⟨g, 0, none⟩) xs.size c)) xs w) := by
  have H := mqIs hF b g c came
  have H2 : mqHp (mlt back) (.pointer (some ⟨b, 0, none⟩)) (MqR b g c F came) (MqS b (.slice (some ⟨g, 0, none⟩) xs.size c)) :=
    ⟨H.drw, H.mless, H.mlen, fun w xs' hR => by
      obtain ⟨r, h1, h2⟩ := H.mswap w xs' hR
      exact ⟨r, h1, fun i j hi hj => (h2 i j hi hj).mono fun e w' ⟨k1, k2, k3⟩ => ⟨k1, k2, k3.mono fun i _ e => .inr (by rw [e]; rfl)⟩⟩⟩
  obtain ⟨n, hn⟩ : ∃ n, n + 1 = xs.size := ⟨xs.size - 1, by omega⟩
  refine mqPop H2 (mlt_ord back) xs n w h hn (by omega) hh fun w ys hR hs => ⟨_, mq_pop _ _, ?_⟩
  have hs' : ys.size = xs.size := by omega
  have := mqPop0 b g c F came ys n w hR (by omega)
  rw [hs'] at this
  exact this
end Go.Proofs.Ythbalmoafpggdaa

/- MergeQueue: Peek; the row that is kept beside. -/
import Derived.Test.YthbalmoafpggdaaChecked
import Derived.WalkKit
import Derived.Outline
import Derived.WalkSpells
import Derived.WalkLawsBesides
import Derived.Deep.QuietTactic
import Derived.Deep.RegionWith
import Derived.Deep.DeepMust
import Derived.BigQuiet
import Derived.Test.YthbalmoafpggdaaMem
import Derived.RegionTactic
import Derived.ChangeAlike
import Derived.StillTailTactics
import Derived.BigRegion
import Derived.Deep.RegionHeld3
import Derived.Deep.RegionLaw
import Derived.Deep.AppendLies
import Derived.Deep.DeepCutAuto
import Derived.Deep.CutBlock
import Derived.IntWalk
import Derived.Test.YthbalmoafpggdaaMs3
namespace Go.Proofs.Ythbalmoafpggdaa
open Go.RowKit
set_option linter.unusedVariables false
set_option linter.unusedSimpArgs false
set_option maxRecDepth 100000 in
theorem qPeek0 (b : Nat) (F : Value) (came : Int) (v : Value) (xs : Array Mit) (w : World) (h : QAt w b F came v xs) (hx : xs.size = 0) : Calls Try.prog 34 #[.pointer (some ⟨b, 0, none⟩)] w fun e w' => e = .returned (.tuple #[.agg #[.int .i64 0, .int .i64 0, .int .i64 0, .int .i64 0, .int .i64 0, .int .i64 0, .int .i64 0, .int .i64 0, .string ByteArray.empty, .slice none 0 0, .slice none 0 0], .bool false]) ∧ Below w.heap.size w w' := by
  have K := fun w' hw => Lib.hid (qLen b F came v xs w' (h.below hw))
  have e : (xs.size : Int) = 0 := by omega
  rw [e] at K
  clear h e hx
  go_enter Try.func34, Try.ntmps34
  go_wp2_with fail
  refine (K _ ((Below.refl _ _).alloc (Nat.le_refl _) _)).out.mono ?_
  rintro e w1 ⟨rfl, rfl⟩
  go_wp2
  exact bodyPost_ret (v := .tuple #[.agg #[.int .i64 0, .int .i64 0, .int .i64 0, .int .i64 0, .int .i64 0, .int .i64 0, .int .i64 0, .int .i64 0, .string ByteArray.empty, .slice none 0 0, .slice none 0 0], .bool false]) (by simp [results, Try.results34, go_sem] <;> rfl) rfl ⟨rfl, (Below.refl _ _).alloc (Nat.le_refl _) _⟩
theorem peek_end {w w2 : World} {t n m : Int} (h : Below w.heap.size w w2) : Below w.heap.size w (S11 w2 w.heap.size t n m) := Below.setCell (Below.setCell (Below.setCell (Below.setCell (Below.setCell (Below.setCell (Below.setCell (Below.setCell (Below.setCell (Below.setCell (Below.setCell (h) (Nat.le_refl _) _) (Nat.le_refl _) _) (Nat.le_refl _) _) (Nat.le_refl _) _) (Nat.le_refl _) _) (Nat.le_refl _) _) (Nat.le_refl _) _) (Nat.le_refl _) _) (Nat.le_refl _) _) (Nat.le_refl _) _) (Nat.le_refl _) _
set_option maxRecDepth 100000 in
set_option maxHeartbeats 2000000 in
theorem qPeek (b : Nat) (F : Value) (came : Int) (v : Value) (xs : Array Mit) (w : World) (h : QAt w b F came v xs) (hx : 0 < xs.size) (x : Mit) (hx0 : xs[0]! = x) :
    Calls Try.prog 34 #[.pointer (some ⟨b, 0, none⟩)] w fun e w' => e = .returned (.tuple #[.agg #[.int .i64 x.time, .int .i64 x.node, .int .i64 0, .int .i64 x.mark, .int .i64 0, .int .i64 0, .int .i64 0, .int .i64 0, .string ByteArray.empty, .slice none 0 0, .slice none 0 0], .bool true]) ∧ Below w.heap.size w w' := by
  have K := fun w' hw => Lib.hid (qLen b F came v xs w' (h.below hw))
  obtain ⟨g, c, rfl⟩ : ∃ g c, v = .slice (some ⟨g, 0, none⟩) xs.size c := by
    rcases h.own.2 with ⟨_, h1⟩ | ⟨g, c, cur, rfl, _⟩
    · omega
    · exact ⟨g, c, rfl⟩
  have hne : ((xs.size : Int) == 0) = false := beq_eq_false_iff_ne.2 (by omega)
  have hzb := h.blk.lt
  have c00 : w.cell? ⟨b, 0, none⟩ = some (.slice (some ⟨g, 0, none⟩) xs.size c) := h.blk.cell (o := 0) rfl
  obtain ⟨hbg, hg, h3, h4, cur, hb, hs, ht⟩ := h.cells
  have MC := McAt.of hb ht hx
  rw [hx0] at MC
  obtain ⟨c0, c1, c2, c3, c4, c5, c6, c7, c8, c9, c10, c11⟩ := MC
  simp only [Nat.zero_mul, Nat.zero_add] at c0 c1 c2 c3 c4 c5 c6 c7 c8 c9 c10 c11
  clear h hb ht hx0
  go_enter Try.func34, Try.ntmps34
  go_wp2_with fail
  refine (K _ ((Below.refl _ _).alloc (Nat.le_refl _) _)).out.mono ?_
  rintro e w1 ⟨rfl, rfl⟩
  go_wp2_with fail
  refine (copyC x.time x.node x.mark _).mono ?_
  rintro e w2 ⟨rfl, b2⟩
  have B2 : Blk w2 w.heap.size #[.int .i64 0, .int .i64 0, .int .i64 0, .int .i64 0, .int .i64 0, .int .i64 0, .int .i64 0, .int .i64 0, .string ByteArray.empty, .slice none 0 0, .slice none 0 0] 58 := blkBelow b2 (Blk.new _ _ _) (Blk.new _ _ _).lt
  have e0 : w2.cell? ⟨w.heap.size, 0, none⟩ = some (.int .i64 0) := B2.cell (o := 0) rfl
  have f0 := B2.free 0
  have e1 : w2.cell? ⟨w.heap.size, 1, none⟩ = some (.int .i64 0) := B2.cell (o := 1) rfl
  have f1 := B2.free 1
  have e2 : w2.cell? ⟨w.heap.size, 2, none⟩ = some (.int .i64 0) := B2.cell (o := 2) rfl
  have f2 := B2.free 2
  have e3 : w2.cell? ⟨w.heap.size, 3, none⟩ = some (.int .i64 0) := B2.cell (o := 3) rfl
  have f3 := B2.free 3
  have e4 : w2.cell? ⟨w.heap.size, 4, none⟩ = some (.int .i64 0) := B2.cell (o := 4) rfl
  have f4 := B2.free 4
  have e5 : w2.cell? ⟨w.heap.size, 5, none⟩ = some (.int .i64 0) := B2.cell (o := 5) rfl
  have f5 := B2.free 5
  have e6 : w2.cell? ⟨w.heap.size, 6, none⟩ = some (.int .i64 0) := B2.cell (o := 6) rfl
  have f6 := B2.free 6
  have e7 : w2.cell? ⟨w.heap.size, 7, none⟩ = some (.int .i64 0) := B2.cell (o := 7) rfl
  have f7 := B2.free 7
  have e8 : w2.cell? ⟨w.heap.size, 8, none⟩ = some (.string ByteArray.empty) := B2.cell (o := 8) rfl
  have f8 := B2.free 8
  have e9 : w2.cell? ⟨w.heap.size, 9, none⟩ = some (.slice none 0 0) := B2.cell (o := 9) rfl
  have f9 := B2.free 9
  have e10 : w2.cell? ⟨w.heap.size, 10, none⟩ = some (.slice none 0 0) := B2.cell (o := 10) rfl
  have f10 := B2.free 10
  have b2z := B2.lt
  have HB := Lib.hid (((Below.refl w.heap.size w).alloc (Nat.le_refl _) (.cells #[.int .i64 0, .int .i64 0, .int .i64 0, .int .i64 0, .int .i64 0, .int .i64 0, .int .i64 0, .int .i64 0, .string ByteArray.empty, .slice none 0 0, .slice none 0 0] 58)).trans (b2.mono (by simp)))
  clear b2 B2 K c0 c1 c2 c3 c4 c5 c6 c7 c8 c9 c10 c11 c00
  go_wp2
  exact bodyPost_ret (v := .tuple #[.agg #[.int .i64 x.time, .int .i64 x.node, .int .i64 0, .int .i64 x.mark, .int .i64 0, .int .i64 0, .int .i64 0, .int .i64 0, .string ByteArray.empty, .slice none 0 0, .slice none 0 0], .bool true]) (by simp [results, Try.results34, go_sem, *] <;> rfl) rfl ⟨rfl, peek_end (t := x.time) (n := x.node) (m := x.mark) HB.out⟩
/-- The row that the law keeps beside the queue: the call's own, or full. -/
def MRow (w : World) (B : Nat) (v : Value) (ml : List Mit) : Prop :=
  w.ownsRow B 58 11 v ml.length (orow ml) ∨ ∃ g cur, v = .slice (some ⟨g, 0, none⟩) ml.length ml.length ∧ B ≤ g ∧ Blk w g cur 58 ∧ ml.length * 11 ≤ cur.size ∧ ml.length ≤ 1000 ∧ cur.toList.take (ml.length * 11) = orow ml
theorem MRow.blk {w : World} {B : Nat} {v : Value} {ml : List Mit} (h : MRow w B v ml) (hn : 0 < ml.length) : ∃ g c cur, v = .slice (some ⟨g, 0, none⟩) ml.length c ∧ B ≤ g ∧ ml.length ≤ c ∧ c ≤ 9223372036854775807 ∧ Blk w g cur 58 ∧ ml.length * 11 ≤ cur.size ∧ cur.toList.take (ml.length * 11) = orow ml := by
  rcases h with h | ⟨g, cur, rfl, h1, h2, h3, h4, h5⟩
  · rcases h.2 with ⟨_, h0⟩ | ⟨g, c, cur, rfl, h1, h2, h3, h4, h5, h6⟩
    · omega
    · exact ⟨g, c, cur, rfl, h1, h3, by unfold maxLen at h4; omega, h2, by rw [h5]; omega, h6⟩
  · exact ⟨g, _, cur, rfl, h1, Nat.le_refl _, by omega, h2, h3, h5⟩
theorem MRow.shape {w : World} {B : Nat} {v : Value} {ml : List Mit} (h : MRow w B v ml) : ∃ a c, v = .slice a ml.length c ∧ ml.length ≤ c ∧ c ≤ 9223372036854775807 := by
  rcases h with h | ⟨g, cur, rfl, h1, h2, h3, h4, h5⟩
  · obtain ⟨a, c, h1, h2, h3, _⟩ := own_shp h
    exact ⟨a, c, h1, h2, h3⟩
  · exact ⟨_, _, rfl, Nat.le_refl _, by omega⟩
theorem MRow.kept {w w' : World} {B : Nat} {v : Value} {ml : List Mit} (h : MRow w B v ml) (hk : Kept w w') : MRow w' B v ml := by
  rcases h with h | ⟨g, cur, h0, h1, h2, h3⟩
  · exact .inl (own_kept h hk)
  · exact .inr ⟨g, cur, h0, h1, hk _ _ _ h2 (by decide) (by decide), h3⟩
theorem Kept.of_below {w w' : World} (h : Below w.heap.size w w') : Kept w w' := fun g cs T hB _ _ => blkBelow h hB hB.lt
theorem MRow.below {w w' : World} {B : Nat} {v : Value} {ml : List Mit} (h : MRow w B v ml) (hb : Below w.heap.size w w') : MRow w' B v ml := h.kept (Kept.of_below hb)
/-- The queue holds these. -/
structure QQ (back : Bool) (F : Value) (w : World) (b n : Nat) (ml : List Mit) (wr : World) : Prop where
  q : ∃ u xs, QAt wr b F n u xs ∧ Hq.IsHeap (mlt back) xs xs.size ∧ xs.toList.Perm ml
  bel : Below w.heap.size w wr
theorem QQ.below {back : Bool} {F : Value} {w wr w' : World} {b n : Nat} {ml : List Mit} (h : QQ back F w b n ml wr) (g : Below wr.heap.size wr w') : QQ back F w b n ml w' := by
  obtain ⟨u, xs, h1, h2⟩ := h.q
  exact ⟨⟨u, xs, h1.below g, h2⟩, h.bel.trans (g.mono h.bel.size)⟩
theorem QQ.chg {back : Bool} {F : Value} {w wr w' : World} {b n : Nat} {ml : List Mit} (h : QQ back F w b n ml wr) {g : Nat} {cs : Array Value} {T : TypeId} (hB : Blk wr g cs T) (hT : T ≠ 114) (hT2 : T ≠ 118) (hg : w.heap.size ≤ g) (hc : Chg (· = g) wr w') : QQ back F w b n ml w' := by
  obtain ⟨v, xs, h1, h2⟩ := h.q
  refine ⟨⟨v, xs, h1.chg hc ?_ ?_, h2⟩, h.bel.trans (hc.below h.bel.size (fun i hi e => by omega))⟩
  · rintro rfl; exact hT (type_ne hB h1.blk)
  · intro k e e'
    subst e'
    obtain ⟨_, cur, h3⟩ := own_type h1.own e
    exact hT2 (type_ne hB h3)
/-- What stands in the row: in the order in which it came, marked. -/
structure MLOk (n : Nat) (ml : List Mit) : Prop where
  ord : ml.Pairwise (fun a b => a.came < b.came)
  top : ∀ x ∈ ml, x.came ≤ n
  mark : ∀ x ∈ ml, x.mark = x.came - 1
  len : ml.length ≤ n
theorem MLOk.push {n : Nat} {ml : List Mit} (h : MLOk n ml) (t nd : Int) : MLOk (n + 1) (ml ++ [⟨t, nd, n, (n : Int) + 1⟩]) := by
  refine ⟨?_, ?_, ?_, by have := h.len; simp; omega⟩
  · rw [List.pairwise_append]
    refine ⟨h.ord, by simp, fun a ha b hb => ?_⟩
    rw [List.mem_singleton.1 hb]
    have := h.top a ha
    simp only; omega
  · intro x hx
    rcases List.mem_append.1 hx with hx | hx
    · have := h.top x hx; omega
    · rw [List.mem_singleton.1 hx]; simp
  · intro x hx
    rcases List.mem_append.1 hx with hx | hx
    · exact h.mark x hx
    · rw [List.mem_singleton.1 hx]; simp only; omega
theorem MLOk.erase {n : Nat} {ml : List Mit} (h : MLOk n ml) (j : Nat) : MLOk n (ml.eraseIdx j) :=
  ⟨h.ord.sublist (List.eraseIdx_sublist _ _), fun x hx => h.top x (List.mem_of_mem_eraseIdx hx), fun x hx => h.mark x (List.mem_of_mem_eraseIdx hx), Nat.le_trans (List.eraseIdx_sublist _ _).length_le h.len⟩
theorem pw_inj : ∀ (ml : List Mit), ml.Pairwise (fun a b => a.came < b.came) → ∀ x ∈ ml, ∀ y ∈ ml, x.came = y.came → x = y
  | [], _, x, hx, _, _, _ => by cases hx
  | a :: ml, h, x, hx, y, hy, e => by
    obtain ⟨h1, h2⟩ := List.pairwise_cons.1 h
    rcases List.mem_cons.1 hx with e1 | hx2
    · rcases List.mem_cons.1 hy with e2 | hy2
      · rw [e1, e2]
      · have := h1 y hy2; rw [e1] at e; omega
    · rcases List.mem_cons.1 hy with e2 | hy2
      · have := h1 x hx2; rw [e2] at e; omega
      · exact pw_inj ml h2 x hx2 y hy2 e
def QPush (back : Bool) (F : Value) (w : World) (b n : Nat) (ml : List Mit) (wr : World) (e : Ending) (w' : World) : Prop := e = .returned (.tuple #[]) ∧ QQ back F w b n ml w' ∧ Kept wr w'
theorem qqPush {back : Bool} {F : Value} (hF : LessOk back F) {w wr : World} {b n : Nat} {ml : List Mit} (hb : w.heap.size ≤ b) (h : QQ back F w b n ml wr) (hz : n ≤ 900) (hl : ml.length ≤ n) (t nd m : Int) :
    Calls Try.prog 33 #[.pointer (some ⟨b, 0, none⟩), .agg #[.int .i64 t, .int .i64 nd, .int .i64 0, .int .i64 m, .int .i64 0, .int .i64 0, .int .i64 0, .int .i64 0, .string ByteArray.empty, .slice none 0 0, .slice none 0 0]] wr (QPush back F w b (n + 1) (ml ++ [⟨t, nd, m, (n : Int) + 1⟩]) wr) := by
  obtain ⟨v, xs, h1, h2, h3⟩ := h.q
  have hxl : xs.size = ml.length := by simpa using h3.length_eq
  refine (qPush hF b n v xs t nd m wr h1 h2 (by omega) (by omega) (by omega)).mono ?_
  rintro e w' ⟨he, v', ys, k1, k2, k3, k4, k5⟩
  refine ⟨he, ⟨⟨v', ys, ?_, k4, ?_⟩, h.bel.trans (k5.below h.bel.size (fun i hi e => by have := h1.sle e; omega))⟩, Kept.of_chg h1 k5⟩
  · have e : (n : Int) + 1 = ((n + 1 : Nat) : Int) := by omega
    rw [← e]; exact k1
  · refine k3.trans ?_
    rw [Array.toList_push]
    exact List.Perm.append_right _ h3
theorem min_top {back : Bool} {xs : Array Mit} {ml : List Mit} {x : Mit} (hh : Hq.IsHeap (mlt back) xs xs.size) (hp : xs.toList.Perm ml) (ho : ml.Pairwise (fun a b => a.came < b.came)) (hx : x ∈ ml) (hmin : ∀ y ∈ ml, mlt back y x = false) : 0 < xs.size ∧ xs[0]! = x := by
  have hs : 0 < xs.size := by
    have h1 := hp.mem_iff.2 hx
    rcases Nat.eq_zero_or_pos xs.size with h | h
    · rw [Array.mem_toList_iff] at h1
      obtain ⟨j, hj, _⟩ := Array.mem_iff_getElem.1 h1
      omega
    · exact h
  refine ⟨hs, ?_⟩
  have h0 : xs[0]! ∈ ml := hp.mem_iff.1 (by rw [getElem!_pos xs 0 hs]; simp)
  have h1 : mlt back x xs[0]! = false := by
    have h2 := hp.mem_iff.2 hx
    rw [Array.mem_toList_iff] at h2
    obtain ⟨j, hj, e⟩ := Array.mem_iff_getElem.1 h2
    have := Hq.root (mlt_ord back) hh j hj
    rwa [getElem!_pos xs j hj, e] at this
  have h2 := hmin _ h0
  refine pw_inj ml ho _ h0 _ hx ?_
  rw [mlt_no, mlt_iff] at h1 h2
  cases back
  all_goals simp only [Bool.false_eq_true, if_false, if_true] at h1 h2
  all_goals omega
theorem qqPeek {back : Bool} {F : Value} {w wr : World} {b n j : Nat} {ml : List Mit} {x : Mit} (h : QQ back F w b n ml wr) (ho : MLOk n ml) (hx : x ∈ ml) (hmin : ∀ y ∈ ml, mlt back y x = false) :
    Calls Try.prog 34 #[.pointer (some ⟨b, 0, none⟩)] wr fun e w' => e = .returned (.tuple #[.agg #[.int .i64 x.time, .int .i64 x.node, .int .i64 0, .int .i64 x.mark, .int .i64 0, .int .i64 0, .int .i64 0, .int .i64 0, .string ByteArray.empty, .slice none 0 0, .slice none 0 0], .bool true]) ∧ Below wr.heap.size wr w' := by
  obtain ⟨v, xs, h1, h2, h3⟩ := h.q
  obtain ⟨k1, k2⟩ := min_top h2 h3 ho.ord hx hmin
  exact qPeek b F n v xs wr h1 k1 x k2
theorem qqPeek0 {back : Bool} {F : Value} {w wr : World} {b n : Nat} (h : QQ back F w b n [] wr) :
    Calls Try.prog 34 #[.pointer (some ⟨b, 0, none⟩)] wr fun e w' => e = .returned (.tuple #[.agg #[.int .i64 0, .int .i64 0, .int .i64 0, .int .i64 0, .int .i64 0, .int .i64 0, .int .i64 0, .int .i64 0, .string ByteArray.empty, .slice none 0 0, .slice none 0 0], .bool false]) ∧ Below wr.heap.size wr w' := by
  obtain ⟨v, xs, h1, h2, h3⟩ := h.q
  exact qPeek0 b F n v xs wr h1 (by simpa using h3.length_eq)
theorem erase_perm (ml : List Mit) (j : Nat) (hj : j < ml.length) : (ml[j] :: ml.eraseIdx j).Perm ml := by
  rw [List.eraseIdx_eq_take_drop_succ]
  conv => rhs; rw [← List.take_append_drop j ml, List.drop_eq_getElem_cons hj]
  exact List.perm_middle.symm
def QPopP (back : Bool) (F : Value) (w : World) (b n : Nat) (ml : List Mit) (x : Mit) (wr : World) (e : Ending) (w' : World) : Prop := e = .returned (.tuple #[.agg #[.int .i64 x.time, .int .i64 x.node, .int .i64 0, .int .i64 x.mark, .int .i64 0, .int .i64 0, .int .i64 0, .int .i64 0, .string ByteArray.empty, .slice none 0 0, .slice none 0 0], .bool true]) ∧ QQ back F w b n ml w' ∧ Kept wr w'
theorem qqPop {back : Bool} {F : Value} (hF : LessOk back F) {w wr : World} {b n j : Nat} {ml : List Mit} {x : Mit} (hb : w.heap.size ≤ b) (h : QQ back F w b n ml wr) (ho : MLOk n ml) (hn : n ≤ 900) (hj : j < ml.length) (hx : ml[j] = x) (hmin : ∀ y ∈ ml, mlt back y x = false) :
    Calls Try.prog 35 #[.pointer (some ⟨b, 0, none⟩)] wr (QPopP back F w b n (ml.eraseIdx j) x wr) := by
  obtain ⟨v, xs, h1, h2, h3⟩ := h.q
  have hxm : x ∈ ml := by rw [← hx]; exact List.getElem_mem hj
  obtain ⟨k1, k2⟩ := min_top h2 h3 ho.ord hxm hmin
  have hl := ho.len
  have hxl : xs.size = ml.length := by simpa using h3.length_eq
  have := qPop hF b n v xs wr h1 h2 k1 (by omega) _ rfl
  refine this.mono ?_
  rintro e w' ⟨he, v', ys, m1, m2, m3, m4, m5⟩
  rw [k2] at he m3
  refine ⟨he, ⟨⟨v', ys, m1, m4, ?_⟩, h.bel.trans (m5.below h.bel.size (fun i hi e => by have := h1.sle e; omega))⟩, Kept.of_chg h1 m5⟩
  have p1 := (m3.trans h3).trans (erase_perm ml j hj).symm
  rw [hx] at p1
  exact List.Perm.cons_inv p1
theorem qqPop0 {back : Bool} {F : Value} {w wr : World} {b n : Nat} (h : QQ back F w b n [] wr) :
    Calls Try.prog 35 #[.pointer (some ⟨b, 0, none⟩)] wr fun e w' => e = .returned (.tuple #[.agg #[.int .i64 0, .int .i64 0, .int .i64 0, .int .i64 0, .int .i64 0, .int .i64 0, .int .i64 0, .int .i64 0, .string ByteArray.empty, .slice none 0 0, .slice none 0 0], .bool false]) ∧ Below wr.heap.size wr w' := by
  obtain ⟨v, xs, h1, h2, h3⟩ := h.q
  exact qPop0 b F n v xs wr h1 (by simpa using h3.length_eq)
theorem qqLen {back : Bool} {F : Value} {w wr : World} {b n : Nat} {ml : List Mit} (h : QQ back F w b n ml wr) : Calls Try.prog 36 #[.pointer (some ⟨b, 0, none⟩)] wr fun e w' => e = .returned (.int .i64 ml.length) ∧ wr = w' := by
  obtain ⟨v, xs, h1, h2, h3⟩ := h.q
  have : xs.size = ml.length := by simpa using h3.length_eq
  rw [← this]
  exact qLen b F n v xs wr h1
end Go.Proofs.Ythbalmoafpggdaa

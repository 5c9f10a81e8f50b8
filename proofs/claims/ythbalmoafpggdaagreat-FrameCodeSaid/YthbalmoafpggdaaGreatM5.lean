/- The reference's vectors in normal form; Is, Same. Vectors compared: vector.At, Ahead, Leq, Eq; the reference's Leq, Eq (on VecI). Contracts of the library's strings, laid at this program off the shelf (utf8.ValidRune, strings.IndexByte, IndexRune at ASCII, IndexAny of a long text). strings.IndexRune at a rune beyond ASCII, strings.ContainsAny at every text, the set of ASCII. Names: ops.Name, lagoonref12.Local and Name. -/
import Derived.Test.YthbalmoafpggdaaGreatChecked
import Derived.WalkKit
import Derived.Outline
import Derived.WalkSpells
import Derived.WalkLawsBesides
import Derived.Deep.QuietTactic
import Derived.Deep.RegionWith
import Derived.Deep.DeepMust
import Derived.BigQuiet
import Derived.RegionTactic
import Derived.ChangeAlike
import Derived.StillTailTactics
import Derived.Deep.LoopGhost
import Derived.Shelf.Small.Utf8
import Derived.Shelf.Small.Strs
import Derived.Shelf.Strings.Search1
import Derived.Shelf.Strings.Runes
import Derived.Shelf.Strings.IndexAny
import Derived.Shelf.Strings.AsciiSet
import Derived.Shelf.Strings.IndexAnyAll
import Derived.Test.YthbalmoafpggdaaGreatProg
import Derived.WalkMore
import Derived.IntWalk
import Derived.Laws.RangeAny
import Derived.Laws.RangeString
import Derived.Laws.Runes
import Derived.Laws.Strings3
import Derived.Lib.MapLaws
import Derived.Lib.OthersKept
import Derived.Lib.IndexBytes
import Derived.Test.YthbalmoafpggdaaGreatM1
import Derived.Test.YthbalmoafpggdaaGreatM4
namespace Go.Proofs.YthbalmoafpggdaaGreat
open Go.RowKit
set_option linter.unusedVariables false
set_option linter.unusedSimpArgs false
abbrev i64v : Int → Value := .int .i64
/-- A vector's number. -/
def atZ (xs : List Int) (node : Int) : Int :=
  if node < 0 ∨ (xs.length : Int) ≤ node ∨ 64 ≤ node then 0 else if xs.getD node.toNat 0 < 0 ∨ 1152921504606846976 < xs.getD node.toNat 0 then 0 else xs.getD node.toNat 0
/-- How many numbers a normal form has; the normal form. -/
def nzc (g : Nat → Int) : Nat → Nat | 0 => 0 | k + 1 => if g k = 0 then nzc g k else k + 1
def row (g : Nat → Int) (k : Nat) : List Int := (List.range k).map g
def nrm (g : Nat → Int) : List Int := (row g 64).take (nzc g 64)
theorem nzc_le (g : Nat → Int) : ∀ k, nzc g k ≤ k
  | 0 => Nat.le_refl _
  | k + 1 => by unfold nzc; split; exact Nat.le_succ_of_le (nzc_le g k); exact Nat.le_refl _
theorem row_succ (g : Nat → Int) (k : Nat) : row g (k + 1) = row g k ++ [g k] := by simp [row, List.range_succ]
theorem row_len (g : Nat → Int) (k : Nat) : (row g k).length = k := by simp [row]
theorem row_congr {g h : Nat → Int} (k : Nat) (e : ∀ i, i < k → g i = h i) : row g k = row h k := by
  unfold row; exact List.map_congr_left (fun i hi => e i (List.mem_range.1 hi))
theorem nzc_congr {g h : Nat → Int} : ∀ k, (∀ i, i < k → g i = h i) → nzc g k = nzc h k
  | 0, _ => rfl
  | k + 1, e => by unfold nzc; rw [e k (Nat.lt_succ_self k), nzc_congr k (fun i hi => e i (Nat.lt_succ_of_lt hi))]
theorem nrm_congr {g h : Nat → Int} (e : ∀ i, i < 64 → g i = h i) : nrm g = nrm h := by unfold nrm; rw [row_congr 64 e, nzc_congr 64 e]
def MadePost (g : Nat → Int) (w : World) (e : Ending) (w' : World) : Prop := ∃ v, e = .returned v ∧ Rdv i64v w' v (nrm g) ∧ Below w.heap.size w w'
/-- v[:n:n] of an own row. -/
theorem made_cut {w : World} {B : Nat} {v : Value} {g : Nat → Int} (h : w.ownsRow B 2 1 v 64 ((row g 64).map i64v)) : ∃ b c, v = .slice (some ⟨b, 0, none⟩) 64 c ∧ 64 ≤ c ∧ c ≤ maxLen ∧ Rdv i64v w (.slice (some ⟨b, 0, none⟩) (nzc g 64) (nzc g 64)) (nrm g) := by
  have hr := Rdv.of_owns (xs := row g 64) h
  obtain ⟨h1, h2⟩ := h
  rcases h2 with ⟨_, h0⟩ | ⟨b, cap, cur, rfl, hg, hh, hn, hc, hs, ht⟩
  · exact absurd h0 (by omega)
  refine ⟨b, cap, rfl, hn, hc, ?_⟩
  obtain ⟨a, c, e, h1', h2', h3⟩ := hr
  have hl : (nrm g).length = nzc g 64 := by have := nzc_le g 64; simp [nrm, row_len]; omega
  refine ⟨_, _, by rw [hl], by omega, by unfold maxLen at *; have := nzc_le g 64; omega, ?_⟩
  rcases h3 with h3 | ⟨b', o, rfl, h3⟩
  · have := row_len g 64; rw [h3] at this; simp at this
  · rw [Value.slice.injEq] at e
    obtain ⟨e1, _, _⟩ := e
    simp at e1
    obtain ⟨rfl, rfl⟩ := e1
    refine .inr ⟨b, 0, rfl, fun i hi => ?_⟩
    have hi' : i < nzc g 64 := by omega
    have := nzc_le g 64
    rw [h3 i (by rw [row_len]; omega)]
    simp [nrm, List.getD_eq_getElem?_getD, List.getElem?_take_of_lt hi']
theorem Tryz.info2 : (Tryz.prog.info? 2).map (fun i => (i.zero, i.size, i.bytes)) = some (some (.int .i64 0), 1, 8) := by kernel_rfl
def MkPost (xs : List Int) (w : World) (e : Ending) (w' : World) : Prop := ∃ v, e = .returned v ∧ Rdv i64v w' v xs ∧ Below w.heap.size w w'
theorem refAt (v : Value) (xs : List Int) (node : Int) (w : World) (h : Rdv i64v w v xs) :
    Calls Tryz.prog 51 #[v, .int .i64 node] w fun e w' => e = .returned (.int .i64 (atZ xs node)) ∧ w = w' := by
  obtain ⟨a, c, rfl, h1, h2, h3⟩ := h
  unfold maxLen at h2
  by_cases c1 : node < 0
  · have H : Hid (atZ xs node = 0) := by unfold atZ; rw [if_pos (.inl c1)]; exact rfl
    go_enter Tryz.func51, Tryz.ntmps51
    go_wp2
    go_ret
    exact ⟨ret_i H.out.symm, rfl⟩
  by_cases c2 : (xs.length : Int) ≤ node ∨ 64 ≤ node
  · have H : Hid (atZ xs node = 0) := by unfold atZ; rw [if_pos (.inr c2)]; exact rfl
    rcases c2 with c2 | c2
    all_goals
      go_enter Tryz.func51, Tryz.ntmps51
      go_wp2
      all_goals
        go_ret
        exact ⟨ret_i H.out.symm, rfl⟩
  rcases h3 with rfl | ⟨b, o, rfl, h3⟩
  · exact absurd c2 (by simp; omega)
  obtain ⟨i, rfl⟩ := Int.eq_ofNat_of_zero_le (Int.not_lt.1 c1)
  have hi : i < xs.length := by omega
  have hi' : i < 64 := by omega
  have hc := h3 i hi
  have hA : atZ xs i = if xs.getD i 0 < 0 ∨ 1152921504606846976 < xs.getD i 0 then 0 else xs.getD i 0 := by
    unfold atZ; rw [if_neg (by omega)]; simp
  generalize xs.getD i 0 = x at *
  clear h3 c1 c2
  have HA := Lib.hid hA; clear hA
  go_enter Tryz.func51, Tryz.ntmps51
  go_wp2
  all_goals
    go_ret
    refine ⟨ret_i ?_, rfl⟩
    rw [HA.out]
    split <;> first | rfl | omega
theorem row_getD (g : Nat → Int) (k i : Nat) (h : i < k) : (row g k).getD i 0 = g i := by simp [row, List.getD_eq_getElem?_getD, h]
theorem nzc_down (g : Nat → Int) (m : Nat) (h : g m = 0) : nzc g (m + 1) = nzc g m := by show (if g m = 0 then nzc g m else m + 1) = _; rw [if_pos h]
theorem nzc_stop (g : Nat → Int) (m : Nat) (h : g m ≠ 0) : nzc g (m + 1) = m + 1 := by show (if g m = 0 then nzc g m else m + 1) = _; rw [if_neg h]
set_option maxHeartbeats 1000000 in
theorem refShort (v : Value) (g : Nat → Int) (w : World) (h : Rdv i64v w v (row g 64)) :
    Calls Tryz.prog 91 #[v] w (MkPost (nrm g) w) := by
  obtain ⟨a, n, c, rfl⟩ := h.shape
  have hT := h.take
  obtain ⟨a', c', e, h1, h2, h3⟩ := h
  rw [Value.slice.injEq] at e
  obtain ⟨rfl, rfl, rfl⟩ := e
  rw [row_len] at *
  unfold maxLen at h2
  rcases h3 with h3 | ⟨b, o, rfl, h3⟩
  · have := row_len g 64; rw [h3] at this; simp at this
  have HC : ∀ m, m < 64 → w.cell? ⟨b, o + m, none⟩ = some (.int .i64 (g m)) := fun m hm => by rw [h3 m hm, row_getD g 64 m hm]
  have KC := Lib.hid HC
  have KT := Lib.hid hT
  clear HC hT h3
  go_enter Tryz.func91, Tryz.ntmps91
  go_wp2
  go_loopw [3] (fun i wr => ∃ m : Nat, m ≤ 64 ∧ i = .int .i64 m ∧ nzc g 64 = nzc g m ∧ Drw w wr) (fun i _ => (intOf i).toNat)
  case atStart => exact ⟨64, by omega, rfl, rfl, 0, rfl⟩
  case round =>
    obtain ⟨m, hm, rfl, hn, nd, rfl⟩ := hrel
    have HN := Lib.hid hn; clear hn
    cases m with
    | zero =>
      go_wp2
      have e : nzc g 64 = 0 := HN.out
      have hT := KT.out 0 0 (by omega) (by omega) (by omega)
      go_ret
      exact ⟨_, rfl, by rw [nrm, e]; exact hT, (Drw.below ⟨nd, rfl⟩)⟩
    | succ m =>
      have hc := KC.out m (by omega)
      by_cases h0 : g m = 0
      · have e := Lib.hid (HN.out.trans (nzc_down g m h0))
        have hb0 : (g m == 0) = true := by simpa using h0
        clear h0 HN
        go_wp2
        go_roundw
        case rel => exact ⟨m, by omega, rfl, e.out, nd, rfl⟩
        case measure => simp [intOf]
      · have e := Lib.hid (HN.out.trans (nzc_stop g m h0))
        have hb0 : (g m == 0) = false := by simpa using h0
        clear h0 HN
        go_wp2
        have hT := KT.out (m + 1) (m + 1) (by omega) (by omega) (by omega)
        have e' : nzc g 64 = m + 1 := e.out
        go_ret
        exact ⟨_, rfl, by rw [nrm, e']; exact hT, (Drw.below ⟨nd, rfl⟩)⟩

theorem ownsRow_eq {w : World} {base : Nat} {e : TypeId} {size : Nat} {v : Value} {n : Nat} {xs : List Value} {a b : Int} (h : w.ownsRow base e size v n (xs ++ [.int .i64 a])) (hab : a = b) : w.ownsRow base e size v n (xs ++ [b].map i64v) := by subst hab; exact h
set_option maxHeartbeats 1000000 in
set_option maxRecDepth 100000 in
theorem refNorm (v : Value) (xs : List Int) (w : World) (hv : Rdv i64v w v xs) : Calls Tryz.prog 57 #[v] w (MkPost (nrm fun k => atZ xs k) w) := by
  obtain ⟨i0, hi, hz0, hz1, hz2⟩ := info_parts Tryz.info2
  have KV := Lib.hid (fun k w1 hb => refAt v xs k w1 (hv.below hb))
  clear hv
  go_enter Tryz.func57, Tryz.ntmps57
  go_wp2
  go_loopw [3, 4] (fun l i wr => ∃ k : Nat, k ≤ 64 ∧ i = .int .i64 k ∧ wr.ownsRow w.heap.size 2 1 l k ((row (fun k : Nat => atZ xs k) k).map i64v) ∧ Below w.heap.size w wr) (fun _ i _ => 64 - (intOf i).toNat)
  case atStart => exact ⟨0, by omega, rfl, World.ownsRow_nil _ _ _ _, Below.refl _ _⟩
  case round =>
    obtain ⟨k, hk, rfl, hown, hb⟩ := hrel
    by_cases hlt : k < 64
    · have hs := Lib.hid (row_succ (fun k : Nat => atZ xs k) k)
      go_wp2_with fail
      refine (KV.out _ _ hb).mono ?_
      rintro e w2 ⟨rfl, rfl⟩
      go_wp2_with (at_builtin; refine wpList_append_own _ rfl _ _ 23 rfl w.heap.size 2 i0 (.int .i64 0) 1 8 Tryz.underlying23 hi hz0 hz1 hz2 rfl (by decide) _ _ _ rfl (hown.alloc _) ⟨wr.heap.size, 0, none⟩ 1 1 [.int .i64 (atZ xs k)] rfl rfl ?c1 ?c2 ?c3 ?c4 ?c5 ?_)
      case c1 => exact cell_one_new _ _ _
      case c2 => intro u hu; simp at hu; subst hu; rfl
      case c3 => unfold maxLen; omega
      case c4 => omega
      case c5 => have := hb.size; simp; omega
      intro v' w1 hown1 hgrow1 _
      have hb1 : Below w.heap.size w w1 := (hb.alloc (by have := hb.size; omega) _).grown hgrow1 (by have := hb.size; simp; omega) (fun q hq => (hown.lt q hq).1)
      have HB1 := Lib.hid hb1
      have HO1 := Lib.hid hown1
      clear hb1 hown1 hgrow1
      go_wp2
      go_roundw
      case rel => exact ⟨k + 1, by omega, by go_num, by rw [hs.out, List.map_append]; exact ownsRow_eq HO1.out (rfl), HB1.out⟩
      case measure => simp [intOf]; omega
    · obtain rfl : k = 64 := by omega
      have hr := Rdv.of_owns (xs := row (fun k : Nat => atZ xs k) 64) hown
      go_wp2_with fail
      refine (refShort _ _ _ hr).mono ?_
      rintro e w2 ⟨v2, rfl, hr2, hb2⟩
      have hz := hb.size
      go_wp2
      go_ret
      exact ⟨_, rfl, hr2, by (repeat (first | exact Below.refl _ _ | (with_reducible assumption) | apply Below.drew | (refine Below.alloc ?_ (by first | exact Nat.le_refl _ | omega | (simp; done) | (simp; omega)) _) | (refine Below.setCell ?_ (by first | exact Nat.le_refl _ | omega | (simp; done) | (simp; omega)) _) | (refine Below.trans ?_ (Below.mono (by with_reducible assumption) (by first | omega | (simp; done) | (simp; omega))))))⟩
theorem atZ_of (ys : List Int) (hm : vecMayB ys = true) (k : Nat) (hk : k < 64) : atZ ys k = ys.getD k 0 := by
  unfold atZ
  rcases Nat.lt_or_ge k ys.length with h | h
  · have hq : 0 ≤ ys.getD k 0 ∧ ys.getD k 0 ≤ 1152921504606846976 := by
      by_cases hq : 0 ≤ ys.getD k 0 ∧ ys.getD k 0 ≤ 1152921504606846976
      · exact hq
      · rw [vecMayB_false ys k h hq] at hm; cases hm
    rw [if_neg (by omega), Int.toNat_natCast, if_neg (by omega)]
  · rw [if_pos (by omega), List.getD_eq_getElem?_getD, List.getElem?_eq_none h]; rfl
/-- What may be, cut, is its normal form. -/
theorem nrm_cut (ys : List Int) (hm : vecMayB (cutL ys) = true) (hl : (cutL ys).length ≤ 64) : nrm (fun k => atZ (cutL ys) k) = cutL ys := by
  have hlast : cutL ys = [] ∨ (cutL ys).getD ((cutL ys).length - 1) 0 ≠ 0 := by
    rw [cutL_len]
    have hstop : ∀ k, cutTo ys k = 0 ∨ ys.getD (cutTo ys k - 1) 0 ≠ 0 := by
      intro k
      induction k with
      | zero => exact .inl rfl
      | succ k ih =>
        by_cases h0 : ys.getD k 0 = 0
        · rw [cutTo_down ys k h0]; exact ih
        · rw [cutTo_stop ys k h0]; exact .inr (by simpa using h0)
    have hle := cutTo_le ys ys.length
    rcases hstop ys.length with h | h
    · left; unfold cutL; rw [h]; simp
    · rcases Nat.eq_zero_or_pos (cutTo ys ys.length) with h0 | h0
      · left; unfold cutL; rw [h0]; simp
      · right
        unfold cutL
        rw [List.getD_eq_getElem?_getD, List.getElem?_take_of_lt (by omega), ← List.getD_eq_getElem?_getD]
        exact h
  generalize cutL ys = zs at *
  have hg : ∀ k : Nat, k < 64 → atZ zs k = zs.getD k 0 := atZ_of zs hm
  have hz : nzc (fun k => atZ zs k) 64 = zs.length := by
    have key : ∀ m, zs.length ≤ m → m ≤ 64 → nzc (fun k => atZ zs k) m = zs.length := by
      intro m
      induction m with
      | zero => intro h _; simp [nzc]; omega
      | succ m ih =>
        intro h1 h2
        by_cases he : zs.length = m + 1
        · rw [nzc_stop _ m (by
            show atZ zs m ≠ 0
            rw [hg m (by omega)]
            rcases hlast with h | h
            · rw [h] at he; simp at he
            · rw [he, Nat.add_sub_cancel] at h; exact h), he]
        · rw [nzc_down _ m (by
            show atZ zs m = 0
            rw [hg m (by omega), List.getD_eq_getElem?_getD, List.getElem?_eq_none (by omega)]; rfl)]
          exact ih (by omega) (by omega)
    exact key 64 hl (Nat.le_refl _)
  unfold nrm
  rw [hz]
  apply List.ext_getElem?
  intro i
  by_cases hi : i < zs.length
  · rw [List.getElem?_take_of_lt hi]
    unfold row
    rw [List.getElem?_map, List.getElem?_range (by omega)]
    simp only [Option.map_some]
    rw [hg i (by omega), List.getD_eq_getElem?_getD, List.getElem?_eq_getElem hi]; rfl
  · rw [List.getElem?_eq_none (by simp; omega), List.getElem?_eq_none (by omega)]
theorem refSame (t n : Int) (w : World) : Calls Tryz.prog 52 #[.agg #[.int .i64 t, .int .i64 n], .agg #[.int .i64 t, .int .i64 n]] w fun e w' => e = .returned (.bool true) ∧ Below w.heap.size w w' := by
  go_enter Tryz.func52, Tryz.ntmps52
  go_wp2
  go_ret
  exact ⟨rfl, ((Below.refl _ _).alloc (Nat.le_refl _) _).alloc (by simp) _⟩
end Go.Proofs.YthbalmoafpggdaaGreat
namespace Go.Proofs.YthbalmoafpggdaaGreat
open Go.RowKit
set_option linter.unusedVariables false
set_option linter.unusedSimpArgs false
theorem vecAt (v : Value) (xs : List Int) (node : Int) (w : World) (h : Rdv i64v w v xs) :
    Calls Tryz.prog 98 #[v, .int .i64 node] w fun e w' => e = .returned (.int .i64 (atZ xs node)) ∧ w = w' := by
  obtain ⟨a, c, rfl, h1, h2, h3⟩ := h
  unfold maxLen at h2
  by_cases c1 : node < 0
  · have H : Hid (atZ xs node = 0) := by unfold atZ; rw [if_pos (.inl c1)]; exact rfl
    go_enter Tryz.func98, Tryz.ntmps98
    go_wp2
    go_ret
    exact ⟨ret_i H.out.symm, rfl⟩
  by_cases c2 : (xs.length : Int) ≤ node ∨ 64 ≤ node
  · have H : Hid (atZ xs node = 0) := by unfold atZ; rw [if_pos (.inr c2)]; exact rfl
    have c3 : min (xs.length : Int) 64 ≤ node := by omega
    clear c2
    go_enter Tryz.func98, Tryz.ntmps98
    go_wp2
    all_goals
      go_ret
      exact ⟨ret_i H.out.symm, rfl⟩
  rcases h3 with rfl | ⟨b, o, rfl, h3⟩
  · exact absurd c2 (by simp; omega)
  obtain ⟨i, rfl⟩ := Int.eq_ofNat_of_zero_le (Int.not_lt.1 c1)
  have hi : i < xs.length := by omega
  have hi' : i < 64 := by omega
  have hc := h3 i hi
  have hA : atZ xs i = if xs.getD i 0 < 0 ∨ 1152921504606846976 < xs.getD i 0 then 0 else xs.getD i 0 := by
    unfold atZ; rw [if_neg (by omega)]; simp
  generalize xs.getD i 0 = x at *
  clear h3 c1 c2
  have hm : ((i : Int) < min (xs.length : Int) 64) := by omega
  have HA := Lib.hid hA; clear hA
  go_enter Tryz.func98, Tryz.ntmps98
  go_wp2
  all_goals
    go_ret
    refine ⟨ret_i ?_, rfl⟩
    rw [HA.out]
    split <;> first | rfl | omega

theorem Tryz.info3 : (Tryz.prog.info? 3).map (fun i => (i.zero, i.size, i.bytes)) = some (some (.int .i64 0), 1, 8) := by kernel_rfl
/-- Where the first is greater, ahead of k. -/
def aheadTo (xs ys : List Int) (k : Nat) : List Int := ((List.range k).filter (fun i : Nat => decide (atZ ys i < atZ xs i))).map (fun i : Nat => (i : Int))
theorem aheadTo_succ (xs ys : List Int) (k : Nat) : aheadTo xs ys (k + 1) = aheadTo xs ys k ++ if atZ ys k < atZ xs k then [(k : Int)] else [] := by
  unfold aheadTo
  rw [List.range_succ, List.filter_append]
  by_cases h : atZ ys k < atZ xs k <;> simp [h]
theorem aheadTo_len (xs ys : List Int) (k : Nat) : (aheadTo xs ys k).length ≤ k := by
  have := List.length_filter_le (fun i : Nat => decide (atZ ys i < atZ xs i)) (List.range k)
  simpa [aheadTo] using this
/-- No number of the first is greater. -/
def leqB (xs ys : List Int) : Bool := ((aheadTo xs ys 64).length : Int) == 0
theorem leqB_iff (xs ys : List Int) : leqB xs ys = true ↔ ∀ k : Nat, k < 64 → atZ xs k ≤ atZ ys k := by
  have h1 : leqB xs ys = true ↔ aheadTo xs ys 64 = [] := by
    unfold leqB
    rw [beq_iff_eq, ← List.length_eq_zero_iff]
    omega
  rw [h1]
  unfold aheadTo
  rw [List.map_eq_nil_iff, List.filter_eq_nil_iff]
  constructor
  · intro h k hk
    have := h k (List.mem_range.2 hk)
    simpa using this
  · intro h k hk
    have := h k (List.mem_range.1 hk)
    simpa using this
set_option maxHeartbeats 1000000 in
theorem refLeq (u v : Value) (xs ys : List Int) (w : World) (hu : Rdv i64v w u xs) (hv : Rdv i64v w v ys) : Calls Tryz.prog 84 #[u, v] w fun e w' => e = .returned (.bool (leqB xs ys)) ∧ w = w' := by
  have KU := Lib.hid (fun k => refAt u xs k w hu)
  have KV := Lib.hid (fun k => refAt v ys k w hv)
  clear hu hv
  go_enter Tryz.func84, Tryz.ntmps84
  go_wp2
  go_loop [5] (fun i => ∃ k : Nat, k ≤ 64 ∧ i = .int .i64 k ∧ ∀ j : Nat, j < k → atZ xs j ≤ atZ ys j) (fun i => 64 - (intOf i).toNat)
  case atStart => exact ⟨0, by omega, rfl, fun j hj => by omega⟩
  case round =>
    obtain ⟨k, hk, rfl, hj⟩ := hrel
    have HJ := Lib.hid hj; clear hj
    by_cases hlt : k < 64
    · by_cases h0 : atZ ys k < atZ xs k
      · have H0 : Hid (leqB xs ys = false) := by
          have h : ¬ leqB xs ys = true := fun h => by have := (leqB_iff xs ys).1 h k hlt; omega
          exact (by simpa using h : leqB xs ys = false)
        go_wp2_with fail
        refine (KU.out _).mono ?_
        rintro e w2 ⟨rfl, rfl⟩
        go_wp2_with fail
        refine (KV.out _).mono ?_
        rintro e w2 ⟨rfl, rfl⟩
        go_wp2
        go_ret
        exact ⟨ret_b H0.out.symm, rfl⟩
      · have H0 : Hid (∀ j : Nat, j < k + 1 → atZ xs j ≤ atZ ys j) := fun j hj => by
          rcases Nat.lt_succ_iff_lt_or_eq.1 hj with h | rfl
          · exact HJ.out j h
          · omega
        go_wp2_with fail
        refine (KU.out _).mono ?_
        rintro e w2 ⟨rfl, rfl⟩
        go_wp2_with fail
        refine (KV.out _).mono ?_
        rintro e w2 ⟨rfl, rfl⟩
        go_wp2
        go_round
        case rel => exact ⟨k + 1, by omega, by go_num, H0.out⟩
        case measure => simp [intOf]; omega
    · obtain rfl : k = 64 := by omega
      have H0 : Hid (leqB xs ys = true) := (leqB_iff xs ys).2 HJ.out
      go_wp2
      go_ret
      exact ⟨ret_b H0.out.symm, rfl⟩
theorem refEq (u v : Value) (xs ys : List Int) (w : World) (hu : Rdv i64v w u xs) (hv : Rdv i64v w v ys) : Calls Tryz.prog 42 #[u, v] w fun e w' => e = .returned (.bool (leqB xs ys && leqB ys xs)) ∧ w = w' := by
  have K0 := refLeq u v xs ys w hu hv
  have K2 := Lib.hid (refLeq v u ys xs w hv hu)
  clear hu hv
  cases hp : leqB xs ys
  all_goals
    rw [hp] at K0
    have K := Lib.hid K0
    clear K0 hp
  · go_enter Tryz.func42, Tryz.ntmps42
    go_wp2_with fail
    refine K.out.mono ?_
    rintro e w1 ⟨rfl, rfl⟩
    go_wp2
    go_ret
    exact ⟨ret_b (by simp), rfl⟩
  · go_enter Tryz.func42, Tryz.ntmps42
    go_wp2_with fail
    refine K.out.mono ?_
    rintro e w1 ⟨rfl, rfl⟩
    go_wp2_with fail
    refine K2.out.mono ?_
    rintro e w2 ⟨rfl, rfl⟩
    go_wp2
    go_ret
    exact ⟨ret_b (by simp), rfl⟩
end Go.Proofs.YthbalmoafpggdaaGreat
namespace Go.Proofs.YthbalmoafpggdaaGreat
open Go.Shelf
def Tryz.lays119_ren : Go.Shelf.Ren := ⟨fun | 119 => 110 | n => n, fun | 21 => 21 | 4 => 4 | n => n, fun | n => n⟩
theorem Tryz.lays119 : Go.Proofs.Lays.n119 Tryz.prog Tryz.lays119_ren := {
  mixed := by kernel_rfl
  f119 := Tryz.func110.trans (congrArg some (by kernel_rfl))
  t4 := Tryz.underlying4
  a4 := Tryz.isAgg4
  z4 := Tryz.sizeOf4
  v4 := Tryz.zeroValue4
  t21 := Tryz.underlying21
  a21 := Tryz.isAgg21
  z21 := Tryz.sizeOf21
  v21 := Tryz.zeroValue21 }
theorem Tryz.utf8_ValidRune (r : Int) (w : World) :
    Calls Tryz.prog 110 #[.int .i32 r] w fun e w' => e = .returned (.bool (Lib.validRune r)) ∧ w' = w := Any.utf8_ValidRune Tryz.lays119 r w
def Tryz.lays137_ren : Go.Shelf.Ren := ⟨fun | 137 => 109 | 217 => 115 | 266 => 116 | n => n, fun | 9 => 9 | 5 => 5 | 3 => 3 | n => n, fun | n => n⟩
theorem Tryz.lays137 : Go.Proofs.Lays.n137 Tryz.prog Tryz.lays137_ren := {
  mixed := by kernel_rfl
  f137 := Tryz.func109.trans (congrArg some (by kernel_rfl))
  f217 := Tryz.func115.trans (congrArg some (by kernel_rfl))
  f266 := Tryz.func116.trans (congrArg some (by kernel_rfl))
  t3 := Tryz.underlying3
  a3 := Tryz.isAgg3
  z3 := Tryz.sizeOf3
  v3 := Tryz.zeroValue3
  t5 := Tryz.underlying5
  a5 := Tryz.isAgg5
  z5 := Tryz.sizeOf5
  v5 := Tryz.zeroValue5
  t9 := Tryz.underlying9
  a9 := Tryz.isAgg9
  z9 := Tryz.sizeOf9
  v9 := Tryz.zeroValue9 }
open Go.RowKit in
theorem Tryz.strings_IndexByte (s : ByteArray) (c : Int) (w : World) :
    Calls Tryz.prog 109 #[.string s, .int .u8 c] w fun e w' => e = .returned (.int .i64 (Lib.indexByte s.data.toList c.toNat.toUInt8)) ∧ w' = w := Any.strings_IndexByte Tryz.lays137 s c w
def Tryz.lays152_ren : Go.Shelf.Ren := ⟨fun | 152 => 103 | 137 => 109 | 119 => 110 | 224 => 111 | 225 => 112 | 217 => 115 | 266 => 116 | n => n, fun | 9 => 9 | 21 => 21 | 3 => 3 | 4 => 4 | 5 => 5 | 0 => 0 | 46 => 95 | n => n, fun | n => n⟩
theorem Tryz.lays152 : Go.Proofs.Lays.n152 Tryz.prog Tryz.lays152_ren := {
  mixed := by kernel_rfl
  f119 := Tryz.func110.trans (congrArg some (by kernel_rfl))
  f137 := Tryz.func109.trans (congrArg some (by kernel_rfl))
  f152 := Tryz.func103.trans (congrArg some (by kernel_rfl))
  f217 := Tryz.func115.trans (congrArg some (by kernel_rfl))
  f224 := Tryz.func111.trans (congrArg some (by kernel_rfl))
  f225 := Tryz.func112.trans (congrArg some (by kernel_rfl))
  f266 := Tryz.func116.trans (congrArg some (by kernel_rfl))
  t0 := Tryz.underlying0
  a0 := Tryz.isAgg0
  z0 := Tryz.sizeOf0
  v0 := Tryz.zeroValue0
  t3 := Tryz.underlying3
  a3 := Tryz.isAgg3
  z3 := Tryz.sizeOf3
  v3 := Tryz.zeroValue3
  t4 := Tryz.underlying4
  a4 := Tryz.isAgg4
  z4 := Tryz.sizeOf4
  v4 := Tryz.zeroValue4
  t5 := Tryz.underlying5
  a5 := Tryz.isAgg5
  z5 := Tryz.sizeOf5
  v5 := Tryz.zeroValue5
  t9 := Tryz.underlying9
  a9 := Tryz.isAgg9
  z9 := Tryz.sizeOf9
  v9 := Tryz.zeroValue9
  t21 := Tryz.underlying21
  a21 := Tryz.isAgg21
  z21 := Tryz.sizeOf21
  v21 := Tryz.zeroValue21
  t46 := Tryz.underlying95
  a46 := Tryz.isAgg95
  z46 := Tryz.sizeOf95
  v46 := Tryz.zeroValue95 }
open Go.RowKit Go.Lib in
theorem Tryz.strings_IndexRune_ascii (s : ByteArray) (r : Int) (w : World) (h0 : 0 ≤ r) (h1 : r < 128) :
    Calls Tryz.prog 103 #[.string s, .int .i32 r] w fun e w' => e = .returned (.int .i64 (Lib.indexByte s.data.toList r.toNat.toUInt8)) ∧ w' = w := Any.strings_IndexRune_ascii Tryz.lays152 s r w h0 h1
def Tryz.lays226_ren : Go.Shelf.Ren := ⟨fun | 226 => 104 | n => n, fun | 3 => 3 | 4 => 4 | n => n, fun | n => n⟩
theorem Tryz.lays226 : Go.Proofs.Lays.n226 Tryz.prog Tryz.lays226_ren := {
  mixed := by kernel_rfl
  f226 := Tryz.func104.trans (congrArg some (by kernel_rfl))
  t3 := Tryz.underlying3
  a3 := Tryz.isAgg3
  z3 := Tryz.sizeOf3
  v3 := Tryz.zeroValue3
  t4 := Tryz.underlying4
  a4 := Tryz.isAgg4
  z4 := Tryz.sizeOf4
  v4 := Tryz.zeroValue4 }
open Go.RowKit Go.Lib in
theorem Tryz.strings_shouldUseASCIISet (n : Int) (w : World) :
    Calls Tryz.prog 104 #[.int .i64 n] w fun e w' => e = .returned (.bool (decide (8 < n))) ∧ w' = w := Any.strings_shouldUseASCIISet Tryz.lays226 n w
def Tryz.lays153_ren : Go.Shelf.Ren := ⟨fun | 153 => 101 | 152 => 103 | 226 => 104 | 227 => 105 | 228 => 106 | 137 => 109 | 119 => 110 | 224 => 111 | 225 => 112 | 217 => 115 | 266 => 116 | n => n, fun | 9 => 9 | 3 => 3 | 4 => 4 | 5 => 5 | 21 => 21 | 117 => 121 | 116 => 120 | 0 => 0 | 46 => 95 | 124 => 129 | n => n, fun | n => n⟩
theorem Tryz.lays153 : Go.Proofs.Lays.n153 Tryz.prog Tryz.lays153_ren := {
  mixed := by kernel_rfl
  f119 := Tryz.func110.trans (congrArg some (by kernel_rfl))
  f137 := Tryz.func109.trans (congrArg some (by kernel_rfl))
  f152 := Tryz.func103.trans (congrArg some (by kernel_rfl))
  f153 := Tryz.func101.trans (congrArg some (by kernel_rfl))
  f217 := Tryz.func115.trans (congrArg some (by kernel_rfl))
  f224 := Tryz.func111.trans (congrArg some (by kernel_rfl))
  f225 := Tryz.func112.trans (congrArg some (by kernel_rfl))
  f226 := Tryz.func104.trans (congrArg some (by kernel_rfl))
  f227 := Tryz.func105.trans (congrArg some (by kernel_rfl))
  f228 := Tryz.func106.trans (congrArg some (by kernel_rfl))
  f266 := Tryz.func116.trans (congrArg some (by kernel_rfl))
  t0 := Tryz.underlying0
  a0 := Tryz.isAgg0
  z0 := Tryz.sizeOf0
  v0 := Tryz.zeroValue0
  t3 := Tryz.underlying3
  a3 := Tryz.isAgg3
  z3 := Tryz.sizeOf3
  v3 := Tryz.zeroValue3
  t4 := Tryz.underlying4
  a4 := Tryz.isAgg4
  z4 := Tryz.sizeOf4
  v4 := Tryz.zeroValue4
  t5 := Tryz.underlying5
  a5 := Tryz.isAgg5
  z5 := Tryz.sizeOf5
  v5 := Tryz.zeroValue5
  t9 := Tryz.underlying9
  a9 := Tryz.isAgg9
  z9 := Tryz.sizeOf9
  v9 := Tryz.zeroValue9
  t21 := Tryz.underlying21
  a21 := Tryz.isAgg21
  z21 := Tryz.sizeOf21
  v21 := Tryz.zeroValue21
  t46 := Tryz.underlying95
  a46 := Tryz.isAgg95
  z46 := Tryz.sizeOf95
  v46 := Tryz.zeroValue95
  t116 := Tryz.underlying120
  a116 := Tryz.isAgg120
  z116 := Tryz.sizeOf120
  t117 := Tryz.underlying121
  a117 := Tryz.isAgg121
  z117 := Tryz.sizeOf121
  v117 := Tryz.zeroValue121
  t124 := Tryz.underlying129
  a124 := Tryz.isAgg129
  z124 := Tryz.sizeOf129
  v124 := Tryz.zeroValue129 }
open Go.RowKit Go.Lib in
theorem Tryz.strings_IndexAny_long (hv116 : ∀ w, (zeroValue 120).run Tryz.prog w = .ok (.agg (Array.replicate 256 (.bool false))) w) (s chars : ByteArray) (w : World) (h2 : 2 ≤ chars.size) (h8 : 8 < s.size) (hs : s.size < 4294967281) (hcs : chars.size < 4294967281) (hascii : ∀ (j : Nat) b, chars.data.toList[j]? = some b → b.toNat < 128) :
    Calls Tryz.prog 101 #[.string s, .string chars] w fun e w' => e = .returned (.int .i64 (Lib.indexAny s.data.toList chars.data.toList)) ∧ w' = ((w.alloc (.cells (Lib.setCells chars.data.toList) 120)).alloc (.cells (Lib.setCells chars.data.toList) 120)) := Any.strings_IndexAny_long Tryz.lays153 hv116 (by kernel_rfl) s chars w h2 h8 hs hcs hascii
end Go.Proofs.YthbalmoafpggdaaGreat
namespace Go.Proofs.YthbalmoafpggdaaGreat
open Go.RowKit
set_option linter.unusedVariables false
set_option linter.unusedSimpArgs false
theorem iter_below (w : World) (s : ByteArray) (i : Nat) : Below w.heap.size w (w.iter s i) := (Below.refl _ _).alloc (Nat.le_refl _) _
theorem ascii_mem {chars : ByteArray} (ha : ∀ (j : Nat) b, chars.data.toList[j]? = some b → b.toNat < 128) : ∀ b ∈ chars.data.toList, b.toNat < 128 := by
  intro b hb
  obtain ⟨j, hj, e⟩ := List.mem_iff_getElem.1 hb
  exact ha j b (by rw [List.getElem?_eq_getElem hj, e])
set_option maxHeartbeats 2000000 in
set_option maxRecDepth 1000000 in
theorem idxRuneErr (chars : ByteArray) (w : World) (ha : ∀ (j : Nat) b, chars.data.toList[j]? = some b → b.toNat < 128) :
    Calls Tryz.prog 103 #[.string chars, .int .i32 65533] w fun e w' => e = .returned (.int .i64 (-1)) ∧ Below w.heap.size w w' := by
  have HA := Lib.hid ha
  clear ha
  go_enter Tryz.func103, Tryz.ntmps103
  go_wp2_with fail
  go_loopg [5, 6] chars.size (fun g _ _ wx => ∃ i : Nat, i + g = chars.size ∧ wx = w.iter chars i)
  case atStart => exact ⟨0, by omega, rfl⟩
  case round =>
    obtain ⟨i, hig, rfl⟩ := hrel
    cases gk with
    | zero =>
      obtain rfl : i = chars.size := by omega
      have hnx := run_next_end (P := Tryz.prog) w chars chars.size
      go_wp2
      go_ret
      exact ⟨rfl, iter_below _ _ _⟩
    | succ g =>
      have hi : i < chars.size := by omega
      obtain ⟨x, hx⟩ : ∃ x : UInt8, chars[i]'hi = x := ⟨_, rfl⟩
      have hxl : chars.data.toList[i]? = some x := by rw [← hx]; exact Lib.data_getElem? chars i hi
      have hx128 : x.toNat < 128 := HA.out i x hxl
      have hnx := fun ty => run_next_ascii (P := Tryz.prog) w chars i ty hi (by rw [hx]; exact hx128)
      rw [hx] at hnx
      clear hxl hx
      have hne : ((x.toNat : Int) == 65533) = false := beq_eq_false_iff_ne.2 (by omega)
      go_wp2
      go_roundg g
      case measure => omega
      case rel => exact ⟨i + 1, by omega, rfl⟩
set_option maxHeartbeats 2000000 in
set_option maxRecDepth 1000000 in
theorem idxRuneHi (chars : ByteArray) (r : Int) (w : World) (ha : ∀ (j : Nat) b, chars.data.toList[j]? = some b → b.toNat < 128) (hs : chars.size ≤ 1000) (h1 : 128 ≤ r) (h2 : r ≠ 65533) (hv : Lib.validRune r = true) :
    Calls Tryz.prog 103 #[.string chars, .int .i32 r] w fun e w' => e = .returned (.int .i64 (-1)) ∧ Below w.heap.size w w' := by
  have hv2 : Utf8.valid r = true := by rw [validRune_eq]; exact hv
  obtain ⟨f1, f2, f3⟩ := encode_facts r hv2 h1
  obtain ⟨E, hE⟩ : ∃ E, Utf8.encode r = E := ⟨_, rfl⟩
  rw [hE] at f1 f2 f3
  obtain ⟨k, hk⟩ : ∃ k, E.size = k + 1 := ⟨E.size - 1, by omega⟩
  have g0 : ¬ (r < 128) := by omega
  have g1 : (r == 65533) = false := beq_eq_false_iff_ne.2 h2
  have HV := Lib.hid (fun w => (by have h := Tryz.utf8_ValidRune r w; rw [hv] at h; exact h : Calls Tryz.prog 110 #[.int .i32 r] w fun e w' => e = .returned (.bool true) ∧ w' = w))
  have HS := Lib.hid (ascii_mem ha)
  have HA := Lib.hid ha
  have HF := Lib.hid f3
  clear ha hv hv2 h2 f3
  have hkE : k < E.size := by omega
  obtain ⟨y, hy⟩ : ∃ y : UInt8, E[k]'hkE = y := ⟨_, rfl⟩
  have hy128 : 128 ≤ y.toNat := by
    have := HF.out (by omega)
    rw [← hy]
    have e : ∀ (m : Nat) (h : m < E.size), m = k → E[m]'h = E[k]'hkE := fun m h e => by subst e; rfl
    rwa [e _ _ (by omega)] at this
  have hback : ((y.toNat : Int)).toNat.toUInt8 = y := by simp
  have HB : ∀ a e, Lib.indexByte (chars.extract a e).data.toList y = -1 := fun a e => by rw [← Lib.firstIdx_eq, firstIdx_ascii chars a e y HS.out hy128]
  have HIB := Lib.hid (fun (a e : Nat) (w : World) => (by have h := Tryz.strings_IndexByte (chars.extract a e) (y.toNat : Int) w; rw [hback, HB] at h; exact h : Calls Tryz.prog 109 #[.string (chars.extract a e), .int .u8 (y.toNat : Int)] w fun e w' => e = .returned (.int .i64 (-1)) ∧ w' = w))
  clear HB hback
  have k0 : k ≤ 3 := by omega
  have k1 : (E.size : Int) - 1 = k := by omega
  have k2 : (0 : Int) ≤ k := by omega
  have k3 : (k : Int) < E.size := by omega
  have K1 := Lib.hid k1
  by_cases hlt : k < chars.size
  · obtain ⟨x, hx⟩ : ∃ x : UInt8, chars[k]'hlt = x := ⟨_, rfl⟩
    have hx128 : x.toNat < 128 := HA.out k x (by rw [← hx]; exact Lib.data_getElem? chars k hlt)
    have hxy : ((x.toNat : Int) != (y.toNat : Int)) = true := by rw [bne_iff_ne]; omega
    have k4 : (k : Int) < chars.size := by omega
    have k5 : (0 : Int) ≤ (k : Int) + 1 := by omega
    have k6 : (k : Int) + 1 ≤ chars.size := by omega
    have k7 : ((k : Int) + 1).toNat = k + 1 := by omega
    have k8 : IntKind.i64.wrap ((k : Int) + 1) = (k : Int) + 1 := IntWalk.i64_in _ (by omega)
    clear f1 f2 hk
    go_enter Tryz.func103, Tryz.ntmps103
    go_wp2_with (go_at_call 110; refine (HV.out _).mono ?_; rintro e w1 ⟨rfl, rfl⟩)
    go_step3
    go_wp2
    go_loopw [9] (fun i wr => i = .int .i64 k ∧ Drw w1 wr) (fun _ _ => 0)
    case atStart => exact ⟨rfl, 0, rfl⟩
    case round =>
      obtain ⟨rfl, nd, rfl⟩ := hrel
      go_wp2
      go_step3
      go_wp2
      go_quiet (fail)
      go_wp2
      go_quiet ((go_at_call 109; exact (HIB.out _ _ _).mono fun _ _ h => ⟨h.1, _, h.2⟩))
      go_wp2
      iterate 7
        show Exit.noGoto _ Exit.ret _ _
        rw [Exit.noGoto_ret]
      show bodyPost _ _ _ Exit.ret _ _
      go_ret
      exact ⟨rfl, Drw.below ⟨_, rfl⟩⟩
  · have k4 : ¬ ((k : Int) < chars.size) := by omega
    clear f1 f2 hk
    go_enter Tryz.func103, Tryz.ntmps103
    go_wp2_with (go_at_call 110; refine (HV.out _).mono ?_; rintro e w1 ⟨rfl, rfl⟩)
    go_step3
    go_wp2
    go_loopw [9] (fun i wr => i = .int .i64 k ∧ Drw w1 wr) (fun _ _ => 0)
    case atStart => exact ⟨rfl, 0, rfl⟩
    case round =>
      obtain ⟨rfl, nd, rfl⟩ := hrel
      go_wp2
      rw [Exit.noGoto_ret]
      go_ret
      exact ⟨rfl, (Drw.below ⟨nd, rfl⟩)⟩
theorem get!_of {s : ByteArray} {i : Nat} (h : i < s.size) : s.get! i = s[i]'h := by
  simp [ByteArray.get!, getElem!_pos, h]
  rfl
theorem none_step {s chars : List UInt8} {i : Nat} (h : Lib.NoAny s chars i) (n : Nat) (hn : ∀ j b, i ≤ j → j < i + n → s[j]? = some b → chars.contains b = false) : Lib.NoAny s chars (i + n) := fun j b hj hb => by
  rcases Nat.lt_or_ge j i with h1 | h1
  · exact h j b h1 hb
  · exact hn j b h1 hj hb
theorem not_ascii {chars : List UInt8} (ha : ∀ b ∈ chars, b.toNat < 128) {b : UInt8} (hb : 128 ≤ b.toNat) : chars.contains b = false := by
  rw [Bool.eq_false_iff]
  intro h
  have := ha b (by simpa using h)
  omega
/-- A rune beyond ASCII: it is valid, and all its bytes are beyond ASCII. -/
theorem decode_hi (s : ByteArray) (i : Nat) (hi : i < s.size) (h : 128 ≤ (s.get! i).toNat) :
    128 ≤ (Utf8.decode s i).1 ∧ Lib.validRune ((Utf8.decode s i).1 : Int) = true ∧ 1 ≤ (Utf8.decode s i).2 ∧ i + (Utf8.decode s i).2 ≤ s.size ∧ ∀ j, i ≤ j → j < i + (Utf8.decode s i).2 → 128 ≤ (s.get! j).toNat := by
  have b0 := (s.get! i).toNat_lt
  have b1 := (s.get! (i + 1)).toNat_lt
  have b2 := (s.get! (i + 2)).toNat_lt
  have b3 := (s.get! (i + 3)).toNat_lt
  rw [Lib.decode_at]
  rcases Lib.decodeN_shape (s.size - i) (s.get! i).toNat (s.get! (i + 1)).toNat (s.get! (i + 2)).toNat (s.get! (i + 3)).toNat with ⟨h1, e⟩ | ⟨h1, h2, h3, h4, e⟩ | ⟨h1, h2, h3, h4, h5, h6, e⟩ | ⟨h1, h2, h3, h4, h5, h6, h7, e⟩ | e
  · omega
  · rw [e]
    refine ⟨h4, by unfold Lib.validRune; rw [decide_eq_true]; omega, by omega, by simp only; omega, fun j j1 j2 => ?_⟩
    rcases (show j = i ∨ j = i + 1 by simp only at j2; omega) with rfl | rfl
    all_goals omega
  · rw [e]
    refine ⟨by simp only; omega, by unfold Lib.validRune; rw [decide_eq_true]; omega, by omega, by simp only; omega, fun j j1 j2 => ?_⟩
    rcases (show j = i ∨ j = i + 1 ∨ j = i + 2 by simp only at j2; omega) with rfl | rfl | rfl
    all_goals omega
  · rw [e]
    refine ⟨by simp only; omega, by unfold Lib.validRune; rw [decide_eq_true]; omega, by omega, by simp only; omega, fun j j1 j2 => ?_⟩
    rcases (show j = i ∨ j = i + 1 ∨ j = i + 2 ∨ j = i + 3 by simp only at j2; omega) with rfl | rfl | rfl | rfl
    all_goals omega
  · rw [e]
    refine ⟨by simp only; omega, by decide, by omega, by simp only; omega, fun j j1 j2 => ?_⟩
    obtain rfl : j = i := by simp only at j2; omega
    omega
theorem hi_contains {s chars : ByteArray} {i : Nat} (ha : ∀ b ∈ chars.data.toList, b.toNat < 128) (h : Lib.NoAny s.data.toList chars.data.toList i) (n : Nat) (hn : i + n ≤ s.size) (hh : ∀ j, i ≤ j → j < i + n → 128 ≤ (s.get! j).toNat) : Lib.NoAny s.data.toList chars.data.toList (i + n) := by
  refine none_step h n fun j b j1 j2 hb => not_ascii ha ?_
  have hj : j < s.size := by omega
  have := hh j j1 j2
  rw [get!_of hj] at this
  rw [Lib.data_getElem? s j hj] at hb
  injection hb with hb
  rwa [hb] at this
theorem below_iterAt {B : Nat} {w wr : World} (h : Below B w wr) (k : Nat) (s : ByteArray) (p : Nat) (hk : B ≤ k) : Below B w (wr.iterAt k s p) :=
  ⟨h.os, h.tape, h.output, by simpa [World.iterAt] using h.size, fun i hi => by
    rw [← h.block i hi]
    simp only [World.iterAt]
    rw [Array.getElem?_setIfInBounds]
    rw [if_neg (by omega)]⟩
theorem iter_kept {B k : Nat} {w wr : World} {s : ByteArray} {p : Nat} (h : Below w.heap.size w wr) (hk : w.heap[k]? = some (.stringIter s p)) : wr.heap[k]? = some (.stringIter s p) := by
  rw [h.block k (Array.getElem?_eq_some_iff.1 hk).1, hk]
set_option maxHeartbeats 8000000 in
set_option maxRecDepth 1000000 in
theorem idxAnyShort (s chars : ByteArray) (w : World) (h2 : 2 ≤ chars.size) (hc : chars.size ≤ 1000) (h8 : s.size ≤ 8) (ha : ∀ (j : Nat) b, chars.data.toList[j]? = some b → b.toNat < 128) :
    Calls Tryz.prog 101 #[.string s, .string chars] w fun e w' => e = .returned (.int .i64 (Lib.indexAny s.data.toList chars.data.toList)) ∧ Below w.heap.size w w' := by
  have HA := Lib.hid (ascii_mem ha)
  have HI := Lib.hid (fun r w h1 hv => (by
    by_cases hr : r = 65533
    · subst hr; exact idxRuneErr chars w ha
    · exact idxRuneHi chars r w ha hc h1 hr hv : Calls Tryz.prog 103 #[.string chars, .int .i32 r] w fun e w' => e = .returned (.int .i64 (-1)) ∧ Below w.heap.size w w') : ∀ (r : Int) (w : World), 128 ≤ r → Lib.validRune r = true → _)
  clear ha
  have hemp : chars.toList.isEmpty = false := by
    rw [Lib.toList_data]
    cases h : chars.data.toList with
    | nil => have := Lib.size_eq chars; rw [h, List.length_nil] at this; omega
    | cons _ _ => rfl
  have hn1 : ((chars.size : Int) == 1) = false := beq_eq_false_iff_ne.2 (by omega)
  have h8z : decide ((8 : Int) < (s.size : Int)) = false := decide_eq_false (by omega)
  go_enter Tryz.func101, Tryz.ntmps101
  go_wp2_with (go_at_call 104; refine (Tryz.strings_shouldUseASCIISet _ _).mono ?_; rintro e w' ⟨rfl, hw⟩; rw [hw, h8z])
  go_loopg [9, 10] s.size (fun g _ _ wx => ∃ (i : Nat), i + g = s.size ∧ wx.heap[w.heap.size]? = some (.stringIter s i) ∧ Lib.NoAny s.data.toList chars.data.toList i ∧ Below w.heap.size w wx)
  case atStart => exact ⟨0, by omega, by rw [World.iter]; exact heap_alloc_new w _, Lib.NoAny.zero _ _, iter_below _ _ _⟩
  case round =>
    obtain ⟨i, hig, hit, hno, hb⟩ := hrel
    have HN := Lib.hid hno
    have HB := Lib.hid hb
    have HIT := Lib.hid hit
    clear hno hb
    rcases Nat.lt_or_ge i s.size with hi | hi
    · obtain ⟨x, hx⟩ : ∃ x : UInt8, s[i]'hi = x := ⟨_, rfl⟩
      have hxl : s.data.toList[i]? = some x := by rw [← hx]; exact Lib.data_getElem? s i hi
      rcases Nat.lt_or_ge x.toNat 128 with hx128 | hx128
      · have hnx := fun ty => Lib.run_next_ascii_at (P := Tryz.prog) wr w.heap.size s i ty hit hi (by rw [hx]; exact hx128)
        rw [hx] at hnx
        have Hx := Lib.hid hxl
        clear hxl hx
        have hcon := Lib.contains_iff_indexByte chars.data.toList x
        have hback : ((x.toNat : Int)).toNat.toUInt8 = x := by simp
        have HR := Lib.hid (fun w => Tryz.strings_IndexRune_ascii chars (x.toNat : Int) w (by omega) (by omega))
        rw [hback] at HR
        clear hback hit
        have hbi := Lib.hid (below_iterAt HB.out w.heap.size s (i + 1) (Nat.le_refl _))
        have hti := Lib.hid (Lib.iterAt_heap wr w.heap.size s i (i + 1) HIT.out)
        cases hin : chars.data.toList.contains x
        · rw [hin] at hcon
          have hlt : ¬ ((0 : Int) ≤ Lib.indexByte chars.data.toList x) := of_decide_eq_false hcon.symm
          clear hcon
          have HNN := Lib.hid (HN.out.succ Hx.out hin)
          clear hin
          go_wp2_with (go_at_call 103; refine (HR.out _).mono ?_; rintro e w' ⟨rfl, rfl⟩)
          go_roundg (s.size - (i + 1))
          case measure => omega
          case rel => exact ⟨i + 1, by omega, hti.out, HNN.out, hbi.out⟩
        · rw [hin] at hcon
          have hge : (0 : Int) ≤ Lib.indexByte chars.data.toList x := of_decide_eq_true hcon.symm
          clear hcon
          have HNN := Lib.hid (Lib.indexAny_hit HN.out Hx.out hin)
          clear hin
          go_wp2_with (go_at_call 103; refine (HR.out _).mono ?_; rintro e w' ⟨rfl, rfl⟩)
          go_ret
          exact ⟨by rw [HNN.out]; rfl, hbi.out⟩
      · have hg : 128 ≤ (s.get! i).toNat := by rw [get!_of hi, hx]; exact hx128
        obtain ⟨d1, d2, d3, d4, d5⟩ := decode_hi s i hi hg
        have hnx := fun ty => Lib.run_next_any_at (P := Tryz.prog) wr w.heap.size s i ty hit hi
        generalize (Utf8.decode s i).1 = r at *
        generalize (Utf8.decode s i).2 = n at *
        have hbi := below_iterAt HB.out w.heap.size s (i + n) (Nat.le_refl _)
        have hti := Lib.hid (Lib.iterAt_heap wr w.heap.size s i (i + n) HIT.out)
        have HNN := Lib.hid (hi_contains HA.out HN.out n d4 d5)
        have HBI := Lib.hid hbi
        have hr := Lib.hid (fun w => HI.out (r : Int) w (by omega) d2)
        clear d2 d5 hxl hx hg hbi hit
        go_wp2_with (go_at_call 103; refine (hr.out _).mono ?_; rintro e w' ⟨rfl, hb'⟩; have HB2 := Lib.hid hb'; clear hb')
        go_roundg (s.size - (i + n))
        case measure => omega
        case rel => exact ⟨i + n, by omega, iter_kept (B := 0) HB2.out hti.out, HNN.out, HBI.out.trans (HB2.out.mono HBI.out.size)⟩
    · obtain rfl : i = s.size := by omega
      have hnx := fun ty => Lib.run_next_end_at (P := Tryz.prog) wr w.heap.size s s.size ty hit (by omega)
      clear hit
      go_wp2
      go_ret
      exact ⟨by rw [Lib.indexAny_none (by rw [← Lib.size_eq]; exact HN.out)]; rfl, HB.out⟩
theorem zero_set : ∀ w, (zeroValue 120).run Tryz.prog w = .ok (.agg (Array.replicate 256 (.bool false))) w := fun w => by kernel_rfl
/-- strings.ContainsAny: every text. -/
theorem containsAny (s chars : ByteArray) (w : World) (hs : s.size < 4294967281) (h2 : 2 ≤ chars.size) (hc : chars.size ≤ 1000) (ha : ∀ (j : Nat) b, chars.data.toList[j]? = some b → b.toNat < 128) :
    Calls Tryz.prog 99 #[.string s, .string chars] w fun e w' => e = .returned (.bool (Lib.containsAny s.data.toList chars.data.toList)) ∧ Below w.heap.size w w' := by
  have K := Lib.hid (fun w => (by
    rcases Nat.lt_or_ge 8 s.size with h8 | h8
    · refine (Tryz.strings_IndexAny_long zero_set s chars w h2 h8 hs (by omega) ha).mono ?_
      rintro e w' ⟨he, hw⟩
      exact ⟨he, by rw [hw]; exact Below.alloc (Below.alloc (Below.refl _ _) (Nat.le_refl _) _) (by simp) _⟩
    · exact idxAnyShort s chars w h2 hc h8 ha : Calls Tryz.prog 101 #[.string s, .string chars] w fun e w' => e = .returned (.int .i64 (Lib.indexAny s.data.toList chars.data.toList)) ∧ Below w.heap.size w w'))
  clear ha
  go_enter Tryz.func99, Tryz.ntmps99
  go_wp2_with (go_at_call 101; refine (K.out _).mono ?_; rintro e w' ⟨rfl, hb'⟩; have HB2 := Lib.hid hb'; clear hb')
  go_ret
  exact ⟨rfl, HB2.out⟩
end Go.Proofs.YthbalmoafpggdaaGreat
namespace Go.Proofs.YthbalmoafpggdaaGreat
open Go.RowKit
set_option linter.unusedVariables false
set_option linter.unusedSimpArgs false
/-- What is told of a name: cs: the bytes that may not be in it. -/
def nameG (cs l : List UInt8) : Int := if l = [] ∨ l = [46] ∨ l = [46, 46] ∨ Lib.containsAny l cs = true then 22 else if 64 < l.length then 36 else 0
def nameE (l : List UInt8) : Int := nameG [0, 1, 47] l
def localE (l : List UInt8) : Int := nameG [0, 47] l
set_option maxRecDepth 100000 in
theorem opsName (s : ByteArray) (w : World) (hs : s.size < 4294967281) : Calls Tryz.prog 74 #[.string s] w fun e w' => e = .returned (.int .i64 (nameE s.data.toList)) ∧ Below w.heap.size w w' := by
  have K := Lib.hid (fun w => containsAny s ⟨#[0, 1, 47]⟩ w hs (by decide) (by decide) (by intro j b h; rcases j with _ | _ | _ | j <;> simp at h <;> subst h <;> decide))
  go_enter Tryz.func74, Tryz.ntmps74
  go_wp2_with (go_at_call 99; refine (K.out _).mono ?_; rintro e w' ⟨rfl, hb'⟩; have HB2 := Lib.hid hb'; clear hb')
  all_goals
    go_ret
    refine ⟨ret_i (.symm ?_), by first | exact Below.refl _ _ | exact HB2.out⟩
    have e2 := Lib.size_eq s
    unfold nameE nameG
    simp only [Lib.toList_data] at *
    generalize s.data.toList = l at *
    simp_all
    try omega
theorem contains2 (x : UInt8) (a b : UInt8) : ([a, b] : List UInt8).contains x = (decide (x = a) || decide (x = b)) := by
  rw [Bool.eq_iff_iff]; simp
theorem contains1 (x : UInt8) (a : UInt8) : ([a] : List UInt8).contains x = decide (x = a) := by
  rw [Bool.eq_iff_iff]; simp
theorem u8_eq (x : UInt8) (a : Nat) (h : a < 256) : ((x.toNat : Int) = a) ↔ x = UInt8.ofNat a := by
  constructor
  · intro e
    apply UInt8.toNat_inj.1
    rw [UInt8.toNat_ofNat_of_lt' (by simpa using h)]
    omega
  · rintro rfl
    rw [UInt8.toNat_ofNat_of_lt' (by simpa using h)]
theorem any_hit {s cs : List UInt8} {i : Nat} {x : UInt8} (h : Lib.NoAny s cs i) (hx : s[i]? = some x) (hc : cs.contains x = true) : Lib.containsAny s cs = true := by
  unfold Lib.containsAny; rw [Lib.indexAny_hit h hx hc]; simp
theorem any_none {s cs : List UInt8} (h : Lib.NoAny s cs s.length) : Lib.containsAny s cs = false := by
  unfold Lib.containsAny; rw [Lib.indexAny_none h]; rfl
set_option maxRecDepth 100000 in
theorem refLocal (s : ByteArray) (w : World) (hs : s.size < 4294967281) : Calls Tryz.prog 90 #[.string s] w fun e w' => e = .returned (.int .i64 (localE s.data.toList)) ∧ Below w.heap.size w w' := by
  have e2 := Lib.hid (Lib.size_eq s)
  have e3 := Lib.hid (Lib.toList_data s)
  by_cases c1 : s.data.toList = [] ∨ s.data.toList = [46] ∨ s.data.toList = [46, 46]
  · have HE : Hid (localE s.data.toList = 22) := Lib.hid (by unfold localE nameG; rw [if_pos (by rcases c1 with h | h | h <;> simp [h])])
    have c2 : s.toList = [] ∨ s.toList = [46] ∨ s.toList = [46, 46] := by rw [e3.out]; exact c1
    clear c1
    rcases c2 with h | h | h
    all_goals
      go_enter Tryz.func90, Tryz.ntmps90
      go_wp2
      go_ret
      exact ⟨ret_i HE.out.symm, Below.refl _ _⟩
  · have HE : Hid (∀ q, Lib.containsAny s.data.toList [0, 47] = q → localE s.data.toList = if q = true then 22 else if 64 < s.size then 36 else 0) := Lib.hid (by
      intro q hq
      unfold localE nameG
      rw [hq, e2.out]
      cases q
      · rw [if_neg (by simp only [Bool.false_eq_true, or_false]; exact c1)]; simp
      · rw [if_pos (by simp)]; simp)
    have h1 : ¬ s.toList = [] := by rw [e3.out]; exact fun h => c1 (.inl h)
    have h2 : ¬ s.toList = [46] := by rw [e3.out]; exact fun h => c1 (.inr (.inl h))
    have h3 : ¬ s.toList = [46, 46] := by rw [e3.out]; exact fun h => c1 (.inr (.inr h))
    have h4 : s.toList.isEmpty = false := by simpa using h1
    have h5 : (s.toList == [46]) = false := by simpa using h2
    have h6 : (s.toList == [46, 46]) = false := by simpa using h3
    clear c1
    go_enter Tryz.func90, Tryz.ntmps90
    go_wp2
    go_loopw [3] (fun i wr => ∃ k : Nat, k ≤ s.size ∧ i = .int .i64 k ∧ Lib.NoAny s.data.toList [0, 47] k ∧ w = wr) (fun i _ => s.size - (intOf i).toNat)
    case atStart => exact ⟨0, by omega, rfl, Lib.NoAny.zero _ _, rfl⟩
    case round =>
      obtain ⟨k, hk, rfl, hno, rfl⟩ := hrel
      have HN := Lib.hid hno
      clear hno
      by_cases hlt : k < s.size
      · obtain ⟨x, hx⟩ : ∃ x : UInt8, s[k]'hlt = x := ⟨_, rfl⟩
        have HX := Lib.hid (show s.data.toList[k]? = some x by rw [← hx]; exact Lib.data_getElem? s k hlt)
        have hc := Lib.hid (contains2 x 0 47)
        have u1 := Lib.hid (u8_eq x 0 (by omega))
        have u2 := Lib.hid (u8_eq x 47 (by omega))
        by_cases x0 : (x.toNat : Int) = 0
        · have b0 : ((x.toNat : Int) == 0) = true := beq_iff_eq.2 x0
          have HH := Lib.hid (any_hit HN.out HX.out (by rw [hc.out]; simp [u1.out.1 (by simpa using x0)]))
          clear x0
          go_wp2
          go_ret
          exact ⟨ret_i (by rw [HE.out _ HH.out]; rfl), Below.refl _ _⟩
        · by_cases x1 : (x.toNat : Int) = 47
          · have b0 : ((x.toNat : Int) == 0) = false := beq_eq_false_iff_ne.2 x0
            have b1 : ((x.toNat : Int) == 47) = true := beq_iff_eq.2 x1
            have HH := Lib.hid (any_hit HN.out HX.out (by rw [hc.out]; simp [u2.out.1 (by simpa using x1)]))
            clear x0 x1
            go_wp2
            go_ret
            exact ⟨ret_i (by rw [HE.out _ HH.out]; rfl), Below.refl _ _⟩
          · have b0 : ((x.toNat : Int) == 0) = false := beq_eq_false_iff_ne.2 x0
            have b1 : ((x.toNat : Int) == 47) = false := beq_eq_false_iff_ne.2 x1
            have HH := Lib.hid (HN.out.succ HX.out (by
              rw [hc.out, decide_eq_false (fun e => x0 (by simpa using u1.out.2 e)), decide_eq_false (fun e => x1 (by simpa using u2.out.2 e))]; rfl))
            clear x0 x1
            go_wp2
            go_roundw
            case rel => exact ⟨k + 1, by omega, by go_num, HH.out, trivial⟩
            case measure => simp [intOf]; omega
      · obtain rfl : k = s.size := by omega
        have HH := Lib.hid (any_none (s := s.data.toList) (cs := [0, 47]) (by rw [← e2.out]; exact HN.out))
        by_cases hl : 64 < s.size
        · have hl2 : (64 : Int) < s.size := by omega
          go_wp2
          go_ret
          exact ⟨ret_i (by rw [HE.out _ HH.out, if_neg (by decide), if_pos hl]), Below.refl _ _⟩
        · have hl2 : (s.size : Int) ≤ 64 := by omega
          go_wp2
          go_ret
          exact ⟨ret_i (by rw [HE.out _ HH.out, if_neg (by decide), if_neg hl]), Below.refl _ _⟩
theorem indexAny_any : ∀ (l cs : List UInt8), Lib.containsAny l cs = l.any fun b => cs.contains b
  | [], _ => rfl
  | b :: l, cs => by
    have ih := indexAny_any l cs
    have hg := Lib.indexAny_ge cs l
    unfold Lib.containsAny at *
    rw [List.any_cons, ← ih, show Lib.indexAny (b :: l) cs = if cs.contains b then 0 else if Lib.indexAny l cs == -1 then -1 else Lib.indexAny l cs + 1 by rw [Lib.indexAny]]
    by_cases hc : cs.contains b
    · rw [if_pos hc, hc]; rfl
    · rw [if_neg hc]
      have hc' : cs.contains b = false := by simpa using hc
      rw [hc', Bool.false_or]
      by_cases hm : Lib.indexAny l cs = -1
      · rw [hm]; rfl
      · rw [if_neg (by simpa using hm)]
        exact decide_eq_decide.2 (by omega)
theorem nameE_split (l : List UInt8) : nameE l = if Lib.containsAny l [1] = true then 22 else localE l := by
  have e : Lib.containsAny l [0, 1, 47] = (Lib.containsAny l [1] || Lib.containsAny l [0, 47]) := by
    rw [indexAny_any, indexAny_any, indexAny_any, Bool.eq_iff_iff]
    simp only [Bool.or_eq_true, List.any_eq_true]
    constructor
    · rintro ⟨x, h, hx⟩
      simp at hx
      rcases hx with rfl | rfl | rfl
      · exact .inr ⟨_, h, by decide⟩
      · exact .inl ⟨_, h, by decide⟩
      · exact .inr ⟨_, h, by decide⟩
    · rintro (⟨x, h, hx⟩ | ⟨x, h, hx⟩)
      · simp at hx; exact ⟨x, h, by simp [hx]⟩
      · simp at hx; exact ⟨x, h, by rcases hx with rfl | rfl <;> decide⟩
  unfold nameE localE nameG
  rw [e]
  cases Lib.containsAny l [1] <;> simp
set_option maxRecDepth 100000 in
theorem refName (s : ByteArray) (w : World) (hs : s.size < 4294967281) : Calls Tryz.prog 55 #[.string s] w fun e w' => e = .returned (.int .i64 (nameE s.data.toList)) ∧ Below w.heap.size w w' := by
  have e2 := Lib.hid (Lib.size_eq s)
  have HE := Lib.hid (nameE_split s.data.toList)
  have KL := Lib.hid (fun w => refLocal s w hs)
  go_enter Tryz.func55, Tryz.ntmps55
  go_wp2
  go_loopw [3] (fun i wr => ∃ k : Nat, k ≤ s.size ∧ i = .int .i64 k ∧ Lib.NoAny s.data.toList [1] k ∧ w = wr) (fun i _ => s.size - (intOf i).toNat)
  case atStart => exact ⟨0, by omega, rfl, Lib.NoAny.zero _ _, rfl⟩
  case round =>
    obtain ⟨k, hk, rfl, hno, rfl⟩ := hrel
    have HN := Lib.hid hno
    clear hno
    by_cases hlt : k < s.size
    · obtain ⟨x, hx⟩ : ∃ x : UInt8, s[k]'hlt = x := ⟨_, rfl⟩
      have HX := Lib.hid (show s.data.toList[k]? = some x by rw [← hx]; exact Lib.data_getElem? s k hlt)
      have hc := Lib.hid (contains1 x 1)
      have u1 := Lib.hid (u8_eq x 1 (by omega))
      by_cases x0 : (x.toNat : Int) = 1
      · have b0 : ((x.toNat : Int) == 1) = true := beq_iff_eq.2 x0
        have HH := Lib.hid (any_hit HN.out HX.out (by rw [hc.out]; simp [u1.out.1 (by simpa using x0)]))
        clear x0
        go_wp2
        go_ret
        exact ⟨ret_i (by rw [HE.out, HH.out]; rfl), Below.refl _ _⟩
      · have b0 : ((x.toNat : Int) == 1) = false := beq_eq_false_iff_ne.2 x0
        have HH := Lib.hid (HN.out.succ HX.out (by
          rw [hc.out, decide_eq_false (fun e => x0 (by simpa using u1.out.2 e))]))
        clear x0
        go_wp2
        go_roundw
        case rel => exact ⟨k + 1, by omega, by go_num, HH.out, trivial⟩
        case measure => simp [intOf]; omega
    · obtain rfl : k = s.size := by omega
      have HH := Lib.hid (any_none (s := s.data.toList) (cs := [1]) (by rw [← e2.out]; exact HN.out))
      go_wp2_with fail
      refine (KL.out _).mono ?_
      rintro e w1 ⟨rfl, hb⟩
      have HB := Lib.hid hb
      clear hb
      go_wp2
      go_ret
      exact ⟨ret_i (by rw [HE.out, HH.out]; rfl), HB.out⟩
end Go.Proofs.YthbalmoafpggdaaGreat

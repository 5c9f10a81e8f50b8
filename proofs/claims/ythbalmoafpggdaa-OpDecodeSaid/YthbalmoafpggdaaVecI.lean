/- The reference's vectors in normal form; Is, Same. -/
import Derived.Test.YthbalmoafpggdaaChecked
import Derived.WalkKit
import Derived.Outline
import Derived.WalkSpells
import Derived.WalkLawsBesides
import Derived.Deep.QuietTactic
import Derived.Deep.RegionWith
import Derived.Deep.DeepMust
import Derived.BigQuiet
import Derived.Test.YthbalmoafpggdaaMem
import Derived.RegionTactic
import Derived.ChangeAlike
import Derived.StillTailTactics
import Derived.Deep.LoopGhost
import Derived.Test.YthbalmoafpggdaaRf4
namespace Go.Proofs.Ythbalmoafpggdaa
open Go.RowKit
set_option linter.unusedVariables false
set_option linter.unusedSimpArgs false
abbrev i64v : Int → Value := .int .i64
/-- A vector's number. -/
def atZ (xs : List Int) (node : Int) : Int :=
  if node < 0 ∨ (xs.length : Int) ≤ node ∨ 64 ≤ node then 0 else if xs.getD node.toNat 0 < 0 ∨ 1152921504606846976 < xs.getD node.toNat 0 then 0 else xs.getD node.toNat 0
/-- How many numbers a normal form has; the normal form. -/
def nzc (g : Nat → Int) : Nat → Nat | 0 => 0 | k + 1 => if g k = 0 then nzc g k else k + 1
def row (g : Nat → Int) (k : Nat) : List Int := (List.range k).map g
def nrm (g : Nat → Int) : List Int := (row g 64).take (nzc g 64)
theorem nzc_le (g : Nat → Int) : ∀ k, nzc g k ≤ k
  | 0 => Nat.le_refl _
  | k + 1 => by unfold nzc; split; exact Nat.le_succ_of_le (nzc_le g k); exact Nat.le_refl _
theorem row_succ (g : Nat → Int) (k : Nat) : row g (k + 1) = row g k ++ [g k] := by simp [row, List.range_succ]
theorem row_len (g : Nat → Int) (k : Nat) : (row g k).length = k := by simp [row]
theorem row_congr {g h : Nat → Int} (k : Nat) (e : ∀ i, i < k → g i = h i) : row g k = row h k := by
  unfold row; exact List.map_congr_left (fun i hi => e i (List.mem_range.1 hi))
theorem nzc_congr {g h : Nat → Int} : ∀ k, (∀ i, i < k → g i = h i) → nzc g k = nzc h k
  | 0, _ => rfl
  | k + 1, e => by unfold nzc; rw [e k (Nat.lt_succ_self k), nzc_congr k (fun i hi => e i (Nat.lt_succ_of_lt hi))]
theorem nrm_congr {g h : Nat → Int} (e : ∀ i, i < 64 → g i = h i) : nrm g = nrm h := by unfold nrm; rw [row_congr 64 e, nzc_congr 64 e]
def MadePost (g : Nat → Int) (w : World) (e : Ending) (w' : World) : Prop := ∃ v, e = .returned v ∧ Rdv i64v w' v (nrm g) ∧ Below w.heap.size w w'
/-- v[:n:n] of an own row. -/
theorem made_cut {w : World} {B : Nat} {v : Value} {g : Nat → Int} (h : w.ownsRow B 2 1 v 64 ((row g 64).map i64v)) : ∃ b c, v = .slice (some ⟨b, 0, none⟩) 64 c ∧ 64 ≤ c ∧ c ≤ maxLen ∧ Rdv i64v w (.slice (some ⟨b, 0, none⟩) (nzc g 64) (nzc g 64)) (nrm g) := by
  have hr := Rdv.of_owns (xs := row g 64) h
  obtain ⟨h1, h2⟩ := h
  rcases h2 with ⟨_, h0⟩ | ⟨b, cap, cur, rfl, hg, hh, hn, hc, hs, ht⟩
  · exact absurd h0 (by omega)
  refine ⟨b, cap, rfl, hn, hc, ?_⟩
  obtain ⟨a, c, e, h1', h2', h3⟩ := hr
  have hl : (nrm g).length = nzc g 64 := by have := nzc_le g 64; simp [nrm, row_len]; omega
  refine ⟨_, _, by rw [hl], by omega, by unfold maxLen at *; have := nzc_le g 64; omega, ?_⟩
  rcases h3 with h3 | ⟨b', o, rfl, h3⟩
  · have := row_len g 64; rw [h3] at this; simp at this
  · rw [Value.slice.injEq] at e
    obtain ⟨e1, _, _⟩ := e
    simp at e1
    obtain ⟨rfl, rfl⟩ := e1
    refine .inr ⟨b, 0, rfl, fun i hi => ?_⟩
    have hi' : i < nzc g 64 := by omega
    have := nzc_le g 64
    rw [h3 i (by rw [row_len]; omega)]
    simp [nrm, List.getD_eq_getElem?_getD, List.getElem?_take_of_lt hi']
theorem Try.info2 : (Try.prog.info? 2).map (fun i => (i.zero, i.size, i.bytes)) = some (some (.int .i64 0), 1, 8) := by kernel_rfl
def MkPost (xs : List Int) (w : World) (e : Ending) (w' : World) : Prop := ∃ v, e = .returned v ∧ Rdv i64v w' v xs ∧ Below w.heap.size w w'
theorem refAt (v : Value) (xs : List Int) (node : Int) (w : World) (h : Rdv i64v w v xs) :
    Calls Try.prog 119 #[v, .int .i64 node] w fun e w' => e = .returned (.int .i64 (atZ xs node)) ∧ w = w' := by
  obtain ⟨a, c, rfl, h1, h2, h3⟩ := h
  unfold maxLen at h2
  by_cases c1 : node < 0
  · have H : Hid (atZ xs node = 0) := by unfold atZ; rw [if_pos (.inl c1)]; exact rfl
    go_enter Try.func119, Try.ntmps119
    go_wp2
    go_ret
    exact ⟨ret_i H.out.symm, rfl⟩
  by_cases c2 : (xs.length : Int) ≤ node ∨ 64 ≤ node
  · have H : Hid (atZ xs node = 0) := by unfold atZ; rw [if_pos (.inr c2)]; exact rfl
    rcases c2 with c2 | c2
    all_goals
      go_enter Try.func119, Try.ntmps119
      go_wp2
      all_goals
        go_ret
        exact ⟨ret_i H.out.symm, rfl⟩
  rcases h3 with rfl | ⟨b, o, rfl, h3⟩
  · exact absurd c2 (by simp; omega)
  obtain ⟨i, rfl⟩ := Int.eq_ofNat_of_zero_le (Int.not_lt.1 c1)
  have hi : i < xs.length := by omega
  have hi' : i < 64 := by omega
  have hc := h3 i hi
  have hA : atZ xs i = if xs.getD i 0 < 0 ∨ 1152921504606846976 < xs.getD i 0 then 0 else xs.getD i 0 := by
    unfold atZ; rw [if_neg (by omega)]; simp
  generalize xs.getD i 0 = x at *
  clear h3 c1 c2
  have HA := Lib.hid hA; clear hA
  go_enter Try.func119, Try.ntmps119
  go_wp2
  all_goals
    go_ret
    refine ⟨ret_i ?_, rfl⟩
    rw [HA.out]
    split <;> first | rfl | omega
theorem row_getD (g : Nat → Int) (k i : Nat) (h : i < k) : (row g k).getD i 0 = g i := by simp [row, List.getD_eq_getElem?_getD, h]
theorem nzc_down (g : Nat → Int) (m : Nat) (h : g m = 0) : nzc g (m + 1) = nzc g m := by show (if g m = 0 then nzc g m else m + 1) = _; rw [if_pos h]
theorem nzc_stop (g : Nat → Int) (m : Nat) (h : g m ≠ 0) : nzc g (m + 1) = m + 1 := by show (if g m = 0 then nzc g m else m + 1) = _; rw [if_neg h]
set_option maxHeartbeats 1000000 in
theorem refShort (v : Value) (g : Nat → Int) (w : World) (h : Rdv i64v w v (row g 64)) :
    Calls Try.prog 125 #[v] w (MkPost (nrm g) w) := by
  obtain ⟨a, n, c, rfl⟩ := h.shape
  have hT := h.take
  obtain ⟨a', c', e, h1, h2, h3⟩ := h
  rw [Value.slice.injEq] at e
  obtain ⟨rfl, rfl, rfl⟩ := e
  rw [row_len] at *
  unfold maxLen at h2
  rcases h3 with h3 | ⟨b, o, rfl, h3⟩
  · have := row_len g 64; rw [h3] at this; simp at this
  have HC : ∀ m, m < 64 → w.cell? ⟨b, o + m, none⟩ = some (.int .i64 (g m)) := fun m hm => by rw [h3 m hm, row_getD g 64 m hm]
  have KC := Lib.hid HC
  have KT := Lib.hid hT
  clear HC hT h3
  go_enter Try.func125, Try.ntmps125
  go_wp2
  go_loopw [3] (fun i wr => ∃ m : Nat, m ≤ 64 ∧ i = .int .i64 m ∧ nzc g 64 = nzc g m ∧ Drw w wr) (fun i _ => (intOf i).toNat)
  case atStart => exact ⟨64, by omega, rfl, rfl, 0, rfl⟩
  case round =>
    obtain ⟨m, hm, rfl, hn, nd, rfl⟩ := hrel
    have HN := Lib.hid hn; clear hn
    cases m with
    | zero =>
      go_wp2
      have e : nzc g 64 = 0 := HN.out
      have hT := KT.out 0 0 (by omega) (by omega) (by omega)
      go_ret
      exact ⟨_, rfl, by rw [nrm, e]; exact hT, (Drw.below ⟨nd, rfl⟩)⟩
    | succ m =>
      have hc := KC.out m (by omega)
      by_cases h0 : g m = 0
      · have e := Lib.hid (HN.out.trans (nzc_down g m h0))
        have hb0 : (g m == 0) = true := by simpa using h0
        clear h0 HN
        go_wp2
        go_roundw
        case rel => exact ⟨m, by omega, rfl, e.out, nd, rfl⟩
        case measure => simp [intOf]
      · have e := Lib.hid (HN.out.trans (nzc_stop g m h0))
        have hb0 : (g m == 0) = false := by simpa using h0
        clear h0 HN
        go_wp2
        have hT := KT.out (m + 1) (m + 1) (by omega) (by omega) (by omega)
        have e' : nzc g 64 = m + 1 := e.out
        go_ret
        exact ⟨_, rfl, by rw [nrm, e']; exact hT, (Drw.below ⟨nd, rfl⟩)⟩

theorem ownsRow_eq {w : World} {base : Nat} {e : TypeId} {size : Nat} {v : Value} {n : Nat} {xs : List Value} {a b : Int} (h : w.ownsRow base e size v n (xs ++ [.int .i64 a])) (hab : a = b) : w.ownsRow base e size v n (xs ++ [b].map i64v) := by subst hab; exact h
set_option maxHeartbeats 1000000 in
set_option maxRecDepth 100000 in
theorem refNorm (v : Value) (xs : List Int) (w : World) (hv : Rdv i64v w v xs) : Calls Try.prog 106 #[v] w (MkPost (nrm fun k => atZ xs k) w) := by
  obtain ⟨i0, hi, hz0, hz1, hz2⟩ := info_parts Try.info2
  have KV := Lib.hid (fun k w1 hb => refAt v xs k w1 (hv.below hb))
  clear hv
  go_enter Try.func106, Try.ntmps106
  go_wp2
  go_loopw [3, 4] (fun l i wr => ∃ k : Nat, k ≤ 64 ∧ i = .int .i64 k ∧ wr.ownsRow w.heap.size 2 1 l k ((row (fun k : Nat => atZ xs k) k).map i64v) ∧ Below w.heap.size w wr) (fun _ i _ => 64 - (intOf i).toNat)
  case atStart => exact ⟨0, by omega, rfl, World.ownsRow_nil _ _ _ _, Below.refl _ _⟩
  case round =>
    obtain ⟨k, hk, rfl, hown, hb⟩ := hrel
    by_cases hlt : k < 64
    · have hs := Lib.hid (row_succ (fun k : Nat => atZ xs k) k)
      go_wp2_with fail
      refine (KV.out _ _ hb).mono ?_
      rintro e w2 ⟨rfl, rfl⟩
      go_wp2_with (at_builtin; refine wpList_append_own _ rfl _ _ 47 rfl w.heap.size 2 i0 (.int .i64 0) 1 8 Try.underlying47 hi hz0 hz1 hz2 rfl (by decide) _ _ _ rfl (hown.alloc _) ⟨wr.heap.size, 0, none⟩ 1 1 [.int .i64 (atZ xs k)] rfl rfl ?c1 ?c2 ?c3 ?c4 ?c5 ?_)
      case c1 => exact cell_one_new _ _ _
      case c2 => intro u hu; simp at hu; subst hu; rfl
      case c3 => unfold maxLen; omega
      case c4 => omega
      case c5 => have := hb.size; simp; omega
      intro v' w1 hown1 hgrow1 _
      have hb1 : Below w.heap.size w w1 := (hb.alloc (by have := hb.size; omega) _).grown hgrow1 (by have := hb.size; simp; omega) (fun q hq => (hown.lt q hq).1)
      have HB1 := Lib.hid hb1
      have HO1 := Lib.hid hown1
      clear hb1 hown1 hgrow1
      go_wp2
      go_roundw
      case rel => exact ⟨k + 1, by omega, by go_num, by rw [hs.out, List.map_append]; exact ownsRow_eq HO1.out (rfl), HB1.out⟩
      case measure => simp [intOf]; omega
    · obtain rfl : k = 64 := by omega
      have hr := Rdv.of_owns (xs := row (fun k : Nat => atZ xs k) 64) hown
      go_wp2_with fail
      refine (refShort _ _ _ hr).mono ?_
      rintro e w2 ⟨v2, rfl, hr2, hb2⟩
      have hz := hb.size
      go_wp2
      go_ret
      exact ⟨_, rfl, hr2, by (repeat (first | exact Below.refl _ _ | (with_reducible assumption) | apply Below.drew | (refine Below.alloc ?_ (by first | exact Nat.le_refl _ | omega | (simp; done) | (simp; omega)) _) | (refine Below.setCell ?_ (by first | exact Nat.le_refl _ | omega | (simp; done) | (simp; omega)) _) | (refine Below.trans ?_ (Below.mono (by with_reducible assumption) (by first | omega | (simp; done) | (simp; omega))))))⟩
set_option maxHeartbeats 1000000 in
theorem refIs (u v : Value) (ys : List Int) (w : World) (hu : Rdv i64v w u (nrm fun k => atZ ys k)) (hv : Rdv i64v w v ys) : Calls Try.prog 71 #[u, v] w fun e w' => e = .returned (.bool true) ∧ Below w.heap.size w w' := by
  have K := Lib.hid (refNorm v ys w hv)
  generalize (nrm fun k => atZ ys k) = zs at *
  have KU := fun w1 hb => hu.below (w' := w1) hb
  obtain ⟨ua, uc, rfl, u1, u2, u3⟩ := hu
  unfold maxLen at u2
  clear u3 hv
  have HU := Lib.hid KU; clear KU
  go_enter Try.func71, Try.ntmps71
  go_wp2_with fail
  refine K.out.mono ?_
  rintro e w1 ⟨n1, rfl, hn, hb⟩
  have hu1 := HU.out _ hb
  obtain ⟨na, nc, rfl, n2, n3, n4⟩ := hn
  unfold maxLen at n3
  have HN := Lib.hid n4; clear n4
  obtain ⟨ua', uc', e', _, _, u4⟩ := hu1
  rw [Value.slice.injEq] at e'
  obtain ⟨rfl, _, rfl⟩ := e'
  have HU4 := Lib.hid u4; clear u4
  have hl : ((zs.length : Int) != (zs.length : Int)) = false := by simp
  go_wp2
  go_loopw [6] (fun i wr => ∃ k : Nat, k ≤ zs.length ∧ i = .int .i64 k ∧ Drw w1 wr) (fun i _ => zs.length - (intOf i).toNat)
  case atStart => exact ⟨0, by omega, rfl, 0, rfl⟩
  case round =>
    obtain ⟨k, hk, rfl, nd, rfl⟩ := hrel
    by_cases hlt : k < zs.length
    · rcases HU4.out with rfl | ⟨b1, o1, rfl, hc1⟩
      · exact absurd hlt (by simp)
      rcases HN.out with h0 | ⟨b2, o2, rfl, hc2⟩
      · rw [h0] at hlt; exact absurd hlt (by simp)
      have g1 := hc1 k hlt
      have g2 := hc2 k hlt
      generalize zs.getD k 0 = x at *
      clear hc1 hc2 HU4 HN
      go_wp2
      go_quiet (fail)
      go_wp2
      go_roundw
      case rel => exact ⟨k + 1, by omega, by go_num, by first | exact ⟨_, rfl⟩ | exact ⟨_, World.drewN_drewN _ _ _⟩⟩
      case measure => simp [intOf]; omega
    · obtain rfl : k = zs.length := by omega
      go_wp2
      go_ret
      have hz := hb.size
      exact ⟨rfl, hb.trans ((Drw.below ⟨nd, rfl⟩).mono hz)⟩
theorem atZ_of (ys : List Int) (hm : vecMayB ys = true) (k : Nat) (hk : k < 64) : atZ ys k = ys.getD k 0 := by
  unfold atZ
  rcases Nat.lt_or_ge k ys.length with h | h
  · have hq : 0 ≤ ys.getD k 0 ∧ ys.getD k 0 ≤ 1152921504606846976 := by
      by_cases hq : 0 ≤ ys.getD k 0 ∧ ys.getD k 0 ≤ 1152921504606846976
      · exact hq
      · rw [vecMayB_false ys k h hq] at hm; cases hm
    rw [if_neg (by omega), Int.toNat_natCast, if_neg (by omega)]
  · rw [if_pos (by omega), List.getD_eq_getElem?_getD, List.getElem?_eq_none h]; rfl
/-- What may be, cut, is its normal form. -/
theorem nrm_cut (ys : List Int) (hm : vecMayB (cutL ys) = true) (hl : (cutL ys).length ≤ 64) : nrm (fun k => atZ (cutL ys) k) = cutL ys := by
  have hlast : cutL ys = [] ∨ (cutL ys).getD ((cutL ys).length - 1) 0 ≠ 0 := by
    rw [cutL_len]
    have hstop : ∀ k, cutTo ys k = 0 ∨ ys.getD (cutTo ys k - 1) 0 ≠ 0 := by
      intro k
      induction k with
      | zero => exact .inl rfl
      | succ k ih =>
        by_cases h0 : ys.getD k 0 = 0
        · rw [cutTo_down ys k h0]; exact ih
        · rw [cutTo_stop ys k h0]; exact .inr (by simpa using h0)
    have hle := cutTo_le ys ys.length
    rcases hstop ys.length with h | h
    · left; unfold cutL; rw [h]; simp
    · rcases Nat.eq_zero_or_pos (cutTo ys ys.length) with h0 | h0
      · left; unfold cutL; rw [h0]; simp
      · right
        unfold cutL
        rw [List.getD_eq_getElem?_getD, List.getElem?_take_of_lt (by omega), ← List.getD_eq_getElem?_getD]
        exact h
  generalize cutL ys = zs at *
  have hg : ∀ k : Nat, k < 64 → atZ zs k = zs.getD k 0 := atZ_of zs hm
  have hz : nzc (fun k => atZ zs k) 64 = zs.length := by
    have key : ∀ m, zs.length ≤ m → m ≤ 64 → nzc (fun k => atZ zs k) m = zs.length := by
      intro m
      induction m with
      | zero => intro h _; simp [nzc]; omega
      | succ m ih =>
        intro h1 h2
        by_cases he : zs.length = m + 1
        · rw [nzc_stop _ m (by
            show atZ zs m ≠ 0
            rw [hg m (by omega)]
            rcases hlast with h | h
            · rw [h] at he; simp at he
            · rw [he, Nat.add_sub_cancel] at h; exact h), he]
        · rw [nzc_down _ m (by
            show atZ zs m = 0
            rw [hg m (by omega), List.getD_eq_getElem?_getD, List.getElem?_eq_none (by omega)]; rfl)]
          exact ih (by omega) (by omega)
    exact key 64 hl (Nat.le_refl _)
  unfold nrm
  rw [hz]
  apply List.ext_getElem?
  intro i
  by_cases hi : i < zs.length
  · rw [List.getElem?_take_of_lt hi]
    unfold row
    rw [List.getElem?_map, List.getElem?_range (by omega)]
    simp only [Option.map_some]
    rw [hg i (by omega), List.getD_eq_getElem?_getD, List.getElem?_eq_getElem hi]; rfl
  · rw [List.getElem?_eq_none (by simp; omega), List.getElem?_eq_none (by omega)]
theorem refSame (t n : Int) (w : World) : Calls Try.prog 29 #[.agg #[.int .i64 t, .int .i64 n], .agg #[.int .i64 t, .int .i64 n]] w fun e w' => e = .returned (.bool true) ∧ Below w.heap.size w w' := by
  go_enter Try.func29, Try.ntmps29
  go_wp2
  go_ret
  exact ⟨rfl, ((Below.refl _ _).alloc (Nat.le_refl _) _).alloc (by simp) _⟩
end Go.Proofs.Ythbalmoafpggdaa

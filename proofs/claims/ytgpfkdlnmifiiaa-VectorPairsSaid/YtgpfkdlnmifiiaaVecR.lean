/- Contracts of the reference's vectors. -/
import Derived.Test.YtgpfkdlnmifiiaaChecked
import Derived.WalkKit
import Derived.Outline
import Derived.WalkSpells
import Derived.WalkLawsBesides
import Derived.Deep.QuietTactic
import Derived.Deep.RegionWith
import Derived.Deep.DeepMust
import Derived.BigQuiet
import Derived.Test.YtgpfkdlnmifiiaaMem
import Derived.RegionTactic
import Derived.ChangeAlike
import Derived.StillTailTactics
import Derived.Deep.LoopGhost
import Derived.Test.YtgpfkdlnmifiiaaVec3
namespace Go.Proofs.Ytgpfkdlnmifiiaa
open Go.RowKit
set_option linter.unusedVariables false
set_option linter.unusedSimpArgs false
theorem refAt (v : Value) (xs : List Int) (node : Int) (w : World) (h : Rdv i64v w v xs) :
    Calls Try.prog 28 #[v, .int .i64 node] w fun e w' => e = .returned (.int .i64 (atZ xs node)) ∧ w = w' := by
  obtain ⟨a, c, rfl, h1, h2, h3⟩ := h
  unfold maxLen at h2
  by_cases c1 : node < 0
  · have H : Hid (atZ xs node = 0) := by unfold atZ; rw [if_pos (.inl c1)]; exact rfl
    go_enter Try.func28, Try.ntmps28
    go_wp2
    go_ret
    exact ⟨ret_i H.out.symm, rfl⟩
  by_cases c2 : (xs.length : Int) ≤ node ∨ 64 ≤ node
  · have H : Hid (atZ xs node = 0) := by unfold atZ; rw [if_pos (.inr c2)]; exact rfl
    rcases c2 with c2 | c2
    all_goals
      go_enter Try.func28, Try.ntmps28
      go_wp2
      all_goals
        go_ret
        exact ⟨ret_i H.out.symm, rfl⟩
  rcases h3 with rfl | ⟨b, o, rfl, h3⟩
  · exact absurd c2 (by simp; omega)
  obtain ⟨i, rfl⟩ := Int.eq_ofNat_of_zero_le (Int.not_lt.1 c1)
  have hi : i < xs.length := by omega
  have hi' : i < 64 := by omega
  have hc := h3 i hi
  have hA : atZ xs i = if xs.getD i 0 < 0 ∨ 1152921504606846976 < xs.getD i 0 then 0 else xs.getD i 0 := by
    unfold atZ; rw [if_neg (by omega)]; simp
  generalize xs.getD i 0 = x at *
  clear h3 c1 c2
  have HA := Lib.hid hA; clear hA
  go_enter Try.func28, Try.ntmps28
  go_wp2
  all_goals
    go_ret
    refine ⟨ret_i ?_, rfl⟩
    rw [HA.out]
    split <;> first | rfl | omega
theorem row_getD (g : Nat → Int) (k i : Nat) (h : i < k) : (row g k).getD i 0 = g i := by simp [row, List.getD_eq_getElem?_getD, h]
theorem nzc_down (g : Nat → Int) (m : Nat) (h : g m = 0) : nzc g (m + 1) = nzc g m := by show (if g m = 0 then nzc g m else m + 1) = _; rw [if_pos h]
theorem nzc_stop (g : Nat → Int) (m : Nat) (h : g m ≠ 0) : nzc g (m + 1) = m + 1 := by show (if g m = 0 then nzc g m else m + 1) = _; rw [if_neg h]
set_option maxHeartbeats 1000000 in
theorem refShort (v : Value) (g : Nat → Int) (w : World) (h : Rdv i64v w v (row g 64)) :
    Calls Try.prog 89 #[v] w (MkPost (nrm g) w) := by
  obtain ⟨a, n, c, rfl⟩ := h.shape
  have hT := h.take
  obtain ⟨a', c', e, h1, h2, h3⟩ := h
  rw [Value.slice.injEq] at e
  obtain ⟨rfl, rfl, rfl⟩ := e
  rw [row_len] at *
  unfold maxLen at h2
  rcases h3 with h3 | ⟨b, o, rfl, h3⟩
  · have := row_len g 64; rw [h3] at this; simp at this
  have HC : ∀ m, m < 64 → w.cell? ⟨b, o + m, none⟩ = some (.int .i64 (g m)) := fun m hm => by rw [h3 m hm, row_getD g 64 m hm]
  have KC := Lib.hid HC
  have KT := Lib.hid hT
  clear HC hT h3
  go_enter Try.func89, Try.ntmps89
  go_wp2
  go_loopw [3] (fun i wr => ∃ m : Nat, m ≤ 64 ∧ i = .int .i64 m ∧ nzc g 64 = nzc g m ∧ Drw w wr) (fun i _ => (intOf i).toNat)
  case atStart => exact ⟨64, by omega, rfl, rfl, 0, rfl⟩
  case round =>
    obtain ⟨m, hm, rfl, hn, nd, rfl⟩ := hrel
    have HN := Lib.hid hn; clear hn
    cases m with
    | zero =>
      go_wp2
      have e : nzc g 64 = 0 := HN.out
      have hT := KT.out 0 0 (by omega) (by omega) (by omega)
      go_ret
      exact ⟨_, rfl, by rw [nrm, e]; exact hT, (Drw.below ⟨nd, rfl⟩)⟩
    | succ m =>
      have hc := KC.out m (by omega)
      by_cases h0 : g m = 0
      · have e := Lib.hid (HN.out.trans (nzc_down g m h0))
        have hb0 : (g m == 0) = true := by simpa using h0
        clear h0 HN
        go_wp2
        go_roundw
        case rel => exact ⟨m, by omega, rfl, e.out, nd, rfl⟩
        case measure => simp [intOf]
      · have e := Lib.hid (HN.out.trans (nzc_stop g m h0))
        have hb0 : (g m == 0) = false := by simpa using h0
        clear h0 HN
        go_wp2
        have hT := KT.out (m + 1) (m + 1) (by omega) (by omega) (by omega)
        have e' : nzc g 64 = m + 1 := e.out
        go_ret
        exact ⟨_, rfl, by rw [nrm, e']; exact hT, (Drw.below ⟨nd, rfl⟩)⟩

theorem ownsRow_eq {w : World} {base : Nat} {e : TypeId} {size : Nat} {v : Value} {n : Nat} {xs : List Value} {a b : Int} (h : w.ownsRow base e size v n (xs ++ [.int .i64 a])) (hab : a = b) : w.ownsRow base e size v n (xs ++ [b].map i64v) := by subst hab; exact h
set_option maxHeartbeats 1000000 in
set_option maxRecDepth 100000 in
theorem refNorm (v : Value) (xs : List Int) (w : World) (hv : Rdv i64v w v xs) : Calls Try.prog 86 #[v] w (MkPost (nrm fun k => atZ xs k) w) := by
  obtain ⟨i0, hi, hz0, hz1, hz2⟩ := info_parts Try.info2
  have KV := Lib.hid (fun k w1 hb => refAt v xs k w1 (hv.below hb))
  clear hv
  go_enter Try.func86, Try.ntmps86
  go_wp2
  go_loopw [3, 4] (fun l i wr => ∃ k : Nat, k ≤ 64 ∧ i = .int .i64 k ∧ wr.ownsRow w.heap.size 2 1 l k ((row (fun k : Nat => atZ xs k) k).map i64v) ∧ Below w.heap.size w wr) (fun _ i _ => 64 - (intOf i).toNat)
  case atStart => exact ⟨0, by omega, rfl, World.ownsRow_nil _ _ _ _, Below.refl _ _⟩
  case round =>
    obtain ⟨k, hk, rfl, hown, hb⟩ := hrel
    by_cases hlt : k < 64
    · have hs := Lib.hid (row_succ (fun k : Nat => atZ xs k) k)
      go_wp2_with fail
      refine (KV.out _ _ hb).mono ?_
      rintro e w2 ⟨rfl, rfl⟩
      go_wp2_with (at_builtin; refine wpList_append_own _ rfl _ _ 32 rfl w.heap.size 2 i0 (.int .i64 0) 1 8 Try.underlying32 hi hz0 hz1 hz2 rfl (by decide) _ _ _ rfl (hown.alloc _) ⟨wr.heap.size, 0, none⟩ 1 1 [.int .i64 (atZ xs k)] rfl rfl ?c1 ?c2 ?c3 ?c4 ?c5 ?_)
      case c1 => exact cell_one_new _ _ _
      case c2 => intro u hu; simp at hu; subst hu; rfl
      case c3 => unfold maxLen; omega
      case c4 => omega
      case c5 => have := hb.size; simp; omega
      intro v' w1 hown1 hgrow1 _
      have hb1 : Below w.heap.size w w1 := (hb.alloc (by have := hb.size; omega) _).grown hgrow1 (by have := hb.size; simp; omega) (fun q hq => (hown.lt q hq).1)
      have HB1 := Lib.hid hb1
      have HO1 := Lib.hid hown1
      clear hb1 hown1 hgrow1
      go_wp2
      go_roundw
      case rel => exact ⟨k + 1, by omega, by go_num, by rw [hs.out, List.map_append]; exact ownsRow_eq HO1.out (rfl), HB1.out⟩
      case measure => simp [intOf]; omega
    · obtain rfl : k = 64 := by omega
      have hr := Rdv.of_owns (xs := row (fun k : Nat => atZ xs k) 64) hown
      go_wp2_with fail
      refine (refShort _ _ _ hr).mono ?_
      rintro e w2 ⟨v2, rfl, hr2, hb2⟩
      have hz := hb.size
      go_wp2
      go_ret
      exact ⟨_, rfl, hr2, by (repeat (first | exact Below.refl _ _ | (with_reducible assumption) | apply Below.drew | (refine Below.alloc ?_ (by first | exact Nat.le_refl _ | omega | (simp; done) | (simp; omega)) _) | (refine Below.setCell ?_ (by first | exact Nat.le_refl _ | omega | (simp; done) | (simp; omega)) _) | (refine Below.trans ?_ (Below.mono (by with_reducible assumption) (by first | omega | (simp; done) | (simp; omega))))))⟩
set_option maxHeartbeats 1000000 in
set_option maxRecDepth 100000 in
theorem refMax (u v : Value) (xs ys : List Int) (w : World) (hu : Rdv i64v w u xs) (hv : Rdv i64v w v ys) : Calls Try.prog 36 #[u, v] w (MkPost (nrm fun k => max (atZ xs k) (atZ ys k)) w) := by
  obtain ⟨i0, hi, hz0, hz1, hz2⟩ := info_parts Try.info2
  have KU := Lib.hid (fun k w1 hb => refAt u xs k w1 (hu.below hb))
  have KV := Lib.hid (fun k w1 hb => refAt v ys k w1 (hv.below hb))
  clear hu hv
  go_enter Try.func36, Try.ntmps36
  go_wp2
  go_loopw [5, 6] (fun l i wr => ∃ k : Nat, k ≤ 64 ∧ i = .int .i64 k ∧ wr.ownsRow w.heap.size 2 1 l k ((row (fun k : Nat => max (atZ xs k) (atZ ys k)) k).map i64v) ∧ Below w.heap.size w wr) (fun _ i _ => 64 - (intOf i).toNat)
  case atStart => exact ⟨0, by omega, rfl, World.ownsRow_nil _ _ _ _, Below.refl _ _⟩
  case round =>
    obtain ⟨k, hk, rfl, hown, hb⟩ := hrel
    by_cases hlt : k < 64
    · have hs := Lib.hid (row_succ (fun k : Nat => max (atZ xs k) (atZ ys k)) k)
      by_cases h0 : atZ ys k < atZ xs k
      · have H0 := Lib.hid h0
        go_wp2_with fail
        refine (KU.out _ _ hb).mono ?_
        rintro e w2 ⟨rfl, rfl⟩
        go_wp2_with fail
        refine (KV.out _ _ hb).mono ?_
        rintro e w2 ⟨rfl, rfl⟩
        go_wp2_with fail
        refine (KU.out _ _ hb).mono ?_
        rintro e w2 ⟨rfl, rfl⟩
        go_wp2_with (at_builtin; refine wpList_append_own _ rfl _ _ 32 rfl w.heap.size 2 i0 (.int .i64 0) 1 8 Try.underlying32 hi hz0 hz1 hz2 rfl (by decide) _ _ _ rfl (hown.alloc _) ⟨wr.heap.size, 0, none⟩ 1 1 [.int .i64 (atZ xs k)] rfl rfl ?c1 ?c2 ?c3 ?c4 ?c5 ?_)
        case c1 => exact cell_one_new _ _ _
        case c2 => intro u hu; simp at hu; subst hu; rfl
        case c3 => unfold maxLen; omega
        case c4 => omega
        case c5 => have := hb.size; simp; omega
        intro v' w1 hown1 hgrow1 _
        have hb1 : Below w.heap.size w w1 := (hb.alloc (by have := hb.size; omega) _).grown hgrow1 (by have := hb.size; simp; omega) (fun q hq => (hown.lt q hq).1)
        have HB1 := Lib.hid hb1
        have HO1 := Lib.hid hown1
        clear hb1 hown1 hgrow1
        go_wp2
        go_roundw
        case rel => exact ⟨k + 1, by omega, by go_num, by rw [hs.out, List.map_append]; exact ownsRow_eq HO1.out ((by have := H0.out; omega)), HB1.out⟩
        case measure => simp [intOf]; omega
      · have H0 := Lib.hid h0
        go_wp2_with fail
        refine (KU.out _ _ hb).mono ?_
        rintro e w2 ⟨rfl, rfl⟩
        go_wp2_with fail
        refine (KV.out _ _ hb).mono ?_
        rintro e w2 ⟨rfl, rfl⟩
        go_wp2_with fail
        refine (KV.out _ _ hb).mono ?_
        rintro e w2 ⟨rfl, rfl⟩
        go_wp2_with (at_builtin; refine wpList_append_own _ rfl _ _ 32 rfl w.heap.size 2 i0 (.int .i64 0) 1 8 Try.underlying32 hi hz0 hz1 hz2 rfl (by decide) _ _ _ rfl (hown.alloc _) ⟨wr.heap.size, 0, none⟩ 1 1 [.int .i64 (atZ ys k)] rfl rfl ?c1 ?c2 ?c3 ?c4 ?c5 ?_)
        case c1 => exact cell_one_new _ _ _
        case c2 => intro u hu; simp at hu; subst hu; rfl
        case c3 => unfold maxLen; omega
        case c4 => omega
        case c5 => have := hb.size; simp; omega
        intro v' w1 hown1 hgrow1 _
        have hb1 : Below w.heap.size w w1 := (hb.alloc (by have := hb.size; omega) _).grown hgrow1 (by have := hb.size; simp; omega) (fun q hq => (hown.lt q hq).1)
        have HB1 := Lib.hid hb1
        have HO1 := Lib.hid hown1
        clear hb1 hown1 hgrow1
        go_wp2
        go_roundw
        case rel => exact ⟨k + 1, by omega, by go_num, by rw [hs.out, List.map_append]; exact ownsRow_eq HO1.out ((by have := H0.out; omega)), HB1.out⟩
        case measure => simp [intOf]; omega
    · obtain rfl : k = 64 := by omega
      have hr := Rdv.of_owns (xs := row (fun k : Nat => max (atZ xs k) (atZ ys k)) 64) hown
      go_wp2_with fail
      refine (refShort _ _ _ hr).mono ?_
      rintro e w2 ⟨v2, rfl, hr2, hb2⟩
      have hz := hb.size
      go_wp2
      go_ret
      exact ⟨_, rfl, hr2, by (repeat (first | exact Below.refl _ _ | (with_reducible assumption) | apply Below.drew | (refine Below.alloc ?_ (by first | exact Nat.le_refl _ | omega | (simp; done) | (simp; omega)) _) | (refine Below.setCell ?_ (by first | exact Nat.le_refl _ | omega | (simp; done) | (simp; omega)) _) | (refine Below.trans ?_ (Below.mono (by with_reducible assumption) (by first | omega | (simp; done) | (simp; omega))))))⟩
set_option maxHeartbeats 1000000 in
set_option maxRecDepth 100000 in
theorem refMin (u v : Value) (xs ys : List Int) (w : World) (hu : Rdv i64v w u xs) (hv : Rdv i64v w v ys) : Calls Try.prog 37 #[u, v] w (MkPost (nrm fun k => min (atZ xs k) (atZ ys k)) w) := by
  obtain ⟨i0, hi, hz0, hz1, hz2⟩ := info_parts Try.info2
  have KU := Lib.hid (fun k w1 hb => refAt u xs k w1 (hu.below hb))
  have KV := Lib.hid (fun k w1 hb => refAt v ys k w1 (hv.below hb))
  clear hu hv
  go_enter Try.func37, Try.ntmps37
  go_wp2
  go_loopw [5, 6] (fun l i wr => ∃ k : Nat, k ≤ 64 ∧ i = .int .i64 k ∧ wr.ownsRow w.heap.size 2 1 l k ((row (fun k : Nat => min (atZ xs k) (atZ ys k)) k).map i64v) ∧ Below w.heap.size w wr) (fun _ i _ => 64 - (intOf i).toNat)
  case atStart => exact ⟨0, by omega, rfl, World.ownsRow_nil _ _ _ _, Below.refl _ _⟩
  case round =>
    obtain ⟨k, hk, rfl, hown, hb⟩ := hrel
    by_cases hlt : k < 64
    · have hs := Lib.hid (row_succ (fun k : Nat => min (atZ xs k) (atZ ys k)) k)
      by_cases h0 : atZ xs k < atZ ys k
      · have H0 := Lib.hid h0
        go_wp2_with fail
        refine (KU.out _ _ hb).mono ?_
        rintro e w2 ⟨rfl, rfl⟩
        go_wp2_with fail
        refine (KV.out _ _ hb).mono ?_
        rintro e w2 ⟨rfl, rfl⟩
        go_wp2_with fail
        refine (KU.out _ _ hb).mono ?_
        rintro e w2 ⟨rfl, rfl⟩
        go_wp2_with (at_builtin; refine wpList_append_own _ rfl _ _ 32 rfl w.heap.size 2 i0 (.int .i64 0) 1 8 Try.underlying32 hi hz0 hz1 hz2 rfl (by decide) _ _ _ rfl (hown.alloc _) ⟨wr.heap.size, 0, none⟩ 1 1 [.int .i64 (atZ xs k)] rfl rfl ?c1 ?c2 ?c3 ?c4 ?c5 ?_)
        case c1 => exact cell_one_new _ _ _
        case c2 => intro u hu; simp at hu; subst hu; rfl
        case c3 => unfold maxLen; omega
        case c4 => omega
        case c5 => have := hb.size; simp; omega
        intro v' w1 hown1 hgrow1 _
        have hb1 : Below w.heap.size w w1 := (hb.alloc (by have := hb.size; omega) _).grown hgrow1 (by have := hb.size; simp; omega) (fun q hq => (hown.lt q hq).1)
        have HB1 := Lib.hid hb1
        have HO1 := Lib.hid hown1
        clear hb1 hown1 hgrow1
        go_wp2
        go_roundw
        case rel => exact ⟨k + 1, by omega, by go_num, by rw [hs.out, List.map_append]; exact ownsRow_eq HO1.out ((by have := H0.out; omega)), HB1.out⟩
        case measure => simp [intOf]; omega
      · have H0 := Lib.hid h0
        go_wp2_with fail
        refine (KU.out _ _ hb).mono ?_
        rintro e w2 ⟨rfl, rfl⟩
        go_wp2_with fail
        refine (KV.out _ _ hb).mono ?_
        rintro e w2 ⟨rfl, rfl⟩
        go_wp2_with fail
        refine (KV.out _ _ hb).mono ?_
        rintro e w2 ⟨rfl, rfl⟩
        go_wp2_with (at_builtin; refine wpList_append_own _ rfl _ _ 32 rfl w.heap.size 2 i0 (.int .i64 0) 1 8 Try.underlying32 hi hz0 hz1 hz2 rfl (by decide) _ _ _ rfl (hown.alloc _) ⟨wr.heap.size, 0, none⟩ 1 1 [.int .i64 (atZ ys k)] rfl rfl ?c1 ?c2 ?c3 ?c4 ?c5 ?_)
        case c1 => exact cell_one_new _ _ _
        case c2 => intro u hu; simp at hu; subst hu; rfl
        case c3 => unfold maxLen; omega
        case c4 => omega
        case c5 => have := hb.size; simp; omega
        intro v' w1 hown1 hgrow1 _
        have hb1 : Below w.heap.size w w1 := (hb.alloc (by have := hb.size; omega) _).grown hgrow1 (by have := hb.size; simp; omega) (fun q hq => (hown.lt q hq).1)
        have HB1 := Lib.hid hb1
        have HO1 := Lib.hid hown1
        clear hb1 hown1 hgrow1
        go_wp2
        go_roundw
        case rel => exact ⟨k + 1, by omega, by go_num, by rw [hs.out, List.map_append]; exact ownsRow_eq HO1.out ((by have := H0.out; omega)), HB1.out⟩
        case measure => simp [intOf]; omega
    · obtain rfl : k = 64 := by omega
      have hr := Rdv.of_owns (xs := row (fun k : Nat => min (atZ xs k) (atZ ys k)) 64) hown
      go_wp2_with fail
      refine (refShort _ _ _ hr).mono ?_
      rintro e w2 ⟨v2, rfl, hr2, hb2⟩
      have hz := hb.size
      go_wp2
      go_ret
      exact ⟨_, rfl, hr2, by (repeat (first | exact Below.refl _ _ | (with_reducible assumption) | apply Below.drew | (refine Below.alloc ?_ (by first | exact Nat.le_refl _ | omega | (simp; done) | (simp; omega)) _) | (refine Below.setCell ?_ (by first | exact Nat.le_refl _ | omega | (simp; done) | (simp; omega)) _) | (refine Below.trans ?_ (Below.mono (by with_reducible assumption) (by first | omega | (simp; done) | (simp; omega))))))⟩
set_option maxHeartbeats 1000000 in
set_option maxRecDepth 100000 in
theorem refAhead (u v : Value) (xs ys : List Int) (w : World) (hu : Rdv i64v w u xs) (hv : Rdv i64v w v ys) : Calls Try.prog 30 #[u, v] w (MkPost (aheadTo xs ys 64) w) := by
  obtain ⟨i0, hi, hz0, hz1, hz2⟩ := info_parts Try.info3
  have KU := fun k w1 hb => refAt u xs k w1 (hu.below hb)
  have KV := fun k w1 hb => refAt v ys k w1 (hv.below hb)
  have HU := Lib.hid KU
  have HV := Lib.hid KV
  clear KU KV hu hv
  go_enter Try.func30, Try.ntmps30
  go_wp2
  go_loopw [5, 6] (fun l i wr => ∃ k : Nat, k ≤ 64 ∧ i = .int .i64 k ∧ wr.ownsRow w.heap.size 3 1 l (aheadTo xs ys k).length ((aheadTo xs ys k).map i64v) ∧ Below w.heap.size w wr) (fun _ i _ => 64 - (intOf i).toNat)
  case atStart => exact ⟨0, by omega, rfl, World.ownsRow_nil _ _ _ _, Below.refl _ _⟩
  case round =>
    obtain ⟨k, hk, rfl, hown, hb⟩ := hrel
    by_cases hlt : k < 64
    · go_wp2_with fail
      refine (HU.out _ _ hb).mono ?_
      rintro e w2 ⟨rfl, rfl⟩
      go_wp2_with fail
      refine (HV.out _ _ hb).mono ?_
      rintro e w2 ⟨rfl, rfl⟩
      have hs := Lib.hid (aheadTo_succ xs ys k)
      have hlen := aheadTo_len xs ys k
      by_cases h0 : atZ ys k < atZ xs k
      · have H0 := Lib.hid h0
        go_wp2_with (at_builtin; refine wpList_append_own _ rfl _ _ 24 rfl w.heap.size 3 i0 (.int .i64 0) 1 8 Try.underlying24 hi hz0 hz1 hz2 rfl (by decide) _ _ _ rfl (hown.alloc _) ⟨wr.heap.size, 0, none⟩ 1 1 [.int .i64 (k)] rfl rfl ?c1 ?c2 ?c3 ?c4 ?c5 ?_)
        case c1 => exact cell_one_new _ _ _
        case c2 => intro u hu; simp at hu; subst hu; rfl
        case c3 => unfold maxLen; omega
        case c4 => omega
        case c5 => have := hb.size; simp; omega
        intro v' w1 hown1 hgrow1 _
        have hb1 : Below w.heap.size w w1 := (hb.alloc (by have := hb.size; omega) _).grown hgrow1 (by have := hb.size; simp; omega) (fun q hq => (hown.lt q hq).1)
        have HB1 := Lib.hid hb1
        have HO1 := Lib.hid hown1
        clear hb1 hown1 hgrow1
        go_wp2
        go_roundw
        case rel => exact ⟨k + 1, by omega, by go_num, by rw [hs.out, if_pos H0.out]; simpa using HO1.out, HB1.out⟩
        case measure => simp [intOf]; omega
      · have H0 := Lib.hid h0
        have HO1 := Lib.hid hown
        have HB1 := Lib.hid hb
        clear hown hb
        go_wp2
        go_roundw
        case rel => exact ⟨k + 1, by omega, by go_num, by rw [hs.out, if_neg (by have := H0.out; omega)]; simpa using HO1.out, HB1.out⟩
        case measure => simp [intOf]; omega
    · obtain rfl : k = 64 := by omega
      have hr := Rdv.of_owns (xs := aheadTo xs ys 64) hown
      have HR := Lib.hid hr
      clear hr hown
      go_wp2
      go_ret
      exact ⟨_, rfl, HR.out, hb⟩
set_option maxHeartbeats 1000000 in
set_option maxRecDepth 100000 in
theorem refWithIn (v : Value) (xs : List Int) (node n : Int) (w : World) (h : Rdv i64v w v xs) (h1 : 0 ≤ node) (h2 : node < 64) (h3 : 0 ≤ n) (h4 : n ≤ 1152921504606846976) : Calls Try.prog 35 #[v, .int .i64 node, .int .i64 n] w (MkPost (nrm fun k => if (k : Int) = node then n else atZ xs k) w) := by
  obtain ⟨i0, hi, hz0, hz1, hz2⟩ := info_parts Try.info2
  have KV := Lib.hid (fun k w1 hb => refAt v xs k w1 (h.below hb))
  clear h
  go_enter Try.func35, Try.ntmps35
  go_wp2
  go_loopw [7, 8] (fun l i wr => ∃ k : Nat, k ≤ 64 ∧ i = .int .i64 k ∧ wr.ownsRow w.heap.size 2 1 l k ((row (fun k : Nat => if (k : Int) = node then n else atZ xs k) k).map i64v) ∧ Below w.heap.size w wr) (fun _ i _ => 64 - (intOf i).toNat)
  case atStart => exact ⟨0, by omega, rfl, World.ownsRow_nil _ _ _ _, Below.refl _ _⟩
  case round =>
    obtain ⟨k, hk, rfl, hown, hb⟩ := hrel
    by_cases hlt : k < 64
    · have hs := Lib.hid (row_succ (fun k : Nat => if (k : Int) = node then n else atZ xs k) k)
      by_cases h0 : (k : Int) = node
      · have H0 := Lib.hid h0
        have hb0 : ((k : Int) == node) = true := by simpa using h0
        clear h0
        go_wp2_with (at_builtin; refine wpList_append_own _ rfl _ _ 32 rfl w.heap.size 2 i0 (.int .i64 0) 1 8 Try.underlying32 hi hz0 hz1 hz2 rfl (by decide) _ _ _ rfl (hown.alloc _) ⟨wr.heap.size, 0, none⟩ 1 1 [.int .i64 (n)] rfl rfl ?c1 ?c2 ?c3 ?c4 ?c5 ?_)
        case c1 => exact cell_one_new _ _ _
        case c2 => intro u hu; simp at hu; subst hu; rfl
        case c3 => unfold maxLen; omega
        case c4 => omega
        case c5 => have := hb.size; simp; omega
        intro v' w1 hown1 hgrow1 _
        have hb1 : Below w.heap.size w w1 := (hb.alloc (by have := hb.size; omega) _).grown hgrow1 (by have := hb.size; simp; omega) (fun q hq => (hown.lt q hq).1)
        have HB1 := Lib.hid hb1
        have HO1 := Lib.hid hown1
        clear hb1 hown1 hgrow1
        go_wp2
        go_roundw
        case rel => exact ⟨k + 1, by omega, by go_num, by rw [hs.out, List.map_append]; exact ownsRow_eq HO1.out ((by rw [if_pos H0.out])), HB1.out⟩
        case measure => simp [intOf]; omega
      · have H0 : Hid (¬ (k : Int) = node) := h0
        have hb0 : ((k : Int) == node) = false := by simpa using h0
        go_wp2_with fail
        refine (KV.out _ _ hb).mono ?_
        rintro e w2 ⟨rfl, rfl⟩
        go_wp2_with (at_builtin; refine wpList_append_own _ rfl _ _ 32 rfl w.heap.size 2 i0 (.int .i64 0) 1 8 Try.underlying32 hi hz0 hz1 hz2 rfl (by decide) _ _ _ rfl (hown.alloc _) ⟨wr.heap.size, 0, none⟩ 1 1 [.int .i64 (atZ xs k)] rfl rfl ?c1 ?c2 ?c3 ?c4 ?c5 ?_)
        case c1 => exact cell_one_new _ _ _
        case c2 => intro u hu; simp at hu; subst hu; rfl
        case c3 => unfold maxLen; omega
        case c4 => omega
        case c5 => have := hb.size; simp; omega
        intro v' w1 hown1 hgrow1 _
        have hb1 : Below w.heap.size w w1 := (hb.alloc (by have := hb.size; omega) _).grown hgrow1 (by have := hb.size; simp; omega) (fun q hq => (hown.lt q hq).1)
        have HB1 := Lib.hid hb1
        have HO1 := Lib.hid hown1
        clear hb1 hown1 hgrow1
        go_wp2
        go_roundw
        case rel => exact ⟨k + 1, by omega, by go_num, by rw [hs.out, List.map_append]; exact ownsRow_eq HO1.out ((by rw [if_neg H0.out])), HB1.out⟩
        case measure => simp [intOf]; omega
    · obtain rfl : k = 64 := by omega
      have hr := Rdv.of_owns (xs := row (fun k : Nat => if (k : Int) = node then n else atZ xs k) 64) hown
      go_wp2_with fail
      refine (refShort _ _ _ hr).mono ?_
      rintro e w2 ⟨v2, rfl, hr2, hb2⟩
      have hz := hb.size
      go_wp2
      go_ret
      exact ⟨_, rfl, hr2, by (repeat (first | exact Below.refl _ _ | (with_reducible assumption) | apply Below.drew | (refine Below.alloc ?_ (by first | exact Nat.le_refl _ | omega | (simp; done) | (simp; omega)) _) | (refine Below.setCell ?_ (by first | exact Nat.le_refl _ | omega | (simp; done) | (simp; omega)) _) | (refine Below.trans ?_ (Below.mono (by with_reducible assumption) (by first | omega | (simp; done) | (simp; omega))))))⟩
theorem refWith (v : Value) (xs : List Int) (node n : Int) (w : World) (h : Rdv i64v w v xs) : Calls Try.prog 35 #[v, .int .i64 node, .int .i64 n] w (MkPost (nrm fun k => if 0 ≤ n ∧ n ≤ 1152921504606846976 ∧ (k : Int) = node then n else atZ xs k) w) := by
  by_cases hc : node < 0 ∨ 64 ≤ node ∨ n < 0 ∨ 1152921504606846976 < n
  · have K := Lib.hid (refNorm v xs w h)
    have E : Hid (nrm (fun k => if 0 ≤ n ∧ n ≤ 1152921504606846976 ∧ (k : Int) = node then n else atZ xs k) = nrm fun k => atZ xs k) := by
      refine nrm_congr (fun k hk => ?_)
      rw [if_neg (by omega)]
    clear h
    rw [E.out]
    go_enter Try.func35, Try.ntmps35
    go_wp2_with (go_at_call 86; refine K.out.mono ?_; rintro e w' ⟨v', rfl, hr, hb⟩)
    all_goals
      first
      | (exfalso; omega)
      | (go_ret
         exact ⟨_, rfl, hr, by (repeat (first | exact Below.refl _ _ | (with_reducible assumption) | apply Below.drew | (refine Below.alloc ?_ (by first | exact Nat.le_refl _ | omega | (simp; done) | (simp; omega)) _) | (refine Below.setCell ?_ (by first | exact Nat.le_refl _ | omega | (simp; done) | (simp; omega)) _) | (refine Below.trans ?_ (Below.mono (by with_reducible assumption) (by first | omega | (simp; done) | (simp; omega))))))⟩)
  · have E : nrm (fun k => if 0 ≤ n ∧ n ≤ 1152921504606846976 ∧ (k : Int) = node then n else atZ xs k) = nrm fun k => if (k : Int) = node then n else atZ xs k := by
      refine nrm_congr (fun k hk => ?_)
      by_cases hkn : (k : Int) = node
      · rw [if_pos (by omega), if_pos hkn]
      · rw [if_neg (by omega), if_neg hkn]
    rw [E]
    exact refWithIn v xs node n w h (by omega) (by omega) (by omega) (by omega)
theorem leqB_iff (xs ys : List Int) : leqB xs ys = true ↔ ∀ k : Nat, k < 64 → atZ xs k ≤ atZ ys k := by
  have h1 : leqB xs ys = true ↔ aheadTo xs ys 64 = [] := by
    unfold leqB
    rw [beq_iff_eq, ← List.length_eq_zero_iff]
    omega
  rw [h1]
  unfold aheadTo
  rw [List.map_eq_nil_iff, List.filter_eq_nil_iff]
  constructor
  · intro h k hk
    have := h k (List.mem_range.2 hk)
    simpa using this
  · intro h k hk
    have := h k (List.mem_range.1 hk)
    simpa using this
set_option maxHeartbeats 1000000 in
theorem refLeq (u v : Value) (xs ys : List Int) (w : World) (hu : Rdv i64v w u xs) (hv : Rdv i64v w v ys) : Calls Try.prog 38 #[u, v] w fun e w' => e = .returned (.bool (leqB xs ys)) ∧ w = w' := by
  have KU := Lib.hid (fun k => refAt u xs k w hu)
  have KV := Lib.hid (fun k => refAt v ys k w hv)
  clear hu hv
  go_enter Try.func38, Try.ntmps38
  go_wp2
  go_loop [5] (fun i => ∃ k : Nat, k ≤ 64 ∧ i = .int .i64 k ∧ ∀ j : Nat, j < k → atZ xs j ≤ atZ ys j) (fun i => 64 - (intOf i).toNat)
  case atStart => exact ⟨0, by omega, rfl, fun j hj => by omega⟩
  case round =>
    obtain ⟨k, hk, rfl, hj⟩ := hrel
    have HJ := Lib.hid hj; clear hj
    by_cases hlt : k < 64
    · by_cases h0 : atZ ys k < atZ xs k
      · have H0 : Hid (leqB xs ys = false) := by
          have h : ¬ leqB xs ys = true := fun h => by have := (leqB_iff xs ys).1 h k hlt; omega
          exact (by simpa using h : leqB xs ys = false)
        go_wp2_with fail
        refine (KU.out _).mono ?_
        rintro e w2 ⟨rfl, rfl⟩
        go_wp2_with fail
        refine (KV.out _).mono ?_
        rintro e w2 ⟨rfl, rfl⟩
        go_wp2
        go_ret
        exact ⟨ret_b H0.out.symm, rfl⟩
      · have H0 : Hid (∀ j : Nat, j < k + 1 → atZ xs j ≤ atZ ys j) := fun j hj => by
          rcases Nat.lt_succ_iff_lt_or_eq.1 hj with h | rfl
          · exact HJ.out j h
          · omega
        go_wp2_with fail
        refine (KU.out _).mono ?_
        rintro e w2 ⟨rfl, rfl⟩
        go_wp2_with fail
        refine (KV.out _).mono ?_
        rintro e w2 ⟨rfl, rfl⟩
        go_wp2
        go_round
        case rel => exact ⟨k + 1, by omega, by go_num, H0.out⟩
        case measure => simp [intOf]; omega
    · obtain rfl : k = 64 := by omega
      have H0 : Hid (leqB xs ys = true) := (leqB_iff xs ys).2 HJ.out
      go_wp2
      go_ret
      exact ⟨ret_b H0.out.symm, rfl⟩
theorem refEq (u v : Value) (xs ys : List Int) (w : World) (hu : Rdv i64v w u xs) (hv : Rdv i64v w v ys) : Calls Try.prog 39 #[u, v] w fun e w' => e = .returned (.bool (leqB xs ys && leqB ys xs)) ∧ w = w' := by
  have K0 := refLeq u v xs ys w hu hv
  have K2 := Lib.hid (refLeq v u ys xs w hv hu)
  clear hu hv
  cases hp : leqB xs ys
  all_goals
    rw [hp] at K0
    have K := Lib.hid K0
    clear K0 hp
  · go_enter Try.func39, Try.ntmps39
    go_wp2_with fail
    refine K.out.mono ?_
    rintro e w1 ⟨rfl, rfl⟩
    go_wp2
    go_ret
    exact ⟨ret_b (by simp), rfl⟩
  · go_enter Try.func39, Try.ntmps39
    go_wp2_with fail
    refine K.out.mono ?_
    rintro e w1 ⟨rfl, rfl⟩
    go_wp2_with fail
    refine K2.out.mono ?_
    rintro e w2 ⟨rfl, rfl⟩
    go_wp2
    go_ret
    exact ⟨ret_b (by simp), rfl⟩
set_option maxHeartbeats 1000000 in
theorem refIs (u v : Value) (ys : List Int) (w : World) (hu : Rdv i64v w u (nrm fun k => atZ ys k)) (hv : Rdv i64v w v ys) : Calls Try.prog 31 #[u, v] w fun e w' => e = .returned (.bool true) ∧ Below w.heap.size w w' := by
  have K := Lib.hid (refNorm v ys w hv)
  generalize (nrm fun k => atZ ys k) = zs at *
  have KU := fun w1 hb => hu.below (w' := w1) hb
  obtain ⟨ua, uc, rfl, u1, u2, u3⟩ := hu
  unfold maxLen at u2
  clear u3 hv
  have HU := Lib.hid KU; clear KU
  go_enter Try.func31, Try.ntmps31
  go_wp2_with fail
  refine K.out.mono ?_
  rintro e w1 ⟨n1, rfl, hn, hb⟩
  have hu1 := HU.out _ hb
  obtain ⟨na, nc, rfl, n2, n3, n4⟩ := hn
  unfold maxLen at n3
  have HN := Lib.hid n4; clear n4
  obtain ⟨ua', uc', e', _, _, u4⟩ := hu1
  rw [Value.slice.injEq] at e'
  obtain ⟨rfl, _, rfl⟩ := e'
  have HU4 := Lib.hid u4; clear u4
  have hl : ((zs.length : Int) != (zs.length : Int)) = false := by simp
  go_wp2
  go_loopw [6] (fun i wr => ∃ k : Nat, k ≤ zs.length ∧ i = .int .i64 k ∧ Drw w1 wr) (fun i _ => zs.length - (intOf i).toNat)
  case atStart => exact ⟨0, by omega, rfl, 0, rfl⟩
  case round =>
    obtain ⟨k, hk, rfl, nd, rfl⟩ := hrel
    by_cases hlt : k < zs.length
    · rcases HU4.out with rfl | ⟨b1, o1, rfl, hc1⟩
      · exact absurd hlt (by simp)
      rcases HN.out with h0 | ⟨b2, o2, rfl, hc2⟩
      · rw [h0] at hlt; exact absurd hlt (by simp)
      have g1 := hc1 k hlt
      have g2 := hc2 k hlt
      generalize zs.getD k 0 = x at *
      clear hc1 hc2 HU4 HN
      go_wp2
      go_quiet (fail)
      go_wp2
      go_roundw
      case rel => exact ⟨k + 1, by omega, by go_num, by first | exact ⟨_, rfl⟩ | exact ⟨_, World.drewN_drewN _ _ _⟩⟩
      case measure => simp [intOf]; omega
    · obtain rfl : k = zs.length := by omega
      go_wp2
      go_ret
      have hz := hb.size
      exact ⟨rfl, hb.trans ((Drw.below ⟨nd, rfl⟩).mono hz)⟩
end Go.Proofs.Ytgpfkdlnmifiiaa

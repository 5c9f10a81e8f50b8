/- Contracts of package vector, continued: what is compared and added. -/
import Derived.Test.YtgpfkdlnmifiiaaChecked
import Derived.WalkKit
import Derived.Outline
import Derived.WalkSpells
import Derived.WalkLawsBesides
import Derived.Deep.QuietTactic
import Derived.Deep.RegionWith
import Derived.Deep.DeepMust
import Derived.BigQuiet
import Derived.Test.YtgpfkdlnmifiiaaMem
import Derived.RegionTactic
import Derived.ChangeAlike
import Derived.StillTailTactics
import Derived.Deep.LoopGhost
import Derived.Test.YtgpfkdlnmifiiaaVec2
namespace Go.Proofs.Ytgpfkdlnmifiiaa
open Go.RowKit
set_option linter.unusedVariables false
set_option linter.unusedSimpArgs false
theorem Try.info3 : (Try.prog.info? 3).map (fun i => (i.zero, i.size, i.bytes)) = some (some (.int .i64 0), 1, 8) := by kernel_rfl
/-- Where the first is greater, ahead of k. -/
def aheadTo (xs ys : List Int) (k : Nat) : List Int := ((List.range k).filter (fun i : Nat => decide (atZ ys i < atZ xs i))).map (fun i : Nat => (i : Int))
theorem aheadTo_succ (xs ys : List Int) (k : Nat) : aheadTo xs ys (k + 1) = aheadTo xs ys k ++ if atZ ys k < atZ xs k then [(k : Int)] else [] := by
  unfold aheadTo
  rw [List.range_succ, List.filter_append]
  by_cases h : atZ ys k < atZ xs k <;> simp [h]
theorem aheadTo_len (xs ys : List Int) (k : Nat) : (aheadTo xs ys k).length ≤ k := by
  have := List.length_filter_le (fun i : Nat => decide (atZ ys i < atZ xs i)) (List.range k)
  simpa [aheadTo] using this
set_option maxHeartbeats 1000000 in
set_option maxRecDepth 100000 in
theorem vecAhead (u v : Value) (xs ys : List Int) (w : World) (hu : Rdv i64v w u xs) (hv : Rdv i64v w v ys) : Calls Try.prog 29 #[u, v] w (MkPost (aheadTo xs ys 64) w) := by
  obtain ⟨i0, hi, hz0, hz1, hz2⟩ := info_parts Try.info3
  have KU := fun k w1 hb => vecAt u xs k w1 (hu.below hb)
  have KV := fun k w1 hb => vecAt v ys k w1 (hv.below hb)
  have HU := Lib.hid KU
  have HV := Lib.hid KV
  clear KU KV hu hv
  go_enter Try.func29, Try.ntmps29
  go_wp2
  go_loopw [5, 7] (fun l i wr => ∃ k : Nat, k ≤ 64 ∧ i = .int .i64 k ∧ wr.ownsRow w.heap.size 3 1 l (aheadTo xs ys k).length ((aheadTo xs ys k).map i64v) ∧ Below w.heap.size w wr) (fun _ i _ => 64 - (intOf i).toNat)
  case atStart => exact ⟨0, by omega, rfl, World.ownsRow_nil _ _ _ _, Below.refl _ _⟩
  case round =>
    obtain ⟨k, hk, rfl, hown, hb⟩ := hrel
    by_cases hlt : k < 64
    · go_wp2_with fail
      refine (HU.out _ _ hb).mono ?_
      rintro e w2 ⟨rfl, rfl⟩
      go_wp2_with fail
      refine (HV.out _ _ hb).mono ?_
      rintro e w2 ⟨rfl, rfl⟩
      have hs := Lib.hid (aheadTo_succ xs ys k)
      have hlen := aheadTo_len xs ys k
      by_cases h0 : atZ ys k < atZ xs k
      · have H0 := Lib.hid h0
        go_wp2_with (at_builtin; refine wpList_append_own _ rfl _ _ 24 rfl w.heap.size 3 i0 (.int .i64 0) 1 8 Try.underlying24 hi hz0 hz1 hz2 rfl (by decide) _ _ _ rfl (hown.alloc _) ⟨wr.heap.size, 0, none⟩ 1 1 [.int .i64 (k)] rfl rfl ?c1 ?c2 ?c3 ?c4 ?c5 ?_)
        case c1 => exact cell_one_new _ _ _
        case c2 => intro u hu; simp at hu; subst hu; rfl
        case c3 => unfold maxLen; omega
        case c4 => omega
        case c5 => have := hb.size; simp; omega
        intro v' w1 hown1 hgrow1 _
        have hb1 : Below w.heap.size w w1 := (hb.alloc (by have := hb.size; omega) _).grown hgrow1 (by have := hb.size; simp; omega) (fun q hq => (hown.lt q hq).1)
        have HB1 := Lib.hid hb1
        have HO1 := Lib.hid hown1
        clear hb1 hown1 hgrow1
        go_wp2
        go_roundw
        case rel => exact ⟨k + 1, by omega, by go_num, by rw [hs.out, if_pos H0.out]; simpa using HO1.out, HB1.out⟩
        case measure => simp [intOf]; omega
      · have H0 := Lib.hid h0
        have HO1 := Lib.hid hown
        have HB1 := Lib.hid hb
        clear hown hb
        go_wp2
        go_roundw
        case rel => exact ⟨k + 1, by omega, by go_num, by rw [hs.out, if_neg (by have := H0.out; omega)]; simpa using HO1.out, HB1.out⟩
        case measure => simp [intOf]; omega
    · obtain rfl : k = 64 := by omega
      have hr := Rdv.of_owns (xs := aheadTo xs ys 64) hown
      have HR := Lib.hid hr
      clear hr hown
      go_wp2
      go_ret
      exact ⟨_, rfl, HR.out, hb⟩
/-- No number of the first is greater. -/
def leqB (xs ys : List Int) : Bool := ((aheadTo xs ys 64).length : Int) == 0
theorem vecLeq (u v : Value) (xs ys : List Int) (w : World) (hu : Rdv i64v w u xs) (hv : Rdv i64v w v ys) : Calls Try.prog 26 #[u, v] w fun e w' => e = .returned (.bool (leqB xs ys)) ∧ Below w.heap.size w w' := by
  have K := Lib.hid (vecAhead u v xs ys w hu hv)
  clear hu hv
  go_enter Try.func26, Try.ntmps26
  go_wp2_with fail
  refine K.out.mono ?_
  rintro e w' ⟨l, rfl, ⟨a, c, rfl, _⟩, hb⟩
  go_wp2
  go_ret
  exact ⟨ret_b (by first | rfl | (unfold leqB; rfl)), hb⟩
theorem vecEq (u v : Value) (xs ys : List Int) (w : World) (hu : Rdv i64v w u xs) (hv : Rdv i64v w v ys) : Calls Try.prog 24 #[u, v] w fun e w' => e = .returned (.bool (leqB xs ys && leqB ys xs)) ∧ Below w.heap.size w w' := by
  have K0 := vecLeq u v xs ys w hu hv
  have K2 := Lib.hid (fun w1 hb => vecLeq v u ys xs w1 (hv.below hb) (hu.below hb))
  clear hu hv
  cases hp : leqB xs ys
  all_goals
    rw [hp] at K0
    have K := Lib.hid K0
    clear K0 hp
  · go_enter Try.func24, Try.ntmps24
    go_wp2_with fail
    refine K.out.mono ?_
    rintro e w1 ⟨rfl, hb⟩
    go_wp2
    go_ret
    exact ⟨ret_b (by simp), hb⟩
  · go_enter Try.func24, Try.ntmps24
    go_wp2_with fail
    refine K.out.mono ?_
    rintro e w1 ⟨rfl, hb⟩
    go_wp2_with fail
    refine (K2.out _ hb).mono ?_
    rintro e w2 ⟨rfl, hb2⟩
    have hz := hb.size
    go_wp2
    go_ret
    exact ⟨ret_b (by simp), by (repeat (first | exact Below.refl _ _ | (with_reducible assumption) | apply Below.drew | (refine Below.alloc ?_ (by first | exact Nat.le_refl _ | omega | (simp; done) | (simp; omega)) _) | (refine Below.setCell ?_ (by first | exact Nat.le_refl _ | omega | (simp; done) | (simp; omega)) _) | (refine Below.trans ?_ (Below.mono (by with_reducible assumption) (by first | omega | (simp; done) | (simp; omega))))))⟩
theorem vecApart (u v : Value) (xs ys : List Int) (w : World) (hu : Rdv i64v w u xs) (hv : Rdv i64v w v ys) : Calls Try.prog 40 #[u, v] w fun e w' => e = .returned (.bool (!leqB xs ys && !leqB ys xs)) ∧ Below w.heap.size w w' := by
  have K0 := vecLeq u v xs ys w hu hv
  have K2 := Lib.hid (fun w1 hb => vecLeq v u ys xs w1 (hv.below hb) (hu.below hb))
  clear hu hv
  cases hp : leqB xs ys
  all_goals
    rw [hp] at K0
    have K := Lib.hid K0
    clear K0 hp
  · go_enter Try.func40, Try.ntmps40
    go_wp2_with fail
    refine K.out.mono ?_
    rintro e w1 ⟨rfl, hb⟩
    go_wp2_with fail
    refine (K2.out _ hb).mono ?_
    rintro e w2 ⟨rfl, hb2⟩
    have hz := hb.size
    go_wp2
    go_ret
    exact ⟨ret_b (by simp), by (repeat (first | exact Below.refl _ _ | (with_reducible assumption) | apply Below.drew | (refine Below.alloc ?_ (by first | exact Nat.le_refl _ | omega | (simp; done) | (simp; omega)) _) | (refine Below.setCell ?_ (by first | exact Nat.le_refl _ | omega | (simp; done) | (simp; omega)) _) | (refine Below.trans ?_ (Below.mono (by with_reducible assumption) (by first | omega | (simp; done) | (simp; omega))))))⟩
  · go_enter Try.func40, Try.ntmps40
    go_wp2_with fail
    refine K.out.mono ?_
    rintro e w1 ⟨rfl, hb⟩
    go_wp2
    go_ret
    exact ⟨ret_b (by simp), hb⟩
/-- The numbers added, ahead of k. -/
def sumTo (xs : List Int) : Nat → Int | 0 => 0 | k + 1 => min (sumTo xs k + atZ xs k) 4611686018427387904
theorem atZ_bd (xs : List Int) (k : Int) : 0 ≤ atZ xs k ∧ atZ xs k ≤ 1152921504606846976 := by
  unfold atZ
  split
  · omega
  · split <;> omega
theorem sumTo_bd (xs : List Int) : ∀ k, 0 ≤ sumTo xs k ∧ sumTo xs k ≤ 4611686018427387904
  | 0 => by simp [sumTo]
  | k + 1 => by have := sumTo_bd xs k; have := atZ_bd xs k; unfold sumTo; omega
set_option maxHeartbeats 1000000 in
theorem vecSum (v : Value) (xs : List Int) (w : World) (h : Rdv i64v w v xs) : Calls Try.prog 41 #[v] w fun e w' => e = .returned (.int .i64 (sumTo xs 64)) ∧ w = w' := by
  have K := Lib.hid (fun k => vecAt v xs k w h)
  clear h
  go_enter Try.func41, Try.ntmps41
  go_wp2
  go_loop [3, 5] (fun s i => ∃ k : Nat, k ≤ 64 ∧ i = .int .i64 k ∧ s = .int .i64 (sumTo xs k)) (fun _ i => 64 - (intOf i).toNat)
  case atStart => exact ⟨0, by omega, rfl, rfl⟩
  case round =>
    obtain ⟨k, hk, rfl, rfl⟩ := hrel
    by_cases hlt : k < 64
    · obtain ⟨s1, s2⟩ := sumTo_bd xs k
      obtain ⟨a1, a2⟩ := atZ_bd xs k
      have hs : Hid (sumTo xs (k + 1) = min (sumTo xs k + atZ xs k) 4611686018427387904) := rfl
      go_wp2_with (go_at_call 33; refine (K.out _).mono ?_; rintro e w' ⟨rfl, rfl⟩)
      all_goals
        go_round
        case rel => exact ⟨k + 1, by omega, by go_num, by rw [hs.out]; first | (rw [Int.min_eq_left (by omega)]; done) | (rw [Int.min_eq_right (by omega)]; done) | go_num⟩
        case measure => simp [intOf]; omega
    · obtain rfl : k = 64 := by omega
      go_wp2
      go_ret
      exact ⟨rfl, rfl⟩
end Go.Proofs.Ytgpfkdlnmifiiaa

/- Vectors compared: vector.At, Ahead, Leq, Eq; the reference's Leq, Eq (on VecI). -/
import Derived.Test.YthbalmoafpggdaaChecked
import Derived.WalkKit
import Derived.Outline
import Derived.WalkSpells
import Derived.WalkLawsBesides
import Derived.Deep.QuietTactic
import Derived.Deep.RegionWith
import Derived.Deep.DeepMust
import Derived.BigQuiet
import Derived.Test.YthbalmoafpggdaaMem
import Derived.RegionTactic
import Derived.ChangeAlike
import Derived.StillTailTactics
import Derived.Deep.LoopGhost
import Derived.Test.YthbalmoafpggdaaVecI
namespace Go.Proofs.Ythbalmoafpggdaa
open Go.RowKit
set_option linter.unusedVariables false
set_option linter.unusedSimpArgs false
theorem vecAt (v : Value) (xs : List Int) (node : Int) (w : World) (h : Rdv i64v w v xs) :
    Calls Try.prog 129 #[v, .int .i64 node] w fun e w' => e = .returned (.int .i64 (atZ xs node)) ∧ w = w' := by
  obtain ⟨a, c, rfl, h1, h2, h3⟩ := h
  unfold maxLen at h2
  by_cases c1 : node < 0
  · have H : Hid (atZ xs node = 0) := by unfold atZ; rw [if_pos (.inl c1)]; exact rfl
    go_enter Try.func129, Try.ntmps129
    go_wp2
    go_ret
    exact ⟨ret_i H.out.symm, rfl⟩
  by_cases c2 : (xs.length : Int) ≤ node ∨ 64 ≤ node
  · have H : Hid (atZ xs node = 0) := by unfold atZ; rw [if_pos (.inr c2)]; exact rfl
    have c3 : min (xs.length : Int) 64 ≤ node := by omega
    clear c2
    go_enter Try.func129, Try.ntmps129
    go_wp2
    all_goals
      go_ret
      exact ⟨ret_i H.out.symm, rfl⟩
  rcases h3 with rfl | ⟨b, o, rfl, h3⟩
  · exact absurd c2 (by simp; omega)
  obtain ⟨i, rfl⟩ := Int.eq_ofNat_of_zero_le (Int.not_lt.1 c1)
  have hi : i < xs.length := by omega
  have hi' : i < 64 := by omega
  have hc := h3 i hi
  have hA : atZ xs i = if xs.getD i 0 < 0 ∨ 1152921504606846976 < xs.getD i 0 then 0 else xs.getD i 0 := by
    unfold atZ; rw [if_neg (by omega)]; simp
  generalize xs.getD i 0 = x at *
  clear h3 c1 c2
  have hm : ((i : Int) < min (xs.length : Int) 64) := by omega
  have HA := Lib.hid hA; clear hA
  go_enter Try.func129, Try.ntmps129
  go_wp2
  all_goals
    go_ret
    refine ⟨ret_i ?_, rfl⟩
    rw [HA.out]
    split <;> first | rfl | omega

theorem Try.info3 : (Try.prog.info? 3).map (fun i => (i.zero, i.size, i.bytes)) = some (some (.int .i64 0), 1, 8) := by kernel_rfl
/-- Where the first is greater, ahead of k. -/
def aheadTo (xs ys : List Int) (k : Nat) : List Int := ((List.range k).filter (fun i : Nat => decide (atZ ys i < atZ xs i))).map (fun i : Nat => (i : Int))
theorem aheadTo_succ (xs ys : List Int) (k : Nat) : aheadTo xs ys (k + 1) = aheadTo xs ys k ++ if atZ ys k < atZ xs k then [(k : Int)] else [] := by
  unfold aheadTo
  rw [List.range_succ, List.filter_append]
  by_cases h : atZ ys k < atZ xs k <;> simp [h]
theorem aheadTo_len (xs ys : List Int) (k : Nat) : (aheadTo xs ys k).length ≤ k := by
  have := List.length_filter_le (fun i : Nat => decide (atZ ys i < atZ xs i)) (List.range k)
  simpa [aheadTo] using this
set_option maxHeartbeats 1000000 in
set_option maxRecDepth 100000 in
theorem vecAhead (u v : Value) (xs ys : List Int) (w : World) (hu : Rdv i64v w u xs) (hv : Rdv i64v w v ys) : Calls Try.prog 137 #[u, v] w (MkPost (aheadTo xs ys 64) w) := by
  obtain ⟨i0, hi, hz0, hz1, hz2⟩ := info_parts Try.info3
  have KU := fun k w1 hb => vecAt u xs k w1 (hu.below hb)
  have KV := fun k w1 hb => vecAt v ys k w1 (hv.below hb)
  have HU := Lib.hid KU
  have HV := Lib.hid KV
  clear KU KV hu hv
  go_enter Try.func137, Try.ntmps137
  go_wp2
  go_loopw [5, 7] (fun l i wr => ∃ k : Nat, k ≤ 64 ∧ i = .int .i64 k ∧ wr.ownsRow w.heap.size 3 1 l (aheadTo xs ys k).length ((aheadTo xs ys k).map i64v) ∧ Below w.heap.size w wr) (fun _ i _ => 64 - (intOf i).toNat)
  case atStart => exact ⟨0, by omega, rfl, World.ownsRow_nil _ _ _ _, Below.refl _ _⟩
  case round =>
    obtain ⟨k, hk, rfl, hown, hb⟩ := hrel
    by_cases hlt : k < 64
    · go_wp2_with fail
      refine (HU.out _ _ hb).mono ?_
      rintro e w2 ⟨rfl, rfl⟩
      go_wp2_with fail
      refine (HV.out _ _ hb).mono ?_
      rintro e w2 ⟨rfl, rfl⟩
      have hs := Lib.hid (aheadTo_succ xs ys k)
      have hlen := aheadTo_len xs ys k
      by_cases h0 : atZ ys k < atZ xs k
      · have H0 := Lib.hid h0
        go_wp2_with (at_builtin; refine wpList_append_own _ rfl _ _ 35 rfl w.heap.size 3 i0 (.int .i64 0) 1 8 Try.underlying35 hi hz0 hz1 hz2 rfl (by decide) _ _ _ rfl (hown.alloc _) ⟨wr.heap.size, 0, none⟩ 1 1 [.int .i64 (k)] rfl rfl ?c1 ?c2 ?c3 ?c4 ?c5 ?_)
        case c1 => exact cell_one_new _ _ _
        case c2 => intro u hu; simp at hu; subst hu; rfl
        case c3 => unfold maxLen; omega
        case c4 => omega
        case c5 => have := hb.size; simp; omega
        intro v' w1 hown1 hgrow1 _
        have hb1 : Below w.heap.size w w1 := (hb.alloc (by have := hb.size; omega) _).grown hgrow1 (by have := hb.size; simp; omega) (fun q hq => (hown.lt q hq).1)
        have HB1 := Lib.hid hb1
        have HO1 := Lib.hid hown1
        clear hb1 hown1 hgrow1
        go_wp2
        go_roundw
        case rel => exact ⟨k + 1, by omega, by go_num, by rw [hs.out, if_pos H0.out]; simpa using HO1.out, HB1.out⟩
        case measure => simp [intOf]; omega
      · have H0 := Lib.hid h0
        have HO1 := Lib.hid hown
        have HB1 := Lib.hid hb
        clear hown hb
        go_wp2
        go_roundw
        case rel => exact ⟨k + 1, by omega, by go_num, by rw [hs.out, if_neg (by have := H0.out; omega)]; simpa using HO1.out, HB1.out⟩
        case measure => simp [intOf]; omega
    · obtain rfl : k = 64 := by omega
      have hr := Rdv.of_owns (xs := aheadTo xs ys 64) hown
      have HR := Lib.hid hr
      clear hr hown
      go_wp2
      go_ret
      exact ⟨_, rfl, HR.out, hb⟩
/-- No number of the first is greater. -/
def leqB (xs ys : List Int) : Bool := ((aheadTo xs ys 64).length : Int) == 0
theorem vecLeq (u v : Value) (xs ys : List Int) (w : World) (hu : Rdv i64v w u xs) (hv : Rdv i64v w v ys) : Calls Try.prog 130 #[u, v] w fun e w' => e = .returned (.bool (leqB xs ys)) ∧ Below w.heap.size w w' := by
  have K := Lib.hid (vecAhead u v xs ys w hu hv)
  clear hu hv
  go_enter Try.func130, Try.ntmps130
  go_wp2_with fail
  refine K.out.mono ?_
  rintro e w' ⟨l, rfl, ⟨a, c, rfl, _⟩, hb⟩
  go_wp2
  go_ret
  exact ⟨ret_b (by first | rfl | (unfold leqB; rfl)), hb⟩
theorem vecEq (u v : Value) (xs ys : List Int) (w : World) (hu : Rdv i64v w u xs) (hv : Rdv i64v w v ys) : Calls Try.prog 117 #[u, v] w fun e w' => e = .returned (.bool (leqB xs ys && leqB ys xs)) ∧ Below w.heap.size w w' := by
  have K0 := vecLeq u v xs ys w hu hv
  have K2 := Lib.hid (fun w1 hb => vecLeq v u ys xs w1 (hv.below hb) (hu.below hb))
  clear hu hv
  cases hp : leqB xs ys
  all_goals
    rw [hp] at K0
    have K := Lib.hid K0
    clear K0 hp
  · go_enter Try.func117, Try.ntmps117
    go_wp2_with fail
    refine K.out.mono ?_
    rintro e w1 ⟨rfl, hb⟩
    go_wp2
    go_ret
    exact ⟨ret_b (by simp), hb⟩
  · go_enter Try.func117, Try.ntmps117
    go_wp2_with fail
    refine K.out.mono ?_
    rintro e w1 ⟨rfl, hb⟩
    go_wp2_with fail
    refine (K2.out _ hb).mono ?_
    rintro e w2 ⟨rfl, hb2⟩
    have hz := hb.size
    go_wp2
    go_ret
    exact ⟨ret_b (by simp), by (repeat (first | exact Below.refl _ _ | (with_reducible assumption) | apply Below.drew | (refine Below.alloc ?_ (by first | exact Nat.le_refl _ | omega | (simp; done) | (simp; omega)) _) | (refine Below.setCell ?_ (by first | exact Nat.le_refl _ | omega | (simp; done) | (simp; omega)) _) | (refine Below.trans ?_ (Below.mono (by with_reducible assumption) (by first | omega | (simp; done) | (simp; omega))))))⟩
theorem leqB_iff (xs ys : List Int) : leqB xs ys = true ↔ ∀ k : Nat, k < 64 → atZ xs k ≤ atZ ys k := by
  have h1 : leqB xs ys = true ↔ aheadTo xs ys 64 = [] := by
    unfold leqB
    rw [beq_iff_eq, ← List.length_eq_zero_iff]
    omega
  rw [h1]
  unfold aheadTo
  rw [List.map_eq_nil_iff, List.filter_eq_nil_iff]
  constructor
  · intro h k hk
    have := h k (List.mem_range.2 hk)
    simpa using this
  · intro h k hk
    have := h k (List.mem_range.1 hk)
    simpa using this
set_option maxHeartbeats 1000000 in
theorem refLeq (u v : Value) (xs ys : List Int) (w : World) (hu : Rdv i64v w u xs) (hv : Rdv i64v w v ys) : Calls Try.prog 123 #[u, v] w fun e w' => e = .returned (.bool (leqB xs ys)) ∧ w = w' := by
  have KU := Lib.hid (fun k => refAt u xs k w hu)
  have KV := Lib.hid (fun k => refAt v ys k w hv)
  clear hu hv
  go_enter Try.func123, Try.ntmps123
  go_wp2
  go_loop [5] (fun i => ∃ k : Nat, k ≤ 64 ∧ i = .int .i64 k ∧ ∀ j : Nat, j < k → atZ xs j ≤ atZ ys j) (fun i => 64 - (intOf i).toNat)
  case atStart => exact ⟨0, by omega, rfl, fun j hj => by omega⟩
  case round =>
    obtain ⟨k, hk, rfl, hj⟩ := hrel
    have HJ := Lib.hid hj; clear hj
    by_cases hlt : k < 64
    · by_cases h0 : atZ ys k < atZ xs k
      · have H0 : Hid (leqB xs ys = false) := by
          have h : ¬ leqB xs ys = true := fun h => by have := (leqB_iff xs ys).1 h k hlt; omega
          exact (by simpa using h : leqB xs ys = false)
        go_wp2_with fail
        refine (KU.out _).mono ?_
        rintro e w2 ⟨rfl, rfl⟩
        go_wp2_with fail
        refine (KV.out _).mono ?_
        rintro e w2 ⟨rfl, rfl⟩
        go_wp2
        go_ret
        exact ⟨ret_b H0.out.symm, rfl⟩
      · have H0 : Hid (∀ j : Nat, j < k + 1 → atZ xs j ≤ atZ ys j) := fun j hj => by
          rcases Nat.lt_succ_iff_lt_or_eq.1 hj with h | rfl
          · exact HJ.out j h
          · omega
        go_wp2_with fail
        refine (KU.out _).mono ?_
        rintro e w2 ⟨rfl, rfl⟩
        go_wp2_with fail
        refine (KV.out _).mono ?_
        rintro e w2 ⟨rfl, rfl⟩
        go_wp2
        go_round
        case rel => exact ⟨k + 1, by omega, by go_num, H0.out⟩
        case measure => simp [intOf]; omega
    · obtain rfl : k = 64 := by omega
      have H0 : Hid (leqB xs ys = true) := (leqB_iff xs ys).2 HJ.out
      go_wp2
      go_ret
      exact ⟨ret_b H0.out.symm, rfl⟩
theorem refEq (u v : Value) (xs ys : List Int) (w : World) (hu : Rdv i64v w u xs) (hv : Rdv i64v w v ys) : Calls Try.prog 98 #[u, v] w fun e w' => e = .returned (.bool (leqB xs ys && leqB ys xs)) ∧ w = w' := by
  have K0 := refLeq u v xs ys w hu hv
  have K2 := Lib.hid (refLeq v u ys xs w hv hu)
  clear hu hv
  cases hp : leqB xs ys
  all_goals
    rw [hp] at K0
    have K := Lib.hid K0
    clear K0 hp
  · go_enter Try.func98, Try.ntmps98
    go_wp2_with fail
    refine K.out.mono ?_
    rintro e w1 ⟨rfl, rfl⟩
    go_wp2
    go_ret
    exact ⟨ret_b (by simp), rfl⟩
  · go_enter Try.func98, Try.ntmps98
    go_wp2_with fail
    refine K.out.mono ?_
    rintro e w1 ⟨rfl, rfl⟩
    go_wp2_with fail
    refine K2.out.mono ?_
    rintro e w2 ⟨rfl, rfl⟩
    go_wp2
    go_ret
    exact ⟨ret_b (by simp), rfl⟩
end Go.Proofs.Ythbalmoafpggdaa

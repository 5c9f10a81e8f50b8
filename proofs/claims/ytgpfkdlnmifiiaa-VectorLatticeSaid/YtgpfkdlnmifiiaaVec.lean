/- Contracts of package vector. -/
import Derived.Test.YtgpfkdlnmifiiaaChecked
import Derived.WalkKit
import Derived.Outline
import Derived.WalkSpells
import Derived.WalkLawsBesides
import Derived.Deep.QuietTactic
import Derived.Deep.RegionWith
import Derived.Deep.DeepMust
import Derived.BigQuiet
import Derived.Test.YtgpfkdlnmifiiaaMem
import Derived.RegionTactic
import Derived.ChangeAlike
import Derived.StillTailTactics
import Derived.Deep.LoopGhost
namespace Go.Proofs.Ytgpfkdlnmifiiaa
open Go.RowKit
set_option linter.unusedVariables false
set_option linter.unusedSimpArgs false
abbrev i64v : Int → Value := .int .i64
/-- A vector's number. -/
def atZ (xs : List Int) (node : Int) : Int :=
  if node < 0 ∨ (xs.length : Int) ≤ node ∨ 64 ≤ node then 0 else if xs.getD node.toNat 0 < 0 ∨ 1152921504606846976 < xs.getD node.toNat 0 then 0 else xs.getD node.toNat 0
theorem vecAt (v : Value) (xs : List Int) (node : Int) (w : World) (h : Rdv i64v w v xs) :
    Calls Try.prog 33 #[v, .int .i64 node] w fun e w' => e = .returned (.int .i64 (atZ xs node)) ∧ w = w' := by
  obtain ⟨a, c, rfl, h1, h2, h3⟩ := h
  unfold maxLen at h2
  by_cases c1 : node < 0
  · have H : Hid (atZ xs node = 0) := by unfold atZ; rw [if_pos (.inl c1)]; exact rfl
    go_enter Try.func33, Try.ntmps33
    go_wp2
    go_ret
    exact ⟨ret_i H.out.symm, rfl⟩
  by_cases c2 : (xs.length : Int) ≤ node ∨ 64 ≤ node
  · have H : Hid (atZ xs node = 0) := by unfold atZ; rw [if_pos (.inr c2)]; exact rfl
    have c3 : min (xs.length : Int) 64 ≤ node := by omega
    clear c2
    go_enter Try.func33, Try.ntmps33
    go_wp2
    all_goals
      go_ret
      exact ⟨ret_i H.out.symm, rfl⟩
  rcases h3 with rfl | ⟨b, o, rfl, h3⟩
  · exact absurd c2 (by simp; omega)
  obtain ⟨i, rfl⟩ := Int.eq_ofNat_of_zero_le (Int.not_lt.1 c1)
  have hi : i < xs.length := by omega
  have hi' : i < 64 := by omega
  have hc := h3 i hi
  have hA : atZ xs i = if xs.getD i 0 < 0 ∨ 1152921504606846976 < xs.getD i 0 then 0 else xs.getD i 0 := by
    unfold atZ; rw [if_neg (by omega)]; simp
  generalize xs.getD i 0 = x at *
  clear h3 c1 c2
  have hm : ((i : Int) < min (xs.length : Int) 64) := by omega
  have HA := Lib.hid hA; clear hA
  go_enter Try.func33, Try.ntmps33
  go_wp2
  all_goals
    go_ret
    refine ⟨ret_i ?_, rfl⟩
    rw [HA.out]
    split <;> first | rfl | omega

theorem vecNumAt (v : Value) (xs : List Int) (node : Int) (w : World) (h : Rdv i64v w v xs) :
    Calls Try.prog 87 #[v, .int .i64 node] w fun e w' => e = .returned (.int .i64 (atZ xs node)) ∧ Drw w w' := by
  go_enter Try.func87, Try.ntmps87
  go_wp2_with (go_at_call 33; refine (vecAt _ _ _ _ h).mono ?_; rintro e w' ⟨rfl, rfl⟩)
  go_ret
  exact ⟨rfl, 0, rfl⟩
theorem vecWith1 (b1 b2 b3 : Nat) (node n : Int) (v : Value) (xs : List Int) (k : Int) (w : World) (h : Rdv i64v w v xs)
    (h1 : w.cell? ⟨b1, 0, none⟩ = some (.int .i64 node)) (h2 : w.cell? ⟨b2, 0, none⟩ = some (.int .i64 n)) (h3 : w.cell? ⟨b3, 0, none⟩ = some v) :
    Calls Try.prog 88 #[.int .i64 k, .pointer (some ⟨b1, 0, none⟩), .pointer (some ⟨b2, 0, none⟩), .pointer (some ⟨b3, 0, none⟩)] w fun e w' => e = .returned (.int .i64 (if k = node then n else atZ xs k)) ∧ Drw w w' := by
  by_cases hk : k = node
  · subst hk
    rw [if_pos rfl]
    go_enter Try.func88, Try.ntmps88
    go_wp2
    go_ret
    exact ⟨rfl, 0, rfl⟩
  · rw [if_neg hk]
    have hk' : (k == node) = false := by simpa using hk
    go_enter Try.func88, Try.ntmps88
    go_wp2_with (go_at_call 33; refine (vecAt _ _ _ _ h).mono ?_; rintro e w' ⟨rfl, rfl⟩)
    go_ret
    exact ⟨rfl, 0, rfl⟩
theorem vecMin1 (b1 b2 : Nat) (u v : Value) (xs ys : List Int) (k : Int) (w : World) (hu : Rdv i64v w u xs) (hv : Rdv i64v w v ys)
    (h1 : w.cell? ⟨b1, 0, none⟩ = some u) (h2 : w.cell? ⟨b2, 0, none⟩ = some v) :
    Calls Try.prog 85 #[.int .i64 k, .pointer (some ⟨b1, 0, none⟩), .pointer (some ⟨b2, 0, none⟩)] w fun e w' => e = .returned (.int .i64 (min (atZ xs k) (atZ ys k))) ∧ Drw w w' := by
  have HU := fun w' (hw : w'.heap = w.heap) => vecAt u xs k w' (hu.of_cells (fun a z hz => by simpa [World.cell?, hw] using hz))
  have HV := fun w' (hw : w'.heap = w.heap) => vecAt v ys k w' (hv.of_cells (fun a z hz => by simpa [World.cell?, hw] using hz))
  have KU := Lib.hid HU
  have KV := Lib.hid HV
  clear HU HV hu hv
  go_enter Try.func85, Try.ntmps85
  go_wp2
  go_quiet ((go_at_call 33; first | ((with_reducible refine quiS (KU.out _ ?_)); rfl) | ((with_reducible refine quiS (KV.out _ ?_)); rfl)))
  go_wp2
  all_goals
    go_ret
    exact ⟨ret_i (by omega), _, rfl⟩

/-- A slice whose elements are vectors. -/
def RdVs (w : World) (v : Value) (yss : List (List Int)) : Prop :=
  ∃ a c, v = .slice a yss.length c ∧ yss.length ≤ c ∧ c ≤ maxLen ∧ (yss = [] ∨ ∃ b o, a = some ⟨b, o, none⟩ ∧ ∀ j, j < yss.length → ∃ u, w.cell? ⟨b, o + j, none⟩ = some u ∧ Rdv i64v w u (yss.getD j []))
theorem RdVs.shape {w : World} {v : Value} {yss : List (List Int)} (h : RdVs w v yss) : ∃ a n c, v = .slice a n c := by
  obtain ⟨a, c, rfl, _⟩ := h
  exact ⟨a, _, c, rfl⟩
theorem RdVs.of_cells {w w' : World} {v : Value} {yss : List (List Int)} (h : RdVs w v yss) (hc : ∀ a u, w.cell? a = some u → w'.cell? a = some u) : RdVs w' v yss := by
  obtain ⟨a, c, rfl, h1, h2, h3⟩ := h
  refine ⟨a, c, rfl, h1, h2, ?_⟩
  rcases h3 with h3 | ⟨b, o, rfl, h3⟩
  · exact .inl h3
  · exact .inr ⟨b, o, rfl, fun j hj => by obtain ⟨u, hu, hr⟩ := h3 j hj; exact ⟨u, hc _ _ hu, hr.of_cells hc⟩⟩
theorem RdVs.of_blk {w : World} {b : Nat} {us : List Value} {T : TypeId} (hb : Blk w b us.toArray T) (yss : List (List Int)) (hl : us.length = yss.length) (hm : us.length ≤ maxLen) (hr : ∀ j, j < us.length → ∃ u, us[j]? = some u ∧ Rdv i64v w u (yss.getD j [])) : RdVs w (.slice (some ⟨b, 0, none⟩) us.length us.length) yss := by
  refine ⟨_, _, by rw [hl], by omega, hm, .inr ⟨b, 0, rfl, fun j hj => ?_⟩⟩
  obtain ⟨u, hu, hr'⟩ := hr j (by omega)
  exact ⟨u, hb.cell (by simp [hu]), hr'⟩
theorem rdvs2 {w : World} {b : Nat} {u v : Value} {T : TypeId} {xs ys : List Int} (hb : Blk w b #[u, v] T) (hu : Rdv i64v w u xs) (hv : Rdv i64v w v ys) : RdVs w (.slice (some ⟨b, 0, none⟩) 2 2) [xs, ys] :=
  RdVs.of_blk (us := [u, v]) hb [xs, ys] rfl (by unfold maxLen; simp) fun j hj => by
    match j, hj with
    | 0, _ => exact ⟨u, rfl, hu⟩
    | 1, _ => exact ⟨v, rfl, hv⟩
theorem rdvs3 {w : World} {b : Nat} {u v z : Value} {T : TypeId} {xs ys zs : List Int} (hb : Blk w b #[u, v, z] T) (hu : Rdv i64v w u xs) (hv : Rdv i64v w v ys) (hz : Rdv i64v w z zs) : RdVs w (.slice (some ⟨b, 0, none⟩) 3 3) [xs, ys, zs] :=
  RdVs.of_blk (us := [u, v, z]) hb [xs, ys, zs] rfl (by unfold maxLen; simp) fun j hj => by
    match j, hj with
    | 0, _ => exact ⟨u, rfl, hu⟩
    | 1, _ => exact ⟨v, rfl, hv⟩
    | 2, _ => exact ⟨z, rfl, hz⟩
theorem rdvs0 (w : World) : RdVs w (.slice none 0 0) [] := ⟨none, 0, rfl, Nat.le_refl _, Nat.zero_le _, .inl rfl⟩
def maxZ (yss : List (List Int)) (k : Int) : Int := yss.foldl (fun n ys => max n (atZ ys k)) 0
theorem maxZ_snoc (yss : List (List Int)) (k : Int) (j : Nat) (h : j < yss.length) : maxZ (yss.take (j + 1)) k = max (maxZ (yss.take j) k) (atZ (yss.getD j []) k) := by
  unfold maxZ
  rw [List.take_succ_eq_append_getElem h, List.foldl_append]
  simp [List.getElem?_eq_getElem h]
set_option maxHeartbeats 1000000 in
theorem vecMax1 (bx : Nat) (vs : Value) (yss : List (List Int)) (k : Int) (w : World) (h : RdVs w vs yss) (hbx : w.cell? ⟨bx, 0, none⟩ = some vs) :
    Calls Try.prog 84 #[.int .i64 k, .pointer (some ⟨bx, 0, none⟩)] w fun e w' => e = .returned (.int .i64 (maxZ yss k)) ∧ Drw w w' := by
  obtain ⟨a, c, rfl, h1, h2, h3⟩ := h
  unfold maxLen at h2
  have HE := Lib.hid h3; clear h3
  go_enter Try.func84, Try.ntmps84
  go_wp2
  go_loop [4, 9] (fun n i => ∃ j : Nat, j ≤ yss.length ∧ i = .int .i64 j ∧ n = .int .i64 (maxZ (yss.take j) k)) (fun _ i => yss.length - (intOf i).toNat)
  case atStart => exact ⟨0, Nat.zero_le _, rfl, rfl⟩
  case round =>
    obtain ⟨j, hj, rfl, rfl⟩ := hrel
    by_cases hlt : j < yss.length
    · rcases HE.out with rfl | ⟨b, o, rfl, hE⟩
      · exact absurd hlt (by simp)
      obtain ⟨u, hu, hr⟩ := hE j hlt
      have HS := Lib.hid (maxZ_snoc yss k j hlt)
      clear hE HE
      generalize hys : yss.getD j [] = ys at *
      have HY := Lib.hid hys; clear hys
      have KR := vecAt u ys k w hr
      go_wp2_with (go_at_call 33; refine KR.mono ?_; rintro e w' ⟨rfl, rfl⟩)
      all_goals
        go_round
        case rel => exact ⟨j + 1, by omega, by go_num, by rw [HS.out]; go_num⟩
        case measure => simp [intOf]; omega
    · obtain rfl : j = yss.length := by omega
      go_wp2
      go_ret
      exact ⟨ret_i (by first | rfl | rw [List.take_length]), 0, rfl⟩

/-- How many numbers a normal form has; the normal form. -/
def nzc (g : Nat → Int) : Nat → Nat | 0 => 0 | k + 1 => if g k = 0 then nzc g k else k + 1
def row (g : Nat → Int) (k : Nat) : List Int := (List.range k).map g
def nrm (g : Nat → Int) : List Int := (row g 64).take (nzc g 64)
theorem nzc_le (g : Nat → Int) : ∀ k, nzc g k ≤ k
  | 0 => Nat.le_refl _
  | k + 1 => by unfold nzc; split; exact Nat.le_succ_of_le (nzc_le g k); exact Nat.le_refl _
theorem row_succ (g : Nat → Int) (k : Nat) : row g (k + 1) = row g k ++ [g k] := by simp [row, List.range_succ]
theorem row_len (g : Nat → Int) (k : Nat) : (row g k).length = k := by simp [row]
theorem row_congr {g h : Nat → Int} (k : Nat) (e : ∀ i, i < k → g i = h i) : row g k = row h k := by
  unfold row; exact List.map_congr_left (fun i hi => e i (List.mem_range.1 hi))
theorem nzc_congr {g h : Nat → Int} : ∀ k, (∀ i, i < k → g i = h i) → nzc g k = nzc h k
  | 0, _ => rfl
  | k + 1, e => by unfold nzc; rw [e k (Nat.lt_succ_self k), nzc_congr k (fun i hi => e i (Nat.lt_succ_of_lt hi))]
theorem nrm_congr {g h : Nat → Int} (e : ∀ i, i < 64 → g i = h i) : nrm g = nrm h := by unfold nrm; rw [row_congr 64 e, nzc_congr 64 e]
def MadePost (g : Nat → Int) (w : World) (e : Ending) (w' : World) : Prop := ∃ v, e = .returned v ∧ Rdv i64v w' v (nrm g) ∧ Below w.heap.size w w'
/-- v[:n:n] of an own row. -/
theorem made_cut {w : World} {B : Nat} {v : Value} {g : Nat → Int} (h : w.ownsRow B 2 1 v 64 ((row g 64).map i64v)) : ∃ b c, v = .slice (some ⟨b, 0, none⟩) 64 c ∧ 64 ≤ c ∧ c ≤ maxLen ∧ Rdv i64v w (.slice (some ⟨b, 0, none⟩) (nzc g 64) (nzc g 64)) (nrm g) := by
  have hr := Rdv.of_owns (xs := row g 64) h
  obtain ⟨h1, h2⟩ := h
  rcases h2 with ⟨_, h0⟩ | ⟨b, cap, cur, rfl, hg, hh, hn, hc, hs, ht⟩
  · exact absurd h0 (by omega)
  refine ⟨b, cap, rfl, hn, hc, ?_⟩
  obtain ⟨a, c, e, h1', h2', h3⟩ := hr
  have hl : (nrm g).length = nzc g 64 := by have := nzc_le g 64; simp [nrm, row_len]; omega
  refine ⟨_, _, by rw [hl], by omega, by unfold maxLen at *; have := nzc_le g 64; omega, ?_⟩
  rcases h3 with h3 | ⟨b', o, rfl, h3⟩
  · have := row_len g 64; rw [h3] at this; simp at this
  · rw [Value.slice.injEq] at e
    obtain ⟨e1, _, _⟩ := e
    simp at e1
    obtain ⟨rfl, rfl⟩ := e1
    refine .inr ⟨b, 0, rfl, fun i hi => ?_⟩
    have hi' : i < nzc g 64 := by omega
    have := nzc_le g 64
    rw [h3 i (by rw [row_len]; omega)]
    simp [nrm, List.getD_eq_getElem?_getD, List.getElem?_take_of_lt hi']
theorem Try.info2 : (Try.prog.info? 2).map (fun i => (i.zero, i.size, i.bytes)) = some (some (.int .i64 0), 1, 8) := by kernel_rfl
set_option maxHeartbeats 1000000 in
set_option maxRecDepth 100000 in
theorem made_num (g : Nat → Int) (v : Value) (w : World) (HF : ∀ k : Nat, k < 64 → ∀ w1, Below w.heap.size w w1 → Calls Try.prog 87 #[v, .int .i64 k] w1 fun e w2 => e = .returned (.int .i64 (g k)) ∧ Drw w1 w2) :
    Calls Try.prog 83 #[.func (.func 87) #[v] #[]] w (MadePost g w) := by
  obtain ⟨i0, hi, hz0, hz1, hz2⟩ := info_parts Try.info2
  have KF := Lib.hid HF; clear HF
  go_enter Try.func83, Try.ntmps83
  go_wp2
  go_loopw [3, 4, 7] (fun v n i wr => ∃ k : Nat, k ≤ 64 ∧ i = .int .i64 k ∧ n = .int .i64 (nzc g k : Nat) ∧ wr.ownsRow w.heap.size 2 1 v k ((row g k).map i64v) ∧ Below w.heap.size w wr) (fun _ _ i _ => 64 - (intOf i).toNat)
  case atStart => exact ⟨0, by omega, rfl, rfl, World.ownsRow_nil _ _ _ _, Below.refl _ _⟩
  case round =>
    obtain ⟨k, hk, rfl, rfl, hown, hb⟩ := hrel
    by_cases hlt : k < 64
    · go_wp2_with fail
      refine (KF.out k hlt _ hb).mono ?_
      rintro e w2 ⟨rfl, n2, rfl⟩
      have hrs := Lib.hid (row_succ g k)
      have hnz : Hid (nzc g (k + 1) = if g k = 0 then nzc g k else k + 1) := rfl
      by_cases h0 : g k = 0
      · have hb0 : (g k == 0) = true := by simpa using h0
        have hb1 : (g k != 0) = false := by simpa using h0
        have H0 := Lib.hid h0; clear h0
        go_wp2_with (at_builtin; refine wpList_append_own _ rfl _ _ 32 rfl w.heap.size 2 i0 (.int .i64 0) 1 8 Try.underlying32 hi hz0 hz1 hz2 rfl (by decide) _ _ _ rfl ((ownsRow_drewN hown n2).alloc _) ⟨wr.heap.size, 0, none⟩ 1 1 [.int .i64 (g k)] rfl rfl ?c1 ?c2 ?c3 ?c4 ?c5 ?_)
        case c1 => exact cell_one_new _ _ _
        case c2 => intro u hu; simp at hu; subst hu; rfl
        case c3 => unfold maxLen; omega
        case c4 => omega
        case c5 => have := hb.size; simp; omega
        intro v' w1 hown1 hgrow1 _
        have hb1 : Below w.heap.size w w1 := ((hb.trans ((Drw.below ⟨n2, rfl⟩).mono hb.size)).alloc (by have := hb.size; simp; omega) _).grown hgrow1 (by have := hb.size; simp; omega) (fun q hq => (hown.lt q hq).1)
        have HB1 := Lib.hid hb1
        have HO1 := Lib.hid hown1
        clear hb1 hown1 hgrow1
        go_wp2
        go_roundw
        case rel => exact ⟨k + 1, by omega, by go_num, by first | rw [hnz.out, if_pos H0.out] | rw [hnz.out, if_neg H0.out]; go_num, by rw [hrs.out, List.map_append]; exact HO1.out, HB1.out⟩
        case measure => simp [intOf]; omega
      · have hb0 : (g k == 0) = false := by simpa using h0
        have hb1 : (g k != 0) = true := by simpa using h0
        have H0 := Lib.hid h0; clear h0
        go_wp2_with (at_builtin; refine wpList_append_own _ rfl _ _ 32 rfl w.heap.size 2 i0 (.int .i64 0) 1 8 Try.underlying32 hi hz0 hz1 hz2 rfl (by decide) _ _ _ rfl ((ownsRow_drewN hown n2).alloc _) ⟨wr.heap.size, 0, none⟩ 1 1 [.int .i64 (g k)] rfl rfl ?c1 ?c2 ?c3 ?c4 ?c5 ?_)
        case c1 => exact cell_one_new _ _ _
        case c2 => intro u hu; simp at hu; subst hu; rfl
        case c3 => unfold maxLen; omega
        case c4 => omega
        case c5 => have := hb.size; simp; omega
        intro v' w1 hown1 hgrow1 _
        have hb1 : Below w.heap.size w w1 := ((hb.trans ((Drw.below ⟨n2, rfl⟩).mono hb.size)).alloc (by have := hb.size; simp; omega) _).grown hgrow1 (by have := hb.size; simp; omega) (fun q hq => (hown.lt q hq).1)
        have HB1 := Lib.hid hb1
        have HO1 := Lib.hid hown1
        clear hb1 hown1 hgrow1
        go_wp2
        go_roundw
        case rel => exact ⟨k + 1, by omega, by go_num, by first | rw [hnz.out, if_pos H0.out] | rw [hnz.out, if_neg H0.out]; go_num, by rw [hrs.out, List.map_append]; exact HO1.out, HB1.out⟩
        case measure => simp [intOf]; omega
    · obtain rfl : k = 64 := by omega
      obtain ⟨b, c, rfl, hc1, hc2, hr⟩ := made_cut hown
      have hn := nzc_le g 64
      unfold maxLen at hc2
      go_wp2
      go_ret
      exact ⟨_, rfl, hr, hb⟩
set_option maxHeartbeats 1000000 in
set_option maxRecDepth 100000 in
theorem made_max (g : Nat → Int) (b : Nat) (w : World) (HF : ∀ k : Nat, k < 64 → ∀ w1, Below w.heap.size w w1 → Calls Try.prog 84 #[.int .i64 k, .pointer (some ⟨b, 0, none⟩)] w1 fun e w2 => e = .returned (.int .i64 (g k)) ∧ Drw w1 w2) :
    Calls Try.prog 83 #[.func (.func 84) #[] #[.pointer (some ⟨b, 0, none⟩)]] w (MadePost g w) := by
  obtain ⟨i0, hi, hz0, hz1, hz2⟩ := info_parts Try.info2
  have KF := Lib.hid HF; clear HF
  go_enter Try.func83, Try.ntmps83
  go_wp2
  go_loopw [3, 4, 7] (fun v n i wr => ∃ k : Nat, k ≤ 64 ∧ i = .int .i64 k ∧ n = .int .i64 (nzc g k : Nat) ∧ wr.ownsRow w.heap.size 2 1 v k ((row g k).map i64v) ∧ Below w.heap.size w wr) (fun _ _ i _ => 64 - (intOf i).toNat)
  case atStart => exact ⟨0, by omega, rfl, rfl, World.ownsRow_nil _ _ _ _, Below.refl _ _⟩
  case round =>
    obtain ⟨k, hk, rfl, rfl, hown, hb⟩ := hrel
    by_cases hlt : k < 64
    · go_wp2_with fail
      refine (KF.out k hlt _ hb).mono ?_
      rintro e w2 ⟨rfl, n2, rfl⟩
      have hrs := Lib.hid (row_succ g k)
      have hnz : Hid (nzc g (k + 1) = if g k = 0 then nzc g k else k + 1) := rfl
      by_cases h0 : g k = 0
      · have hb0 : (g k == 0) = true := by simpa using h0
        have hb1 : (g k != 0) = false := by simpa using h0
        have H0 := Lib.hid h0; clear h0
        go_wp2_with (at_builtin; refine wpList_append_own _ rfl _ _ 32 rfl w.heap.size 2 i0 (.int .i64 0) 1 8 Try.underlying32 hi hz0 hz1 hz2 rfl (by decide) _ _ _ rfl ((ownsRow_drewN hown n2).alloc _) ⟨wr.heap.size, 0, none⟩ 1 1 [.int .i64 (g k)] rfl rfl ?c1 ?c2 ?c3 ?c4 ?c5 ?_)
        case c1 => exact cell_one_new _ _ _
        case c2 => intro u hu; simp at hu; subst hu; rfl
        case c3 => unfold maxLen; omega
        case c4 => omega
        case c5 => have := hb.size; simp; omega
        intro v' w1 hown1 hgrow1 _
        have hb1 : Below w.heap.size w w1 := ((hb.trans ((Drw.below ⟨n2, rfl⟩).mono hb.size)).alloc (by have := hb.size; simp; omega) _).grown hgrow1 (by have := hb.size; simp; omega) (fun q hq => (hown.lt q hq).1)
        have HB1 := Lib.hid hb1
        have HO1 := Lib.hid hown1
        clear hb1 hown1 hgrow1
        go_wp2
        go_roundw
        case rel => exact ⟨k + 1, by omega, by go_num, by first | rw [hnz.out, if_pos H0.out] | rw [hnz.out, if_neg H0.out]; go_num, by rw [hrs.out, List.map_append]; exact HO1.out, HB1.out⟩
        case measure => simp [intOf]; omega
      · have hb0 : (g k == 0) = false := by simpa using h0
        have hb1 : (g k != 0) = true := by simpa using h0
        have H0 := Lib.hid h0; clear h0
        go_wp2_with (at_builtin; refine wpList_append_own _ rfl _ _ 32 rfl w.heap.size 2 i0 (.int .i64 0) 1 8 Try.underlying32 hi hz0 hz1 hz2 rfl (by decide) _ _ _ rfl ((ownsRow_drewN hown n2).alloc _) ⟨wr.heap.size, 0, none⟩ 1 1 [.int .i64 (g k)] rfl rfl ?c1 ?c2 ?c3 ?c4 ?c5 ?_)
        case c1 => exact cell_one_new _ _ _
        case c2 => intro u hu; simp at hu; subst hu; rfl
        case c3 => unfold maxLen; omega
        case c4 => omega
        case c5 => have := hb.size; simp; omega
        intro v' w1 hown1 hgrow1 _
        have hb1 : Below w.heap.size w w1 := ((hb.trans ((Drw.below ⟨n2, rfl⟩).mono hb.size)).alloc (by have := hb.size; simp; omega) _).grown hgrow1 (by have := hb.size; simp; omega) (fun q hq => (hown.lt q hq).1)
        have HB1 := Lib.hid hb1
        have HO1 := Lib.hid hown1
        clear hb1 hown1 hgrow1
        go_wp2
        go_roundw
        case rel => exact ⟨k + 1, by omega, by go_num, by first | rw [hnz.out, if_pos H0.out] | rw [hnz.out, if_neg H0.out]; go_num, by rw [hrs.out, List.map_append]; exact HO1.out, HB1.out⟩
        case measure => simp [intOf]; omega
    · obtain rfl : k = 64 := by omega
      obtain ⟨b, c, rfl, hc1, hc2, hr⟩ := made_cut hown
      have hn := nzc_le g 64
      unfold maxLen at hc2
      go_wp2
      go_ret
      exact ⟨_, rfl, hr, hb⟩
set_option maxHeartbeats 1000000 in
set_option maxRecDepth 100000 in
theorem made_min (g : Nat → Int) (b c : Nat) (w : World) (HF : ∀ k : Nat, k < 64 → ∀ w1, Below w.heap.size w w1 → Calls Try.prog 85 #[.int .i64 k, .pointer (some ⟨b, 0, none⟩), .pointer (some ⟨c, 0, none⟩)] w1 fun e w2 => e = .returned (.int .i64 (g k)) ∧ Drw w1 w2) :
    Calls Try.prog 83 #[.func (.func 85) #[] #[.pointer (some ⟨b, 0, none⟩), .pointer (some ⟨c, 0, none⟩)]] w (MadePost g w) := by
  obtain ⟨i0, hi, hz0, hz1, hz2⟩ := info_parts Try.info2
  have KF := Lib.hid HF; clear HF
  go_enter Try.func83, Try.ntmps83
  go_wp2
  go_loopw [3, 4, 7] (fun v n i wr => ∃ k : Nat, k ≤ 64 ∧ i = .int .i64 k ∧ n = .int .i64 (nzc g k : Nat) ∧ wr.ownsRow w.heap.size 2 1 v k ((row g k).map i64v) ∧ Below w.heap.size w wr) (fun _ _ i _ => 64 - (intOf i).toNat)
  case atStart => exact ⟨0, by omega, rfl, rfl, World.ownsRow_nil _ _ _ _, Below.refl _ _⟩
  case round =>
    obtain ⟨k, hk, rfl, rfl, hown, hb⟩ := hrel
    by_cases hlt : k < 64
    · go_wp2_with fail
      refine (KF.out k hlt _ hb).mono ?_
      rintro e w2 ⟨rfl, n2, rfl⟩
      have hrs := Lib.hid (row_succ g k)
      have hnz : Hid (nzc g (k + 1) = if g k = 0 then nzc g k else k + 1) := rfl
      by_cases h0 : g k = 0
      · have hb0 : (g k == 0) = true := by simpa using h0
        have hb1 : (g k != 0) = false := by simpa using h0
        have H0 := Lib.hid h0; clear h0
        go_wp2_with (at_builtin; refine wpList_append_own _ rfl _ _ 32 rfl w.heap.size 2 i0 (.int .i64 0) 1 8 Try.underlying32 hi hz0 hz1 hz2 rfl (by decide) _ _ _ rfl ((ownsRow_drewN hown n2).alloc _) ⟨wr.heap.size, 0, none⟩ 1 1 [.int .i64 (g k)] rfl rfl ?c1 ?c2 ?c3 ?c4 ?c5 ?_)
        case c1 => exact cell_one_new _ _ _
        case c2 => intro u hu; simp at hu; subst hu; rfl
        case c3 => unfold maxLen; omega
        case c4 => omega
        case c5 => have := hb.size; simp; omega
        intro v' w1 hown1 hgrow1 _
        have hb1 : Below w.heap.size w w1 := ((hb.trans ((Drw.below ⟨n2, rfl⟩).mono hb.size)).alloc (by have := hb.size; simp; omega) _).grown hgrow1 (by have := hb.size; simp; omega) (fun q hq => (hown.lt q hq).1)
        have HB1 := Lib.hid hb1
        have HO1 := Lib.hid hown1
        clear hb1 hown1 hgrow1
        go_wp2
        go_roundw
        case rel => exact ⟨k + 1, by omega, by go_num, by first | rw [hnz.out, if_pos H0.out] | rw [hnz.out, if_neg H0.out]; go_num, by rw [hrs.out, List.map_append]; exact HO1.out, HB1.out⟩
        case measure => simp [intOf]; omega
      · have hb0 : (g k == 0) = false := by simpa using h0
        have hb1 : (g k != 0) = true := by simpa using h0
        have H0 := Lib.hid h0; clear h0
        go_wp2_with (at_builtin; refine wpList_append_own _ rfl _ _ 32 rfl w.heap.size 2 i0 (.int .i64 0) 1 8 Try.underlying32 hi hz0 hz1 hz2 rfl (by decide) _ _ _ rfl ((ownsRow_drewN hown n2).alloc _) ⟨wr.heap.size, 0, none⟩ 1 1 [.int .i64 (g k)] rfl rfl ?c1 ?c2 ?c3 ?c4 ?c5 ?_)
        case c1 => exact cell_one_new _ _ _
        case c2 => intro u hu; simp at hu; subst hu; rfl
        case c3 => unfold maxLen; omega
        case c4 => omega
        case c5 => have := hb.size; simp; omega
        intro v' w1 hown1 hgrow1 _
        have hb1 : Below w.heap.size w w1 := ((hb.trans ((Drw.below ⟨n2, rfl⟩).mono hb.size)).alloc (by have := hb.size; simp; omega) _).grown hgrow1 (by have := hb.size; simp; omega) (fun q hq => (hown.lt q hq).1)
        have HB1 := Lib.hid hb1
        have HO1 := Lib.hid hown1
        clear hb1 hown1 hgrow1
        go_wp2
        go_roundw
        case rel => exact ⟨k + 1, by omega, by go_num, by first | rw [hnz.out, if_pos H0.out] | rw [hnz.out, if_neg H0.out]; go_num, by rw [hrs.out, List.map_append]; exact HO1.out, HB1.out⟩
        case measure => simp [intOf]; omega
    · obtain rfl : k = 64 := by omega
      obtain ⟨b, c, rfl, hc1, hc2, hr⟩ := made_cut hown
      have hn := nzc_le g 64
      unfold maxLen at hc2
      go_wp2
      go_ret
      exact ⟨_, rfl, hr, hb⟩
set_option maxHeartbeats 1000000 in
set_option maxRecDepth 100000 in
theorem made_with (g : Nat → Int) (b c d : Nat) (w : World) (HF : ∀ k : Nat, k < 64 → ∀ w1, Below w.heap.size w w1 → Calls Try.prog 88 #[.int .i64 k, .pointer (some ⟨b, 0, none⟩), .pointer (some ⟨c, 0, none⟩), .pointer (some ⟨d, 0, none⟩)] w1 fun e w2 => e = .returned (.int .i64 (g k)) ∧ Drw w1 w2) :
    Calls Try.prog 83 #[.func (.func 88) #[] #[.pointer (some ⟨b, 0, none⟩), .pointer (some ⟨c, 0, none⟩), .pointer (some ⟨d, 0, none⟩)]] w (MadePost g w) := by
  obtain ⟨i0, hi, hz0, hz1, hz2⟩ := info_parts Try.info2
  have KF := Lib.hid HF; clear HF
  go_enter Try.func83, Try.ntmps83
  go_wp2
  go_loopw [3, 4, 7] (fun v n i wr => ∃ k : Nat, k ≤ 64 ∧ i = .int .i64 k ∧ n = .int .i64 (nzc g k : Nat) ∧ wr.ownsRow w.heap.size 2 1 v k ((row g k).map i64v) ∧ Below w.heap.size w wr) (fun _ _ i _ => 64 - (intOf i).toNat)
  case atStart => exact ⟨0, by omega, rfl, rfl, World.ownsRow_nil _ _ _ _, Below.refl _ _⟩
  case round =>
    obtain ⟨k, hk, rfl, rfl, hown, hb⟩ := hrel
    by_cases hlt : k < 64
    · go_wp2_with fail
      refine (KF.out k hlt _ hb).mono ?_
      rintro e w2 ⟨rfl, n2, rfl⟩
      have hrs := Lib.hid (row_succ g k)
      have hnz : Hid (nzc g (k + 1) = if g k = 0 then nzc g k else k + 1) := rfl
      by_cases h0 : g k = 0
      · have hb0 : (g k == 0) = true := by simpa using h0
        have hb1 : (g k != 0) = false := by simpa using h0
        have H0 := Lib.hid h0; clear h0
        go_wp2_with (at_builtin; refine wpList_append_own _ rfl _ _ 32 rfl w.heap.size 2 i0 (.int .i64 0) 1 8 Try.underlying32 hi hz0 hz1 hz2 rfl (by decide) _ _ _ rfl ((ownsRow_drewN hown n2).alloc _) ⟨wr.heap.size, 0, none⟩ 1 1 [.int .i64 (g k)] rfl rfl ?c1 ?c2 ?c3 ?c4 ?c5 ?_)
        case c1 => exact cell_one_new _ _ _
        case c2 => intro u hu; simp at hu; subst hu; rfl
        case c3 => unfold maxLen; omega
        case c4 => omega
        case c5 => have := hb.size; simp; omega
        intro v' w1 hown1 hgrow1 _
        have hb1 : Below w.heap.size w w1 := ((hb.trans ((Drw.below ⟨n2, rfl⟩).mono hb.size)).alloc (by have := hb.size; simp; omega) _).grown hgrow1 (by have := hb.size; simp; omega) (fun q hq => (hown.lt q hq).1)
        have HB1 := Lib.hid hb1
        have HO1 := Lib.hid hown1
        clear hb1 hown1 hgrow1
        go_wp2
        go_roundw
        case rel => exact ⟨k + 1, by omega, by go_num, by first | rw [hnz.out, if_pos H0.out] | rw [hnz.out, if_neg H0.out]; go_num, by rw [hrs.out, List.map_append]; exact HO1.out, HB1.out⟩
        case measure => simp [intOf]; omega
      · have hb0 : (g k == 0) = false := by simpa using h0
        have hb1 : (g k != 0) = true := by simpa using h0
        have H0 := Lib.hid h0; clear h0
        go_wp2_with (at_builtin; refine wpList_append_own _ rfl _ _ 32 rfl w.heap.size 2 i0 (.int .i64 0) 1 8 Try.underlying32 hi hz0 hz1 hz2 rfl (by decide) _ _ _ rfl ((ownsRow_drewN hown n2).alloc _) ⟨wr.heap.size, 0, none⟩ 1 1 [.int .i64 (g k)] rfl rfl ?c1 ?c2 ?c3 ?c4 ?c5 ?_)
        case c1 => exact cell_one_new _ _ _
        case c2 => intro u hu; simp at hu; subst hu; rfl
        case c3 => unfold maxLen; omega
        case c4 => omega
        case c5 => have := hb.size; simp; omega
        intro v' w1 hown1 hgrow1 _
        have hb1 : Below w.heap.size w w1 := ((hb.trans ((Drw.below ⟨n2, rfl⟩).mono hb.size)).alloc (by have := hb.size; simp; omega) _).grown hgrow1 (by have := hb.size; simp; omega) (fun q hq => (hown.lt q hq).1)
        have HB1 := Lib.hid hb1
        have HO1 := Lib.hid hown1
        clear hb1 hown1 hgrow1
        go_wp2
        go_roundw
        case rel => exact ⟨k + 1, by omega, by go_num, by first | rw [hnz.out, if_pos H0.out] | rw [hnz.out, if_neg H0.out]; go_num, by rw [hrs.out, List.map_append]; exact HO1.out, HB1.out⟩
        case measure => simp [intOf]; omega
    · obtain rfl : k = 64 := by omega
      obtain ⟨b, c, rfl, hc1, hc2, hr⟩ := made_cut hown
      have hn := nzc_le g 64
      unfold maxLen at hc2
      go_wp2
      go_ret
      exact ⟨_, rfl, hr, hb⟩
end Go.Proofs.Ytgpfkdlnmifiiaa

/- lagoonref3's writers: IDs, vectors. -/
import Derived.Test.YthbalmoafpggdaaChecked
import Derived.WalkKit
import Derived.Outline
import Derived.WalkSpells
import Derived.WalkLawsBesides
import Derived.Deep.QuietTactic
import Derived.Deep.RegionWith
import Derived.Deep.DeepMust
import Derived.BigQuiet
import Derived.Test.YthbalmoafpggdaaMem
import Derived.RegionTactic
import Derived.ChangeAlike
import Derived.StillTailTactics
import Derived.Deep.LoopGhost
import Derived.Test.YthbalmoafpggdaaWf
namespace Go.Proofs.Ythbalmoafpggdaa
open Go.RowKit
set_option linter.unusedVariables false
set_option linter.unusedSimpArgs false
theorem fd_under2 {w w' w2 : World} {B : Nat} (h : Below w.heap.size w w') (hB : w.heap.size ≤ B) (k : Below B w' w2) : Below w.heap.size w w2 := h.trans (k.mono hB)
set_option maxHeartbeats 2000000 in
set_option maxRecDepth 100000 in
theorem refID (t n : Int) (w : World) : Calls Try.prog 77 #[.agg #[.int .i64 t, .int .i64 n]] w (RefPost (idW t n) w) := by
  cases hq : idOk t n
  · have HI : Hid (idW t n = none) := Lib.hid (by unfold idW; rw [hq]; rfl)
    have hc : t < 0 ∨ (0 ≤ t ∧ 1152921504606846976 < t) ∨ (0 ≤ t ∧ t ≤ 1152921504606846976 ∧ n < 0) ∨ (0 ≤ t ∧ t ≤ 1152921504606846976 ∧ 0 ≤ n ∧ 64 ≤ n) := by
      unfold idOk at hq
      by_cases h0 : 0 ≤ t
      · by_cases h1 : t ≤ 1152921504606846976
        · by_cases h2 : 0 ≤ n
          · by_cases h3 : n < 64
            · simp [h0, h1, h2, h3] at hq
            · omega
          · omega
        · omega
      · omega
    clear hq
    rcases hc with h0 | ⟨h0, h1⟩ | ⟨h0, h1, h2⟩ | ⟨h0, h1, h2, h3⟩
    all_goals
      go_enter Try.func77, Try.ntmps77
      go_wp2
      go_ret2
      rw [HI.out]
      exact ⟨_, rfl, World.ownsRow_nil _ _ _ _, (Below.refl _ _).alloc (Nat.le_refl _) _⟩
  · have HI : Hid (idW t n = some (numL t.toNat ++ numL n.toNat)) := Lib.hid (by unfold idW; rw [hq]; rfl)
    unfold idOk at hq
    simp only [Bool.and_eq_true, decide_eq_true_eq] at hq
    obtain ⟨⟨⟨h0, h1⟩, h2⟩, h3⟩ := hq
    obtain ⟨t', rfl⟩ := Int.eq_ofNat_of_zero_le h0
    obtain ⟨n', rfl⟩ := Int.eq_ofNat_of_zero_le h2
    obtain ⟨i0, hi, hz0, hz1, hz2⟩ := info_parts Try.info5
    have h4 : (n' : Int) < 64 := h3
    have hn9 := numL_len n'
    have ht9 := numL_len t'
    obtain ⟨L, hL⟩ : ∃ L, L = numL t' := ⟨_, rfl⟩
    obtain ⟨M, hM⟩ : ∃ M, M = numL n' := ⟨_, rfl⟩
    have KT : Hid (∀ w, Calls Try.prog 72 #[.int .i64 t'] w (RefPost (some L) w)) := Lib.hid fun w => hL ▸ refNumGood t' w (by omega)
    have KN : Hid (∀ w, Calls Try.prog 72 #[.int .i64 n'] w (RefPost (some M) w)) := Lib.hid fun w => hM ▸ refNumGood n' w (by omega)
    rw [← hL] at ht9
    rw [← hM] at hn9
    have HI2 : Hid (idW t' n' = some (L ++ M)) := Lib.hid (by rw [HI.out, hL, hM]; rfl)
    clear hL hM HI
    go_enter Try.func77, Try.ntmps77
    go_wp2_with fail
    refine (KT.out _).mono ?_
    rintro e w1 ⟨v1, rfl, o1, b1⟩
    simp only [Option.getD_some] at o1
    have HA : Below w.heap.size w (w.alloc (.cells #[.int .i64 t', .int .i64 n'] 45)) := (Below.refl _ _).alloc (Nat.le_refl _) _
    have B1 := Lib.hid (fd_under2 HA HA.size b1)
    have X := (Blk.new w #[.int .i64 t', .int .i64 n'] 45)
    have X1 := blkBelow b1 X X.lt
    have x1 := X1.cell (o := 1) rfl
    have hz := X1.lt
    have O1 := Lib.hid (ownsRow_base o1 (by simp : w.heap.size ≤ _))
    clear HA X b1 o1 X1
    obtain ⟨va, vc, rfl, hv1, hv2, _⟩ := own_shape O1.out
    go_wp2_with fail
    refine (KN.out _).mono ?_
    rintro e w2 ⟨v2, rfl, o2, b2⟩
    simp only [Option.getD_some] at o2
    have hb1 := B1.out.size
    have B2 := Lib.hid (fd_under2 B1.out hb1 b2)
    have o12 := ownsRow_below O1.out b2
    have r2 := Rdv.of_owns (enc := u8v) (xs := M) o2
    have hb2 := B2.out.size
    obtain ⟨va2, vc2, rfl, hu1, hu2, _⟩ := own_shape o2
    clear o2 b2
    go_wp2_with (at_builtin; refine wpList_append_rd rfl _ _ 24 rfl w.heap.size 5 i0 (.int .u8 0) 1 Try.underlying24 hi hz0 hz1 hz2 rfl _ _ _ rfl o12 (.slice va2 M.length vc2) u8v M rfl r2 (fun _ => rfl) ?c1 ?c2 ?c3 ?_)
    case c1 => unfold maxLen; omega
    case c2 => omega
    case c3 => omega
    intro v3 w3 o3 g3 b3
    have HB3 := Lib.hid (Below.grown B2.out g3 hb2 (fun k hk => own_ge o12 hk))
    obtain ⟨v3a, v3c, rfl, _⟩ := own_shape o3
    have O3 := Lib.hid o3
    clear o3 g3 b3 o12 r2
    go_wp2
    go_ret2
    rw [HI2.out]
    exact ⟨_, rfl, own_cast O3.out (by simp) (by simp), HB3.out⟩
theorem cutTo_zero (v : List Int) : ∀ n k, cutTo v n ≤ k → k < n → v.getD k 0 = 0
  | 0, _, _, h => by omega
  | n + 1, k, h, hk => by
    by_cases hz : v.getD n 0 = 0
    · rw [cutTo_down v n hz] at h
      rcases Nat.lt_or_ge k n with h1 | h1
      · exact cutTo_zero v n k h h1
      · obtain rfl : k = n := by omega
        exact hz
    · rw [cutTo_stop v n hz] at h; omega
theorem cutL_getD (v : List Int) (k : Nat) : (cutL v).getD k 0 = v.getD k 0 := by
  have hl := cutL_len v
  rcases Nat.lt_or_ge k (cutTo v v.length) with h | h
  · unfold cutL
    simp [List.getD_eq_getElem?_getD, h]
  · rw [List.getD_eq_getElem?_getD, List.getElem?_eq_none (by omega)]
    rcases Nat.lt_or_ge k v.length with h1 | h1
    · exact (cutTo_zero v _ k h h1).symm
    · simp [List.getD_eq_getElem?_getD, List.getElem?_eq_none h1]
theorem atZ_cut (xs : List Int) (k : Nat) : atZ (cutL xs) k = atZ xs k := by
  have hl := cutL_len xs
  have hle := cutTo_le xs xs.length
  have hg := cutL_getD xs k
  unfold atZ
  rw [Int.toNat_natCast, hg]
  rcases Nat.lt_or_ge k (cutL xs).length with h | h
  · have h2 : k < xs.length := by omega
    by_cases h64 : (64 : Int) ≤ k
    · rw [if_pos (show (k : Int) < 0 ∨ ((cutL xs).length : Int) ≤ k ∨ 64 ≤ (k : Int) by omega), if_pos (show (k : Int) < 0 ∨ (xs.length : Int) ≤ k ∨ 64 ≤ (k : Int) by omega)]
    · rw [if_neg (show ¬ ((k : Int) < 0 ∨ ((cutL xs).length : Int) ≤ k ∨ 64 ≤ (k : Int)) by omega), if_neg (show ¬ ((k : Int) < 0 ∨ (xs.length : Int) ≤ k ∨ 64 ≤ (k : Int)) by omega)]
  · rw [if_pos (by omega)]
    have hz : xs.getD k 0 = 0 := by rw [← hg, List.getD_eq_getElem?_getD, List.getElem?_eq_none h]; rfl
    rw [hz]
    split <;> simp
theorem nrm_of_may (xs : List Int) (hm : vecMayB (cutL xs) = true) (hl : (cutL xs).length ≤ 64) : nrm (fun k => atZ xs k) = cutL xs := by
  rw [← nrm_cut xs hm hl]
  exact nrm_congr fun k _ => (atZ_cut xs k).symm
set_option maxHeartbeats 2000000 in
set_option maxRecDepth 100000 in
theorem refVector (x : Value) (xs : List Int) (w : World) (hx : Rdv i64c w x xs) : Calls Try.prog 78 #[x] w (RefPost (vecW xs) w) := by
  obtain ⟨i0, hi, hz0, hz1, hz2⟩ := info_parts Try.info5
  have KM := refMay x xs w hx
  have KN := Lib.hid (refNorm x xs w hx)
  obtain ⟨xa, xn, xc, rfl⟩ := hx.shape
  cases hq : (vecMayB (cutL xs) && decide ((cutL xs).length ≤ 64))
  · rw [hq] at KM
    have KM := Lib.hid KM
    have HV : Hid (vecW xs = none) := Lib.hid (by
      unfold vecW
      rw [if_neg]
      rintro ⟨h1, h2⟩
      rw [h1, decide_eq_true h2] at hq
      cases hq)
    clear hq hx
    go_enter Try.func78, Try.ntmps78
    go_wp2_with fail
    refine KM.out.mono ?_
    rintro e w1 ⟨rfl, rfl⟩
    go_wp2
    go_ret2
    rw [HV.out]
    exact ⟨_, rfl, World.ownsRow_nil _ _ _ _, Below.refl _ _⟩
  · rw [hq] at KM
    have KM := Lib.hid KM
    rw [Bool.and_eq_true, decide_eq_true_eq] at hq
    have hnc := nrm_of_may xs hq.1 hq.2
    have HV0 : vecW xs = some (numL (cutL xs).length ++ numsL (cutL xs)) := by unfold vecW; rw [if_pos hq]
    obtain ⟨hm, hl⟩ := hq
    rw [hnc] at KN
    generalize cutL xs = ys at *
    have HV := Lib.hid HV0
    have HM := Lib.hid hm
    clear hx hnc HV0 hm
    obtain ⟨L, hL⟩ : ∃ L, L = numL ys.length := ⟨_, rfl⟩
    have ht9 := numL_len ys.length
    have KT : Hid (∀ w, Calls Try.prog 72 #[.int .i64 ys.length] w (RefPost (some L) w)) := Lib.hid fun w => hL ▸ refNumGood ys.length w (by omega)
    rw [← hL] at ht9
    have HL := Lib.hid hL
    clear hL
    go_enter Try.func78, Try.ntmps78
    go_wp2_with fail
    refine KM.out.mono ?_
    rintro e w1 ⟨rfl, rfl⟩
    go_wp2_with fail
    refine KN.out.mono ?_
    rintro e w2 ⟨y, rfl, ry, b2⟩
    obtain ⟨ya, yn, yc, rfl⟩ := ry.shape
    obtain ⟨q1, q2, q3, _⟩ := ry.cap
    subst q1
    unfold maxLen at q3
    have RY := Lib.hid ry
    have B2 := Lib.hid b2
    have hb2 := b2.size
    clear ry b2
    go_wp2_with fail
    refine (KT.out _).mono ?_
    rintro e w3 ⟨v3, rfl, o3, b3⟩
    simp only [Option.getD_some] at o3
    have O3 := Lib.hid o3
    have B3 := Lib.hid b3
    clear o3 b3
    go_wp2_with fail
    go_loopw [5, 7] (fun bv iv wr => ∃ k : Nat, k ≤ ys.length ∧ iv = .int .i64 k ∧ wr.ownsRow w2.heap.size 5 1 bv (L ++ numsL (ys.take k)).length ((L ++ numsL (ys.take k)).map u8v) ∧ Below w2.heap.size w2 wr) (fun _ iv _ => ys.length - (intOf iv).toNat)
    case atStart => exact ⟨0, by omega, rfl, own_cast O3.out (by simp [numsL]) (by simp [numsL]), B3.out⟩
    case round =>
      obtain ⟨k, hk, rfl, hown, hb⟩ := hrel
      have hbs := hb.size
      have HB := Lib.hid hb
      have ry := RY.out.below hb
      by_cases hlt : k < ys.length
      · have hy : Hid (0 ≤ ys.getD k 0 ∧ ys.getD k 0 ≤ 1152921504606846976) := Lib.hid (by
          by_cases hq : 0 ≤ ys.getD k 0 ∧ ys.getD k 0 ≤ 1152921504606846976
          · exact hq
          · have := vecMayB_false ys k hlt hq
            rw [HM.out] at this; cases this)
        obtain ⟨y, hyy⟩ := Int.eq_ofNat_of_zero_le hy.out.1
        have hyb : y ≤ 1152921504606846976 := by have := hy.out.2; omega
        obtain ⟨gb, go', rfl, hk1⟩ := rdv_at ry k hlt
        rw [hyy] at hk1
        have hst : numsL (ys.take (k + 1)) = numsL (ys.take k) ++ numL y := by rw [numsL_snoc ys k hlt, hyy]; rfl
        obtain ⟨M, hM⟩ : ∃ M, M = numL y := ⟨_, rfl⟩
        have hn9 := numL_len y
        have KY : Hid (∀ w, Calls Try.prog 72 #[.int .i64 y] w (RefPost (some M) w)) := Lib.hid fun w => hM ▸ refNumGood y w (by omega)
        rw [← hM] at hst hn9
        have hPl := numsL_len (ys.take k)
        have htl : (ys.take k).length ≤ 64 := by rw [List.length_take]; omega
        obtain ⟨O, hO⟩ : ∃ O, O = L ++ numsL (ys.take k) := ⟨_, rfl⟩
        have hOl : O.length ≤ 700 := by rw [hO, List.length_append]; omega
        have HN : Hid (O ++ M = L ++ numsL (ys.take (k + 1))) := Lib.hid (by rw [hO, hst, List.append_assoc])
        rw [← hO] at hown
        have HOWN := Lib.hid hown
        obtain ⟨va, vc, rfl, hv1, hv2, _⟩ := own_shape hown
        clear hO hst hM hyy hb hown hy ry
        go_wp2_with fail
        refine (KY.out _).mono ?_
        rintro e w4 ⟨v4, rfl, o4, b4⟩
        simp only [Option.getD_some] at o4
        have HB4 := Lib.hid (HB.out.trans (b4.mono hbs))
        have o14 := ownsRow_below HOWN.out b4
        have r4 := Rdv.of_owns (enc := u8v) (xs := M) o4
        have hb4 := HB4.out.size
        obtain ⟨va4, vc4, rfl, hu1, hu2, _⟩ := own_shape o4
        clear o4 b4
        go_wp2_with (at_builtin; refine wpList_append_rd rfl _ _ 24 rfl w2.heap.size 5 i0 (.int .u8 0) 1 Try.underlying24 hi hz0 hz1 hz2 rfl _ _ _ rfl o14 (.slice va4 M.length vc4) u8v M rfl r4 (fun _ => rfl) ?c1 ?c2 ?c3 ?_)
        case c1 => unfold maxLen; omega
        case c2 => omega
        case c3 => omega
        intro v5 w5 o5 g5 b5
        have HB5 := Lib.hid (Below.grown HB4.out g5 hb4 (fun k hk => own_ge o14 hk))
        obtain ⟨v5a, v5c, rfl, _⟩ := own_shape o5
        have O5 := Lib.hid o5
        clear o5 g5 b5 o14 r4
        go_wp2
        go_roundw
        case rel => exact ⟨k + 1, by omega, by go_num, own_cast O5.out (by rw [← HN.out]; simp) (by rw [← HN.out]; simp), HB5.out⟩
        case measure => simp [intOf]; omega
      · obtain rfl : k = ys.length := by omega
        obtain ⟨va, vc, rfl, hv1, hv2, _⟩ := own_shape hown
        have HOWN := Lib.hid hown
        clear hown hb ry
        go_wp2
        go_ret2
        rw [HV.out, ← HL.out]
        refine ⟨_, rfl, own_cast (ownsRow_base HOWN.out hb2) ?_ ?_, B2.out.trans (HB.out.mono hb2)⟩
        · rw [List.take_length]; rfl
        · rw [List.take_length]; rfl
end Go.Proofs.Ythbalmoafpggdaa

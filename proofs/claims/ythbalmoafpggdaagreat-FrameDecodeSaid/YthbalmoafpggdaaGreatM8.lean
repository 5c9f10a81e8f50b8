/- lagoonref3's writers. lagoonref3's writers: IDs, vectors. The law's take: a word, by both readers. The law's take, continued: IDs, vectors. The law's put: a word, by both writers. What the codec wrote is read again: plain laws. Operations: ops.Encode, Cost. -/
import Derived.Test.YthbalmoafpggdaaGreatChecked
import Derived.WalkKit
import Derived.Outline
import Derived.WalkSpells
import Derived.WalkLawsBesides
import Derived.Deep.QuietTactic
import Derived.Deep.RegionWith
import Derived.Deep.DeepMust
import Derived.BigQuiet
import Derived.RegionTactic
import Derived.ChangeAlike
import Derived.StillTailTactics
import Derived.Deep.LoopGhost
import Derived.Test.YthbalmoafpggdaaGreatM1
import Derived.Test.YthbalmoafpggdaaGreatM2
import Derived.Test.YthbalmoafpggdaaGreatM5
import Derived.Test.YthbalmoafpggdaaGreatM7
namespace Go.Proofs.YthbalmoafpggdaaGreat
open Go.RowKit
set_option linter.unusedVariables false
set_option linter.unusedSimpArgs false
theorem own_ge {w : World} {B e s : Nat} {v : Value} {n : Nat} {xs : List Value} (h : w.ownsRow B e s v n xs) {k : Nat} (hk : v.ownBlock = some k) : B ≤ k := by
  rcases h.2 with ⟨rfl, _⟩ | ⟨g, c, cur, rfl, h1, _⟩
  · cases hk
  · injection hk with hk
    have hk : g = k := hk
    omega
theorem own_cast {w : World} {B e s : Nat} {v : Value} {n n' : Nat} {xs xs' : List Value} (h : w.ownsRow B e s v n xs) (hn : n = n') (hx : xs = xs') : w.ownsRow B e s v n' xs' := by subst hn hx; exact h
def RefPost (o : Option (List Int)) (w : World) (e : Ending) (w' : World) : Prop := ∃ v, e = .returned (.tuple #[v, .bool o.isSome]) ∧ w'.ownsRow w.heap.size 5 1 v (o.getD []).length ((o.getD []).map u8v) ∧ Below w.heap.size w w'
theorem refNumBad (n : Int) (w : World) (h : n < 0 ∨ 4611686018427387904 < n) : Calls Tryz.prog 19 #[.int .i64 n] w (RefPost none w) := by
  rcases h with h | h
  · go_enter Tryz.func19, Tryz.ntmps19
    go_wp2
    go_ret2
    exact ⟨_, rfl, World.ownsRow_nil _ _ _ _, Below.refl _ _⟩
  · have h0 : 0 ≤ n := by omega
    go_enter Tryz.func19, Tryz.ntmps19
    go_wp2
    go_ret2
    exact ⟨_, rfl, World.ownsRow_nil _ _ _ _, Below.refl _ _⟩
set_option maxHeartbeats 2000000 in
set_option maxRecDepth 100000 in
theorem refNumGood (n : Nat) (w : World) (hn : n ≤ 4611686018427387904) : Calls Tryz.prog 19 #[.int .i64 n] w (RefPost (some (numL n)) w) := by
  obtain ⟨i0, hi, hz0, hz1, hz2⟩ := info_parts Tryz.info5
  have hn0 : (0 : Int) ≤ n := by omega
  have hn1 : (n : Int) ≤ 4611686018427387904 := by omega
  have hd0 : decide ((n : Int) < 0) = false := decide_eq_false (by omega)
  have hd1 : decide (4611686018427387904 < (n : Int)) = false := decide_eq_false (by omega)
  go_enter Tryz.func19, Tryz.ntmps19
  go_wp2_with fail
  go_loopw [0, 4] (fun nv bv wr => ∃ m k out, nv = .int .i64 (m : Nat) ∧ out ++ numF k m = numL n ∧ m < 128 ^ k ∧ 1 ≤ k ∧ k ≤ 9 ∧ wr.ownsRow w.heap.size 5 1 bv out.length (out.map u8v) ∧ Below w.heap.size w wr) (fun nv _ _ => (intOf nv).toNat)
  case atStart => exact ⟨n, 9, [], rfl, rfl, by omega, by omega, by omega, World.ownsRow_nil _ _ _ _, Below.refl _ _⟩
  case round =>
    obtain ⟨m, k, out, rfl, hout, hmk, h1k, hk9, hown, hb⟩ := hrel
    have hol : out.length ≤ 9 := by have := congrArg List.length hout; have := numL_len n; simp at *; omega
    have hm63 : m < 9223372036854775808 := Nat.lt_of_lt_of_le hmk (Nat.pow_le_pow_right (by omega) hk9)
    obtain ⟨va, vc, rfl, hv1, hv2, _⟩ := own_shape hown
    have HB := Lib.hid hb
    have hbs := hb.size
    by_cases hm : 127 < m
    · obtain ⟨k, rfl⟩ : ∃ j, k = j + 1 := ⟨k - 1, by omega⟩
      have HO : Hid (out ++ (((m % 128 + 128 : Nat) : Int) :: numF k (m / 128)) = numL n) := Lib.hid (by rw [← hout, numF_step k m hm])
      have HK : Hid (m / 128 < 128 ^ k) := Lib.hid (by rw [Nat.div_lt_iff_lt_mul (by omega), ← Nat.pow_succ]; exact hmk)
      clear hout hmk
      go_wp2_with (at_builtin; refine wpList_append_own_at _ rfl _ _ 30 rfl w.heap.size 5 i0 (.int .u8 0) 1 1 Tryz.underlying30 hi hz0 hz1 hz2 rfl (by decide) _ _ _ rfl (hown.alloc _) ⟨wr.heap.size, 0, none⟩ 1 1 [.int .u8 (128 + (m : Int) % 128)] rfl rfl ?c1 ?c2 ?c3 ?c4 ?c5 ?_)
      case c1 => exact cell_one_new _ _ _
      case c2 => intro u hu; simp at hu; subst hu; rfl
      case c3 => unfold maxLen; omega
      case c4 => omega
      case c5 => simp; omega
      intro v2 w2 o2 g2 _ b2
      have HB2 := Lib.hid (Below.grown (Below.alloc HB.out hbs _) g2 (by simp; omega) (fun k hk => own_ge hown hk))
      obtain ⟨v2a, v2c, rfl, _⟩ := own_shape o2
      have O2 := Lib.hid o2
      clear o2 g2 b2 hown hb
      go_wp2
      go_roundw
      case rel => exact ⟨m / 128, k, out ++ [((m % 128 + 128 : Nat) : Int)], by go_num, by simpa using HO.out, HK.out, by rcases Nat.eq_zero_or_pos k with rfl | h; (have := HK.out; simp at this; omega); exact h, by omega, own_cast O2.out (by simp) (by rw [List.map_append]; simp [u8v]; omega), HB2.out⟩
      case measure => simp [intOf]; omega
    · have HO : Hid (out ++ [(m : Int)] = numL n) := Lib.hid (by rw [← hout, numF_small k m (by omega) h1k])
      clear hout hmk
      go_wp2_with (at_builtin; refine wpList_append_own_at _ rfl _ _ 30 rfl w.heap.size 5 i0 (.int .u8 0) 1 1 Tryz.underlying30 hi hz0 hz1 hz2 rfl (by decide) _ _ _ rfl (hown.alloc _) ⟨wr.heap.size, 0, none⟩ 1 1 [.int .u8 (m : Int)] rfl rfl ?c1 ?c2 ?c3 ?c4 ?c5 ?_)
      case c1 => exact cell_one_new _ _ _
      case c2 => intro u hu; simp at hu; subst hu; rfl
      case c3 => unfold maxLen; omega
      case c4 => omega
      case c5 => simp; omega
      intro v2 w2 o2 g2 _ b2
      have HB2 := Lib.hid (Below.grown (Below.alloc HB.out hbs _) g2 (by simp; omega) (fun k hk => own_ge hown hk))
      obtain ⟨v2a, v2c, rfl, _⟩ := own_shape o2
      have O2 := Lib.hid o2
      clear o2 g2 b2 hown hb
      go_wp2
      go_ret2
      exact ⟨_, rfl, own_cast O2.out (by rw [← HO.out]; simp) (by rw [← HO.out]; simp [u8v]), HB2.out⟩
theorem refNum (n : Int) (w : World) : Calls Tryz.prog 19 #[.int .i64 n] w (RefPost (numW n) w) := by
  by_cases hok : 0 ≤ n ∧ n ≤ 4611686018427387904
  · obtain ⟨k, rfl⟩ := Int.eq_ofNat_of_zero_le hok.1
    have e : numW (k : Int) = some (numL k) := by unfold numW; rw [if_pos hok]; rfl
    rw [e]
    exact refNumGood k w (by omega)
  · have e : numW n = none := by unfold numW; rw [if_neg hok]
    rw [e]
    exact refNumBad n w (by omega)
set_option maxHeartbeats 2000000 in
set_option maxRecDepth 100000 in
theorem refBytes (x : Value) (xs : List Int) (w : World) (hx : Rdv u8v w x xs) : Calls Tryz.prog 59 #[x] w (RefPost (bytesW xs) w) := by
  obtain ⟨i0, hi, hz0, hz1, hz2⟩ := info_parts Tryz.info5
  obtain ⟨xa, xn, xc, rfl⟩ := hx.shape
  obtain ⟨rfl, h1, h2, h3⟩ := hx.cap
  unfold maxLen at h2
  by_cases hlen : xs.length ≤ 65536
  · have hle : decide ((65536 : Int) < (xs.length : Int)) = false := decide_eq_false (by omega)
    have HB : Hid (bytesW xs = some (numL xs.length ++ xs)) := Lib.hid (by unfold bytesW; rw [if_pos hlen])
    have HX := Lib.hid hx
    have KN := Lib.hid (refNumGood xs.length w (by omega))
    clear h3 hx
    go_enter Tryz.func59, Tryz.ntmps59
    go_wp2_with fail
    refine KN.out.mono ?_
    rintro e w1 ⟨v1, rfl, o1, b1⟩
    simp only [Option.getD_some] at o1
    have hl9 := numL_len xs.length
    have B1 := Lib.hid b1
    have hx1 := HX.out.below b1
    have hbs := b1.size
    obtain ⟨L, hL⟩ : ∃ L, L = numL xs.length := ⟨_, rfl⟩
    rw [← hL] at o1 hl9
    have HL := Lib.hid hL
    clear hL b1
    obtain ⟨va, vc, rfl, hv1, hv2, _⟩ := own_shape o1
    go_wp2_with (at_builtin; refine wpList_append_rd rfl _ _ 30 rfl w.heap.size 5 i0 (.int .u8 0) 1 Tryz.underlying30 hi hz0 hz1 hz2 rfl _ _ _ rfl o1 (.slice xa xs.length xc) u8v xs rfl hx1 (fun _ => rfl) ?c1 ?c2 ?c3 ?_)
    case c1 => unfold maxLen; omega
    case c2 => omega
    case c3 => omega
    intro v3 w3 o3 g3 b3
    have HB3 := Lib.hid (Below.grown B1.out g3 hbs (fun k hk => own_ge o1 hk))
    obtain ⟨v3a, v3c, rfl, _⟩ := own_shape o3
    have O3 := Lib.hid o3
    clear o3 g3 b3 o1 hx1
    go_wp2
    go_ret2
    rw [HB.out]
    exact ⟨_, rfl, own_cast O3.out (by rw [HL.out]; simp) (by rw [HL.out]; simp), HB3.out⟩
  · have hle : decide ((65536 : Int) < (xs.length : Int)) = true := decide_eq_true (by omega)
    have HB : Hid (bytesW xs = none) := Lib.hid (by unfold bytesW; rw [if_neg hlen])
    clear h3 hx hlen
    go_enter Tryz.func59, Tryz.ntmps59
    go_wp2
    go_ret2
    rw [HB.out]
    exact ⟨_, rfl, World.ownsRow_nil _ _ _ _, Below.refl _ _⟩
theorem refTruth (q : Bool) (w : World) : Calls Tryz.prog 20 #[.bool q] w fun e w' => ∃ v, e = .returned v ∧ w'.ownsRow w.heap.size 5 1 v (truthW q).length ((truthW q).map u8v) ∧ Below w.heap.size w w' := by
  cases q
  all_goals
    go_enter Tryz.func20, Tryz.ntmps20
    go_wp2
    go_ret
    exact ⟨_, rfl, World.ownsRow_lit _ _ 1 (Nat.le_refl _) (by decide) rfl, (Below.refl _ _).alloc (Nat.le_refl _) _⟩
end Go.Proofs.YthbalmoafpggdaaGreat
namespace Go.Proofs.YthbalmoafpggdaaGreat
open Go.RowKit
set_option linter.unusedVariables false
set_option linter.unusedSimpArgs false
theorem fd_under2 {w w' w2 : World} {B : Nat} (h : Below w.heap.size w w') (hB : w.heap.size ≤ B) (k : Below B w' w2) : Below w.heap.size w w2 := h.trans (k.mono hB)
set_option maxHeartbeats 2000000 in
set_option maxRecDepth 100000 in
theorem refID (t n : Int) (w : World) : Calls Tryz.prog 58 #[.agg #[.int .i64 t, .int .i64 n]] w (RefPost (idW t n) w) := by
  cases hq : idOk t n
  · have HI : Hid (idW t n = none) := Lib.hid (by unfold idW; rw [hq]; rfl)
    have hc : t < 0 ∨ (0 ≤ t ∧ 1152921504606846976 < t) ∨ (0 ≤ t ∧ t ≤ 1152921504606846976 ∧ n < 0) ∨ (0 ≤ t ∧ t ≤ 1152921504606846976 ∧ 0 ≤ n ∧ 64 ≤ n) := by
      unfold idOk at hq
      by_cases h0 : 0 ≤ t
      · by_cases h1 : t ≤ 1152921504606846976
        · by_cases h2 : 0 ≤ n
          · by_cases h3 : n < 64
            · simp [h0, h1, h2, h3] at hq
            · omega
          · omega
        · omega
      · omega
    clear hq
    rcases hc with h0 | ⟨h0, h1⟩ | ⟨h0, h1, h2⟩ | ⟨h0, h1, h2, h3⟩
    all_goals
      go_enter Tryz.func58, Tryz.ntmps58
      go_wp2
      go_ret2
      rw [HI.out]
      exact ⟨_, rfl, World.ownsRow_nil _ _ _ _, (Below.refl _ _).alloc (Nat.le_refl _) _⟩
  · have HI : Hid (idW t n = some (numL t.toNat ++ numL n.toNat)) := Lib.hid (by unfold idW; rw [hq]; rfl)
    unfold idOk at hq
    simp only [Bool.and_eq_true, decide_eq_true_eq] at hq
    obtain ⟨⟨⟨h0, h1⟩, h2⟩, h3⟩ := hq
    obtain ⟨t', rfl⟩ := Int.eq_ofNat_of_zero_le h0
    obtain ⟨n', rfl⟩ := Int.eq_ofNat_of_zero_le h2
    obtain ⟨i0, hi, hz0, hz1, hz2⟩ := info_parts Tryz.info5
    have h4 : (n' : Int) < 64 := h3
    have hn9 := numL_len n'
    have ht9 := numL_len t'
    obtain ⟨L, hL⟩ : ∃ L, L = numL t' := ⟨_, rfl⟩
    obtain ⟨M, hM⟩ : ∃ M, M = numL n' := ⟨_, rfl⟩
    have KT : Hid (∀ w, Calls Tryz.prog 19 #[.int .i64 t'] w (RefPost (some L) w)) := Lib.hid fun w => hL ▸ refNumGood t' w (by omega)
    have KN : Hid (∀ w, Calls Tryz.prog 19 #[.int .i64 n'] w (RefPost (some M) w)) := Lib.hid fun w => hM ▸ refNumGood n' w (by omega)
    rw [← hL] at ht9
    rw [← hM] at hn9
    have HI2 : Hid (idW t' n' = some (L ++ M)) := Lib.hid (by rw [HI.out, hL, hM]; rfl)
    clear hL hM HI
    go_enter Tryz.func58, Tryz.ntmps58
    go_wp2_with fail
    refine (KT.out _).mono ?_
    rintro e w1 ⟨v1, rfl, o1, b1⟩
    simp only [Option.getD_some] at o1
    have HA : Below w.heap.size w (w.alloc (.cells #[.int .i64 t', .int .i64 n'] 44)) := (Below.refl _ _).alloc (Nat.le_refl _) _
    have B1 := Lib.hid (fd_under2 HA HA.size b1)
    have X := (Blk.new w #[.int .i64 t', .int .i64 n'] 44)
    have X1 := blkBelow b1 X X.lt
    have x1 := X1.cell (o := 1) rfl
    have hz := X1.lt
    have O1 := Lib.hid (ownsRow_base o1 (by simp : w.heap.size ≤ _))
    clear HA X b1 o1 X1
    obtain ⟨va, vc, rfl, hv1, hv2, _⟩ := own_shape O1.out
    go_wp2_with fail
    refine (KN.out _).mono ?_
    rintro e w2 ⟨v2, rfl, o2, b2⟩
    simp only [Option.getD_some] at o2
    have hb1 := B1.out.size
    have B2 := Lib.hid (fd_under2 B1.out hb1 b2)
    have o12 := ownsRow_below O1.out b2
    have r2 := Rdv.of_owns (enc := u8v) (xs := M) o2
    have hb2 := B2.out.size
    obtain ⟨va2, vc2, rfl, hu1, hu2, _⟩ := own_shape o2
    clear o2 b2
    go_wp2_with (at_builtin; refine wpList_append_rd rfl _ _ 30 rfl w.heap.size 5 i0 (.int .u8 0) 1 Tryz.underlying30 hi hz0 hz1 hz2 rfl _ _ _ rfl o12 (.slice va2 M.length vc2) u8v M rfl r2 (fun _ => rfl) ?c1 ?c2 ?c3 ?_)
    case c1 => unfold maxLen; omega
    case c2 => omega
    case c3 => omega
    intro v3 w3 o3 g3 b3
    have HB3 := Lib.hid (Below.grown B2.out g3 hb2 (fun k hk => own_ge o12 hk))
    obtain ⟨v3a, v3c, rfl, _⟩ := own_shape o3
    have O3 := Lib.hid o3
    clear o3 g3 b3 o12 r2
    go_wp2
    go_ret2
    rw [HI2.out]
    exact ⟨_, rfl, own_cast O3.out (by simp) (by simp), HB3.out⟩
theorem cutTo_zero (v : List Int) : ∀ n k, cutTo v n ≤ k → k < n → v.getD k 0 = 0
  | 0, _, _, h => by omega
  | n + 1, k, h, hk => by
    by_cases hz : v.getD n 0 = 0
    · rw [cutTo_down v n hz] at h
      rcases Nat.lt_or_ge k n with h1 | h1
      · exact cutTo_zero v n k h h1
      · obtain rfl : k = n := by omega
        exact hz
    · rw [cutTo_stop v n hz] at h; omega
theorem cutL_getD (v : List Int) (k : Nat) : (cutL v).getD k 0 = v.getD k 0 := by
  have hl := cutL_len v
  rcases Nat.lt_or_ge k (cutTo v v.length) with h | h
  · unfold cutL
    simp [List.getD_eq_getElem?_getD, h]
  · rw [List.getD_eq_getElem?_getD, List.getElem?_eq_none (by omega)]
    rcases Nat.lt_or_ge k v.length with h1 | h1
    · exact (cutTo_zero v _ k h h1).symm
    · simp [List.getD_eq_getElem?_getD, List.getElem?_eq_none h1]
theorem atZ_cut (xs : List Int) (k : Nat) : atZ (cutL xs) k = atZ xs k := by
  have hl := cutL_len xs
  have hle := cutTo_le xs xs.length
  have hg := cutL_getD xs k
  unfold atZ
  rw [Int.toNat_natCast, hg]
  rcases Nat.lt_or_ge k (cutL xs).length with h | h
  · have h2 : k < xs.length := by omega
    by_cases h64 : (64 : Int) ≤ k
    · rw [if_pos (show (k : Int) < 0 ∨ ((cutL xs).length : Int) ≤ k ∨ 64 ≤ (k : Int) by omega), if_pos (show (k : Int) < 0 ∨ (xs.length : Int) ≤ k ∨ 64 ≤ (k : Int) by omega)]
    · rw [if_neg (show ¬ ((k : Int) < 0 ∨ ((cutL xs).length : Int) ≤ k ∨ 64 ≤ (k : Int)) by omega), if_neg (show ¬ ((k : Int) < 0 ∨ (xs.length : Int) ≤ k ∨ 64 ≤ (k : Int)) by omega)]
  · rw [if_pos (by omega)]
    have hz : xs.getD k 0 = 0 := by rw [← hg, List.getD_eq_getElem?_getD, List.getElem?_eq_none h]; rfl
    rw [hz]
    split <;> simp
theorem nrm_of_may (xs : List Int) (hm : vecMayB (cutL xs) = true) (hl : (cutL xs).length ≤ 64) : nrm (fun k => atZ xs k) = cutL xs := by
  rw [← nrm_cut xs hm hl]
  exact nrm_congr fun k _ => (atZ_cut xs k).symm
set_option maxHeartbeats 2000000 in
set_option maxRecDepth 100000 in
theorem refVector (x : Value) (xs : List Int) (w : World) (hx : Rdv i64c w x xs) : Calls Tryz.prog 21 #[x] w (RefPost (vecW xs) w) := by
  obtain ⟨i0, hi, hz0, hz1, hz2⟩ := info_parts Tryz.info5
  have KM := refMay x xs w hx
  have KN := Lib.hid (refNorm x xs w hx)
  obtain ⟨xa, xn, xc, rfl⟩ := hx.shape
  cases hq : (vecMayB (cutL xs) && decide ((cutL xs).length ≤ 64))
  · rw [hq] at KM
    have KM := Lib.hid KM
    have HV : Hid (vecW xs = none) := Lib.hid (by
      unfold vecW
      rw [if_neg]
      rintro ⟨h1, h2⟩
      rw [h1, decide_eq_true h2] at hq
      cases hq)
    clear hq hx
    go_enter Tryz.func21, Tryz.ntmps21
    go_wp2_with fail
    refine KM.out.mono ?_
    rintro e w1 ⟨rfl, rfl⟩
    go_wp2
    go_ret2
    rw [HV.out]
    exact ⟨_, rfl, World.ownsRow_nil _ _ _ _, Below.refl _ _⟩
  · rw [hq] at KM
    have KM := Lib.hid KM
    rw [Bool.and_eq_true, decide_eq_true_eq] at hq
    have hnc := nrm_of_may xs hq.1 hq.2
    have HV0 : vecW xs = some (numL (cutL xs).length ++ numsL (cutL xs)) := by unfold vecW; rw [if_pos hq]
    obtain ⟨hm, hl⟩ := hq
    rw [hnc] at KN
    generalize cutL xs = ys at *
    have HV := Lib.hid HV0
    have HM := Lib.hid hm
    clear hx hnc HV0 hm
    obtain ⟨L, hL⟩ : ∃ L, L = numL ys.length := ⟨_, rfl⟩
    have ht9 := numL_len ys.length
    have KT : Hid (∀ w, Calls Tryz.prog 19 #[.int .i64 ys.length] w (RefPost (some L) w)) := Lib.hid fun w => hL ▸ refNumGood ys.length w (by omega)
    rw [← hL] at ht9
    have HL := Lib.hid hL
    clear hL
    go_enter Tryz.func21, Tryz.ntmps21
    go_wp2_with fail
    refine KM.out.mono ?_
    rintro e w1 ⟨rfl, rfl⟩
    go_wp2_with fail
    refine KN.out.mono ?_
    rintro e w2 ⟨y, rfl, ry, b2⟩
    obtain ⟨ya, yn, yc, rfl⟩ := ry.shape
    obtain ⟨q1, q2, q3, _⟩ := ry.cap
    subst q1
    unfold maxLen at q3
    have RY := Lib.hid ry
    have B2 := Lib.hid b2
    have hb2 := b2.size
    clear ry b2
    go_wp2_with fail
    refine (KT.out _).mono ?_
    rintro e w3 ⟨v3, rfl, o3, b3⟩
    simp only [Option.getD_some] at o3
    have O3 := Lib.hid o3
    have B3 := Lib.hid b3
    clear o3 b3
    go_wp2_with fail
    go_loopw [5, 7] (fun bv iv wr => ∃ k : Nat, k ≤ ys.length ∧ iv = .int .i64 k ∧ wr.ownsRow w2.heap.size 5 1 bv (L ++ numsL (ys.take k)).length ((L ++ numsL (ys.take k)).map u8v) ∧ Below w2.heap.size w2 wr) (fun _ iv _ => ys.length - (intOf iv).toNat)
    case atStart => exact ⟨0, by omega, rfl, own_cast O3.out (by simp [numsL]) (by simp [numsL]), B3.out⟩
    case round =>
      obtain ⟨k, hk, rfl, hown, hb⟩ := hrel
      have hbs := hb.size
      have HB := Lib.hid hb
      have ry := RY.out.below hb
      by_cases hlt : k < ys.length
      · have hy : Hid (0 ≤ ys.getD k 0 ∧ ys.getD k 0 ≤ 1152921504606846976) := Lib.hid (by
          by_cases hq : 0 ≤ ys.getD k 0 ∧ ys.getD k 0 ≤ 1152921504606846976
          · exact hq
          · have := vecMayB_false ys k hlt hq
            rw [HM.out] at this; cases this)
        obtain ⟨y, hyy⟩ := Int.eq_ofNat_of_zero_le hy.out.1
        have hyb : y ≤ 1152921504606846976 := by have := hy.out.2; omega
        obtain ⟨gb, go', rfl, hk1⟩ := rdv_at ry k hlt
        rw [hyy] at hk1
        have hst : numsL (ys.take (k + 1)) = numsL (ys.take k) ++ numL y := by rw [numsL_snoc ys k hlt, hyy]; rfl
        obtain ⟨M, hM⟩ : ∃ M, M = numL y := ⟨_, rfl⟩
        have hn9 := numL_len y
        have KY : Hid (∀ w, Calls Tryz.prog 19 #[.int .i64 y] w (RefPost (some M) w)) := Lib.hid fun w => hM ▸ refNumGood y w (by omega)
        rw [← hM] at hst hn9
        have hPl := numsL_len (ys.take k)
        have htl : (ys.take k).length ≤ 64 := by rw [List.length_take]; omega
        obtain ⟨O, hO⟩ : ∃ O, O = L ++ numsL (ys.take k) := ⟨_, rfl⟩
        have hOl : O.length ≤ 700 := by rw [hO, List.length_append]; omega
        have HN : Hid (O ++ M = L ++ numsL (ys.take (k + 1))) := Lib.hid (by rw [hO, hst, List.append_assoc])
        rw [← hO] at hown
        have HOWN := Lib.hid hown
        obtain ⟨va, vc, rfl, hv1, hv2, _⟩ := own_shape hown
        clear hO hst hM hyy hb hown hy ry
        go_wp2_with fail
        refine (KY.out _).mono ?_
        rintro e w4 ⟨v4, rfl, o4, b4⟩
        simp only [Option.getD_some] at o4
        have HB4 := Lib.hid (HB.out.trans (b4.mono hbs))
        have o14 := ownsRow_below HOWN.out b4
        have r4 := Rdv.of_owns (enc := u8v) (xs := M) o4
        have hb4 := HB4.out.size
        obtain ⟨va4, vc4, rfl, hu1, hu2, _⟩ := own_shape o4
        clear o4 b4
        go_wp2_with (at_builtin; refine wpList_append_rd rfl _ _ 30 rfl w2.heap.size 5 i0 (.int .u8 0) 1 Tryz.underlying30 hi hz0 hz1 hz2 rfl _ _ _ rfl o14 (.slice va4 M.length vc4) u8v M rfl r4 (fun _ => rfl) ?c1 ?c2 ?c3 ?_)
        case c1 => unfold maxLen; omega
        case c2 => omega
        case c3 => omega
        intro v5 w5 o5 g5 b5
        have HB5 := Lib.hid (Below.grown HB4.out g5 hb4 (fun k hk => own_ge o14 hk))
        obtain ⟨v5a, v5c, rfl, _⟩ := own_shape o5
        have O5 := Lib.hid o5
        clear o5 g5 b5 o14 r4
        go_wp2
        go_roundw
        case rel => exact ⟨k + 1, by omega, by go_num, own_cast O5.out (by rw [← HN.out]; simp) (by rw [← HN.out]; simp), HB5.out⟩
        case measure => simp [intOf]; omega
      · obtain rfl : k = ys.length := by omega
        obtain ⟨va, vc, rfl, hv1, hv2, _⟩ := own_shape hown
        have HOWN := Lib.hid hown
        clear hown hb ry
        go_wp2
        go_ret2
        rw [HV.out, ← HL.out]
        refine ⟨_, rfl, own_cast (ownsRow_base HOWN.out hb2) ?_ ?_, B2.out.trans (HB.out.mono hb2)⟩
        · rw [List.take_length]; rfl
        · rw [List.take_length]; rfl
end Go.Proofs.YthbalmoafpggdaaGreat
namespace Go.Proofs.YthbalmoafpggdaaGreat
open Go.RowKit
set_option linter.unusedVariables false
set_option linter.unusedSimpArgs false
/-- Both readers, with the same left. -/
structure Two (w : World) (r1 B1 r2 B2 : Nat) (s : RS) : Prop where
  rd : ∃ v, Rd w r1 B1 v s
  rf : ∃ v, Rf w r2 B2 v s
  n12 : r1 ≠ r2
  nb1 : r2 ≠ B1
  nb2 : r1 ≠ B2
  lb1 : B1 < w.heap.size
  lb2 : B2 < w.heap.size
def RR (r1 r2 : Nat) : Nat → Prop := fun k => k = r1 ∨ k = r2
theorem Two.below {w w' : World} {r1 B1 r2 B2 : Nat} {s : RS} (h : Two w r1 B1 r2 B2 s) (g : Below w.heap.size w w') : Two w' r1 B1 r2 B2 s := by
  obtain ⟨v, h1⟩ := h.rd
  obtain ⟨u, h2⟩ := h.rf
  exact ⟨⟨v, h1.below g⟩, ⟨u, h2.below g⟩, h.n12, h.nb1, h.nb2, Nat.lt_of_lt_of_le h.lb1 g.size, Nat.lt_of_lt_of_le h.lb2 g.size⟩
theorem Two.step {w w1 w2 : World} {r1 B1 r2 B2 : Nat} {s s' : RS} (h : Two w r1 B1 r2 B2 s) {v1 v2 : Value} (h1 : Rd w1 r1 B1 v1 s') (g1 : Chg (· = r1) w w1) (h2 : Rf w2 r2 B2 v2 s') (g2 : Chg (· = r2) w1 w2) : Two w2 r1 B1 r2 B2 s' ∧ Chg (RR r1 r2) w w2 :=
  ⟨⟨⟨v1, h1.chg g2 h.n12 (Ne.symm h.nb1)⟩, ⟨v2, h2⟩, h.n12, h.nb1, h.nb2, Nat.lt_of_lt_of_le h.lb1 (Nat.le_trans g1.size g2.size), Nat.lt_of_lt_of_le h.lb2 (Nat.le_trans g1.size g2.size)⟩, (g1.mono fun _ _ e => .inl e).trans (g2.mono fun _ _ e => .inr e)⟩
def takeS (kind : Int) (s : RS) : RS := if kind = 0 then (numS s).2 else if kind = 1 ∨ kind = 2 then (bytesS s).2 else if kind = 3 then (truthS s).2 else if kind = 4 then (idS s).2 else (vecS s).2
def TakePost (kind : Int) (r1 B1 r2 B2 : Nat) (s : RS) (w : World) (e : Ending) (w' : World) : Prop := e = .returned (.bool true) ∧ Two w' r1 B1 r2 B2 (takeS kind s) ∧ Chg (RR r1 r2) w w'
end Go.Proofs.YthbalmoafpggdaaGreat
namespace Go.Proofs.YthbalmoafpggdaaGreat
open Go.RowKit
set_option linter.unusedVariables false
set_option linter.unusedSimpArgs false
theorem vecS_nrm (s : RS) : nrm (fun k => atZ (vecS s).1 k) = (vecS s).1 := by
  have hnil : nrm (fun k => atZ [] k) = [] := by decide +kernel
  rw [vecS_eq]
  have hlen := numsS_len (numS s).1
  rcases (numS s).2 with _ | l
  · exact hnil
  · simp only
    by_cases h64 : 64 < (numS s).1
    · rw [if_pos h64]; exact hnil
    · rw [if_neg h64]
      have hl := hlen (some l)
      rcases hN : numsS (numS s).1 (some l) with ⟨ys, t⟩
      rw [hN] at hl
      rcases t with _ | l'
      · exact hnil
      · simp only at *
        by_cases hok : vecOkB ys = true
        · rw [if_pos hok]
          unfold vecOkB at hok
          rw [Bool.and_eq_true] at hok
          have hc := cutL_all ys (of_decide_eq_true hok.2)
          have := nrm_cut ys (by rw [hc]; exact hok.1) (by rw [hc]; omega)
          rw [hc] at this
          exact this
        · rw [if_neg hok]; exact hnil
end Go.Proofs.YthbalmoafpggdaaGreat
namespace Go.Proofs.YthbalmoafpggdaaGreat
open Go.RowKit
set_option linter.unusedVariables false
set_option linter.unusedSimpArgs false
def odd (n : Int) : Bool := decide (n.tmod 2 = 1)
def itemW (k n : Int) (bs : List Int) (t nd : Int) (vs : List Int) : Option (List Int) := if k = 0 then numW n else if k = 1 ∨ k = 2 then bytesW bs else if k = 3 then some (truthW (odd n)) else if k = 4 then idW t nd else vecW vs
def PutPost (p : Nat) (v : Value) (l : List Int) (bad : Bool) (o : Option (List Int)) (w : World) (e : Ending) (w' : World) : Prop := ∃ w1 u, e = .returned (.tuple #[u, .bool o.isSome]) ∧ WStep p v w (wadd l bad o) (wbad bad o) w1 ∧ w'.ownsRow w1.heap.size 5 1 u (o.getD []).length ((o.getD []).map u8v) ∧ Below w1.heap.size w1 w'
theorem Nxt.of_below {w w1 : World} {v v' : Value} (hs : w.heap.size ≤ w1.heap.size) (h : Nxt w1 v v') : Nxt w v v' := by
  rcases h with h | h
  · exact .inl h
  · exact .inr fun k hk => Nat.le_trans hs (h k hk)
theorem WStep.box {p : Nat} {v : Value} {w w1 : World} {o : Obj} {l : List Int} {bad : Bool} (h : WStep p v (w.alloc o) l bad w1) : WStep p v w l bad w1 := by
  obtain ⟨v', h1, h2, h3⟩ := h
  exact ⟨v', h1, Nxt.of_below (by simp) h2, ((Chg.refl (WS p v) w).alloc o).trans h3⟩
theorem own_lt {w : World} {B e s : Nat} {v : Value} {n : Nat} {xs : List Value} (h : w.ownsRow B e s v n xs) {k : Nat} (hk : v.ownBlock = some k) : k < w.heap.size := by
  rcases h.2 with ⟨rfl, _⟩ | ⟨g, c, cur, rfl, _, h2, _⟩
  · cases hk
  · injection hk with hk
    have hk : g = k := hk
    subst hk
    exact lt_of_block h2
theorem strL_of (xs : List Int) (h : Byt xs) : strL (strOfNums xs) = xs := by
  unfold strL
  rw [strOfNums_data, List.map_map]
  conv => rhs; rw [← List.map_id xs]
  refine List.map_congr_left fun q hq => ?_
  have := h q hq
  simp [UInt8.toNat_ofNat]
  omega
structure PutIn (p : Nat) (v vB vV : Value) (bs vs : List Int) (l : List Int) (w : World) : Prop where
  rB : Rdv u8v w vB bs
  byt : Byt bs
  aB : Apt vB p v
  lB : ∀ b o n c, vB = .slice (some ⟨b, o, none⟩) n c → 0 < n → b < w.heap.size
  rV : Rdv i64c w vV vs
  aV : Apt vV p v
  lV : ∀ b o n c, vV = .slice (some ⟨b, o, none⟩) n c → 0 < n → b < w.heap.size
  nB : bs.length ≤ 1000
  len : l.length ≤ 600000000000
end Go.Proofs.YthbalmoafpggdaaGreat
namespace Go.Proofs.YthbalmoafpggdaaGreat
open Go.RowKit
set_option linter.unusedVariables false
set_option linter.unusedSimpArgs false
theorem numS_num (n0 : Nat) (rest : List Int) (h : n0 ≤ 4611686018427387904) : numS (some (numL n0 ++ rest)) = (n0, some rest) := by
  show (match numR (numL n0 ++ rest) with | none => (0, none) | some (n, k) => (n, some (List.drop k (numL n0 ++ rest)))) = _
  rw [numR_numL n0 rest h]
  simp
theorem numsL_drop (ys : List Int) (k : Nat) (h : k < ys.length) : numsL (ys.drop k) = numL (ys.getD k 0).toNat ++ numsL (ys.drop (k + 1)) := by
  rw [List.drop_eq_getElem_cons h, List.getD_eq_getElem?_getD, List.getElem?_eq_getElem h]
  rfl
theorem numsS_nums (ys : List Int) (rest : List Int) (hm : vecMayB ys = true) : ∀ k, k ≤ ys.length → numsS k (some (numsL ys ++ rest)) = (ys.take k, some (numsL (ys.drop k) ++ rest))
  | 0, _ => by simp [numsS]
  | k + 1, h => by
    have ih := numsS_nums ys rest hm k (by omega)
    have hk : k < ys.length := by omega
    have hq : 0 ≤ ys.getD k 0 ∧ ys.getD k 0 ≤ 1152921504606846976 := by
      by_cases hq : 0 ≤ ys.getD k 0 ∧ ys.getD k 0 ≤ 1152921504606846976
      · exact hq
      · have := vecMayB_false ys k hk hq
        rw [hm] at this; cases this
    unfold numsS
    rw [ih]
    simp only
    rw [numsL_drop ys k hk, List.append_assoc, numS_num _ _ (by omega)]
    rw [List.take_succ_eq_append_getElem hk]
    rw [List.getD_eq_getElem?_getD, List.getElem?_eq_getElem hk] at *
    simp only [Option.getD_some] at *
    rw [Int.toNat_of_nonneg hq.1]
theorem cutL_last (ys : List Int) : cutL ys = [] ∨ (cutL ys).getD ((cutL ys).length - 1) 0 ≠ 0 := by
  rcases Nat.eq_zero_or_pos (cutL ys).length with h | h
  · exact .inl (List.eq_nil_of_length_eq_zero h)
  · right
    rw [cutL_getD]
    have hl := cutL_len ys
    have : ∀ n, 0 < cutTo ys n → ys.getD (cutTo ys n - 1) 0 ≠ 0 := by
      intro n
      induction n with
      | zero => intro h; simp [cutTo] at h
      | succ n ih =>
        intro h0
        by_cases hz : ys.getD n 0 = 0
        · rw [cutTo_down ys n hz] at h0 ⊢; exact ih h0
        · rw [cutTo_stop ys n hz]; simpa using hz
    rw [hl]
    exact this _ (by omega)
theorem vecS_vec (ys : List Int) (rest : List Int) (hm : vecMayB ys = true) (hl : ys.length ≤ 64) (hz : ys = [] ∨ ys.getD (ys.length - 1) 0 ≠ 0) : vecS (some (numL ys.length ++ numsL ys ++ rest)) = (ys, some rest) := by
  unfold vecS
  rw [List.append_assoc, numS_num _ _ (by omega)]
  simp only
  rw [if_neg (by omega), numsS_nums ys rest hm _ (Nat.le_refl _)]
  simp only [List.take_length, List.drop_length]
  have hok : vecOkB ys = true := by unfold vecOkB; rw [hm, decide_eq_true hz]; rfl
  rw [if_pos hok]
  rfl
theorem takeS_item (k n : Int) (bs : List Int) (t nd : Int) (vs : List Int) (s rest : List Int) (h : itemW k n bs t nd vs = some s) : takeS k (some (s ++ rest)) = some rest := by
  unfold itemW at h
  unfold takeS
  by_cases h0 : k = 0
  · rw [if_pos h0] at h ⊢
    obtain ⟨h1, h2, rfl⟩ := numW_some h
    rw [numS_num _ _ (by omega)]
  rw [if_neg h0] at h ⊢
  by_cases h1 : k = 1 ∨ k = 2
  · rw [if_pos h1] at h ⊢
    unfold bytesW at h
    split at h
    · next hb =>
      injection h with h
      subst h
      unfold bytesS
      rw [List.append_assoc, numS_num _ _ (by omega)]
      simp only
      rw [if_neg (by simp; omega)]
      simp
    · cases h
  rw [if_neg h1] at h ⊢
  by_cases h3 : k = 3
  · rw [if_pos h3] at h ⊢
    injection h with h
    subst h
    have e : truthW (odd n) = numL (if odd n then 1 else 0) := by cases odd n <;> rfl
    unfold truthS
    rw [e, numS_num _ _ (by split <;> omega)]
    simp only
    rw [if_neg (by split <;> omega)]
  rw [if_neg h3] at h ⊢
  by_cases h4 : k = 4
  · rw [if_pos h4] at h ⊢
    unfold idW at h
    split at h
    · next hq =>
      injection h with h
      subst h
      unfold idOk at hq
      simp only [Bool.and_eq_true, decide_eq_true_eq] at hq
      unfold idS
      rw [List.append_assoc, numS_num _ _ (by omega)]
      simp only
      rw [numS_num _ _ (by omega)]
      simp only
      rw [if_neg (by omega)]
    · cases h
  rw [if_neg h4] at h ⊢
  unfold vecW at h
  split at h
  · next hq =>
    injection h with h
    subst h
    rw [vecS_vec _ rest hq.1 hq.2 (cutL_last vs)]
  · cases h
/-- The words of a list of items. -/
def wordsL (os : List (Option (List Int))) : List Int := os.flatMap fun o => o.getD []
def wordsB (os : List (Option (List Int))) : Bool := os.any fun o => o.isNone
def wrL (os : List (Option (List Int))) : List Int := (os.foldl (fun s o => (wadd s.1 s.2 o, wbad s.2 o)) (([] : List Int), false)).1
theorem fold_snd (os : List (Option (List Int))) : ∀ s : List Int × Bool, (os.foldl (fun s o => (wadd s.1 s.2 o, wbad s.2 o)) s).2 = (s.2 || wordsB os) := by
  induction os with
  | nil => intro s; simp [wordsB]
  | cons o os ih => intro s; rw [List.foldl_cons, ih]; simp [wordsB, wbad, Bool.or_assoc]
theorem fold_fst (os : List (Option (List Int))) : ∀ s : List Int × Bool, s.2 = false → wordsB os = false → (os.foldl (fun s o => (wadd s.1 s.2 o, wbad s.2 o)) s).1 = s.1 ++ wordsL os := by
  induction os with
  | nil => intro s _ _; simp [wordsL]
  | cons o os ih =>
    intro s hs hb
    simp only [wordsB, List.any_cons, Bool.or_eq_false_iff] at hb
    rw [List.foldl_cons, ih _ (by simp [wbad, hs, hb.1]) hb.2]
    simp [wadd, hs, wordsL, List.append_assoc]
theorem wrL_good (os : List (Option (List Int))) (h : wordsB os = false) : wrL os = wordsL os := by
  unfold wrL
  rw [fold_fst os _ rfl h]
  rfl
theorem wrL_snoc (os : List (Option (List Int))) (o : Option (List Int)) : wrL (os ++ [o]) = wadd (wrL os) (wordsB os) o := by
  unfold wrL
  rw [List.foldl_append]
  simp only [List.foldl_cons, List.foldl_nil]
  rw [fold_snd]
  rfl
theorem wordsB_snoc (os : List (Option (List Int))) (o : Option (List Int)) : wordsB (os ++ [o]) = wbad (wordsB os) o := by simp [wordsB, wbad]
theorem wordsL_snoc (os : List (Option (List Int))) (o : Option (List Int)) : wordsL (os ++ [o]) = wordsL os ++ o.getD [] := by simp [wordsL]
end Go.Proofs.YthbalmoafpggdaaGreat
namespace Go.Proofs.YthbalmoafpggdaaGreat
open Go.RowKit
set_option linter.unusedVariables false
set_option linter.unusedSimpArgs false
/-- An operation's bytes. -/
def opL (o : Opr) : List Int := numL o.kind.toNat ++ (numL o.time.toNat ++ numL o.node.toNat) ++ numL o.seq.toNat ++ (numL o.ot.toNat ++ numL o.on.toNat) ++ (numL o.pt.toNat ++ numL o.pn.toNat) ++ (numL (strL o.name).length ++ strL o.name) ++ (numL o.data.length ++ o.data) ++ (numL (cutL o.seen).length ++ numsL (cutL o.seen))
/-- What may be can be written. -/
structure OpFine (o : Opr) : Prop where
  kind : 0 ≤ o.kind ∧ o.kind ≤ 4
  id : idOk o.time o.node = true
  seq : 1 ≤ o.seq ∧ o.seq ≤ 1152921504606846976
  obj : idOk o.ot o.on = true
  par : idOk o.pt o.pn = true
  name : (strL o.name).length ≤ 65536
  data : o.data.length ≤ 65536
  seen : vecMayB (cutL o.seen) = true ∧ (cutL o.seen).length ≤ 64
theorem id_of_valid {t n : Int} (h : validID t n = true) : idOk t n = true := by
  unfold validID at h
  unfold idOk
  simp only [Bool.and_eq_true, decide_eq_true_eq] at *
  omega
theorem id_of_early {t n t' n' : Int} (h : earlyB t n t' n' = true) : idOk t n = true := by
  unfold earlyB at h
  rw [Bool.and_eq_true] at h
  exact id_of_valid h.1
theorem nameE_len {l : List UInt8} (h : nameE l = 0) : l.length ≤ 64 := by
  unfold nameE nameG at h
  split at h
  · omega
  · split at h <;> omega
theorem par_fine {o : Opr} (h : parB o = true) : idOk o.pt o.pn = true := by
  unfold parB at h
  rw [Bool.or_eq_true, decide_eq_true_eq] at h
  rcases h with h | h
  · rw [h.1, h.2]; rfl
  · exact id_of_early h
theorem named_fine {o : Opr} (h : namedB o = true) : (strL o.name).length ≤ 65536 ∧ o.data.length ≤ 65536 := by
  unfold namedB at h
  simp only [Bool.and_eq_true, decide_eq_true_eq] at h
  have := nameE_len h.1
  rw [strL_len, Lib.size_eq]
  omega
theorem may_fine {o : Opr} (h : mayB o = true) : OpFine o := by
  unfold mayB at h
  simp only [Bool.and_eq_true, decide_eq_true_eq] at h
  obtain ⟨⟨⟨⟨h1, h2⟩, h3⟩, h4⟩, h5⟩ := h
  unfold seenB at h4
  simp only [Bool.and_eq_true, decide_eq_true_eq] at h4
  unfold kindB at h5
  by_cases k1 : o.kind = 1 ∨ o.kind = 2
  · rw [if_pos k1] at h5
    simp only [Bool.and_eq_true, decide_eq_true_eq] at h5
    have := named_fine h5.2
    exact ⟨by omega, id_of_valid h1, ⟨h2, h3⟩, by rw [h5.1.1.1, h5.1.1.2]; exact id_of_valid h1, par_fine h5.1.2, this.1, this.2, h4.1⟩
  rw [if_neg k1] at h5
  by_cases k3 : o.kind = 3
  · rw [if_pos k3] at h5
    simp only [Bool.and_eq_true, Bool.or_eq_true, decide_eq_true_eq] at h5
    have := named_fine h5.2
    refine ⟨by omega, id_of_valid h1, ⟨h2, h3⟩, id_of_early h5.1.1, ?_, this.1, this.2, h4.1⟩
    rcases h5.1.2 with h | h
    · exact par_fine h
    · rw [h.1, h.2]; rfl
  rw [if_neg k3] at h5
  by_cases k4 : o.kind = 4
  · rw [if_pos k4] at h5
    simp only [Bool.and_eq_true, decide_eq_true_eq] at h5
    refine ⟨by omega, id_of_valid h1, ⟨h2, h3⟩, id_of_early h5.1.1.1, by rw [h5.1.1.2.1, h5.1.1.2.2]; rfl, ?_, h5.2, h4.1⟩
    rw [strL_len, Lib.size_eq, h5.1.2]; simp
  · rw [if_neg k4] at h5; cases h5
/-- While an operation is written. -/
structure EncM (w : World) (b : Nat) (cs : Array Value) (p : Nat) (v : Value) (l : List Int) (w' : World) : Prop where
  wr : Wr w' p v l false
  blk : Blk w' b cs 46
  bel : Below w.heap.size w w'
  bp : w.heap.size ≤ b ∧ b < p
  fresh : ∀ k, v.ownBlock = some k → b < k
theorem EncM.step {w w1 w2 : World} {b p : Nat} {cs : Array Value} {v : Value} {l l' : List Int} (h : EncM w b cs p v l w1) (hs : WStep p v w1 l' false w2) : ∃ v', EncM w b cs p v' l' w2 := by
  obtain ⟨v', h1, h2, h3⟩ := hs
  have hb := h.bp
  have hbl := h.blk.lt
  have hno : ∀ i, i ≤ b → ¬ WS p v i := fun i hi hw => by
    rcases hw with hw | hw
    · omega
    · have := h.fresh i hw; omega
  refine ⟨v', h1, h3.blk h.blk (hno b (Nat.le_refl _)), h3.below_trans h.bel h.bel.size (fun i hi => hno i (by omega)), hb, fun k hk => ?_⟩
  rcases h2 with h2 | h2
  · exact h.fresh k (h2 ▸ hk)
  · have := h2 k hk; omega
def EStep (w : World) (b : Nat) (cs : Array Value) (p : Nat) (l' : List Int) (e : Ending) (w' : World) : Prop := e = .returned (.tuple #[]) ∧ ∃ v', EncM w b cs p v' l' w'
theorem eNum {w w1 : World} {b p : Nat} {cs : Array Value} {v : Value} {l : List Int} (h : EncM w b cs p v l w1) (n : Int) (hn : 0 ≤ n ∧ n ≤ 4611686018427387904) (hl : l.length ≤ 500000000000) : Calls Tryz.prog 25 #[.pointer (some ⟨p, 0, none⟩), .int .i64 n] w1 (EStep w b cs p (l ++ numL n.toNat)) := by
  refine (wNum p v l false n w1 h.wr (by omega) (by omega)).mono ?_
  rintro e w2 ⟨he, hs⟩
  have e1 : numW n = some (numL n.toNat) := by unfold numW; rw [if_pos hn]
  rw [e1] at hs
  exact ⟨he, h.step hs⟩
theorem eID {w w1 : World} {b p : Nat} {cs : Array Value} {v : Value} {l : List Int} (h : EncM w b cs p v l w1) (t n : Int) (hn : idOk t n = true) (hl : l.length ≤ 500000000000) : Calls Tryz.prog 67 #[.pointer (some ⟨p, 0, none⟩), .agg #[.int .i64 t, .int .i64 n]] w1 (EStep w b cs p (l ++ (numL t.toNat ++ numL n.toNat))) := by
  refine (wID p v l false t n w1 h.wr (by omega)).mono ?_
  rintro e w2 ⟨he, hs⟩
  have e1 : idW t n = some (numL t.toNat ++ numL n.toNat) := by unfold idW; rw [if_pos hn]
  rw [e1] at hs
  exact ⟨he, h.step hs⟩
theorem eText {w w1 : World} {b p : Nat} {cs : Array Value} {v : Value} {l : List Int} (h : EncM w b cs p v l w1) (s : ByteArray) (hn : (strL s).length ≤ 65536) (hl : l.length ≤ 500000000000) : Calls Tryz.prog 68 #[.pointer (some ⟨p, 0, none⟩), .string s] w1 (EStep w b cs p (l ++ (numL (strL s).length ++ strL s))) := by
  refine (wText p v l false s w1 h.wr (by rw [strL_len] at hn; omega) (by omega)).mono ?_
  rintro e w2 ⟨he, hs⟩
  have e1 : bytesW (strL s) = some (numL (strL s).length ++ strL s) := by unfold bytesW; rw [if_pos hn]
  rw [e1] at hs
  exact ⟨he, h.step hs⟩
theorem rdv_old {enc : Int → Value} {w : World} {x : Value} {xs : List Int} (h : Rdv enc w x xs) : ∀ b o n c, x = .slice (some ⟨b, o, none⟩) n c → 0 < n → b < w.heap.size := by
  intro b o n c e hn
  obtain ⟨a, c', e', _, _, h3⟩ := h
  rw [e', Value.slice.injEq] at e
  obtain ⟨rfl, rfl, _⟩ := e
  rcases h3 with h3 | ⟨b', o', h3, h4⟩
  · rw [h3] at hn; simp at hn
  · injection h3 with h3
    injection h3 with h3 _
    subst h3
    exact World.block_lt_of_cell? w _ (h4 0 hn)
theorem EncM.apt {w w1 : World} {b p : Nat} {cs : Array Value} {v : Value} {l : List Int} (h : EncM w b cs p v l w1) {enc : Int → Value} {x : Value} {xs : List Int} (hx : Rdv enc w x xs) : Apt x p v := by
  intro b' o n c e hn
  have := rdv_old hx b' o n c e hn
  have hb := h.bp
  exact ⟨by omega, fun e2 => by have := h.fresh _ e2; omega⟩
theorem eBytes {w w1 : World} {b p : Nat} {cs : Array Value} {v : Value} {l : List Int} (h : EncM w b cs p v l w1) (x : Value) (xs : List Int) (hx : Rdv u8v w x xs) (hn : xs.length ≤ 65536) (hl : l.length ≤ 500000000000) : Calls Tryz.prog 69 #[.pointer (some ⟨p, 0, none⟩), x] w1 (EStep w b cs p (l ++ (numL xs.length ++ xs))) := by
  refine (wBytes p v l false x xs w1 h.wr (hx.below h.bel) (h.apt hx) (fun b o n c e h0 => Nat.lt_of_lt_of_le (rdv_old hx b o n c e h0) h.bel.size) (by omega)).mono ?_
  rintro e w2 ⟨he, hs⟩
  have e1 : bytesW xs = some (numL xs.length ++ xs) := by unfold bytesW; rw [if_pos hn]
  rw [e1] at hs
  exact ⟨he, h.step hs⟩
theorem eVec {w w1 : World} {b p : Nat} {cs : Array Value} {v : Value} {l : List Int} (h : EncM w b cs p v l w1) (x : Value) (xs : List Int) (hx : Rdv i64v w x xs) (hn : vecMayB (cutL xs) = true ∧ (cutL xs).length ≤ 64) (hl : l.length ≤ 500000000000) : Calls Tryz.prog 27 #[.pointer (some ⟨p, 0, none⟩), x] w1 (EStep w b cs p (l ++ (numL (cutL xs).length ++ numsL (cutL xs)))) := by
  refine (wVector p v l false x xs w1 h.wr (hx.below h.bel) (h.apt hx) (fun b o n c e h0 => Nat.lt_of_lt_of_le (rdv_old hx b o n c e h0) h.bel.size) (by omega)).mono ?_
  rintro e w2 ⟨he, hs⟩
  have e1 : vecW xs = some (numL (cutL xs).length ++ numsL (cutL xs)) := by unfold vecW; rw [if_pos hn]
  rw [e1] at hs
  exact ⟨he, h.step hs⟩
theorem own_down {w : World} {B B' e s n : Nat} {v : Value} {xs : List Value} (h : w.ownsRow B e s v n xs) (hB : B' ≤ B) : w.ownsRow B' e s v n xs := by
  refine ⟨h.1, ?_⟩
  rcases h.2 with h2 | ⟨g, c, cur, h1, h2, r⟩
  · exact .inl h2
  · exact .inr ⟨g, c, cur, h1, by omega, r⟩
def EncPost (o : Opr) (w : World) (e : Ending) (w' : World) : Prop :=
  if mayB o = true then ∃ v, e = .returned (.tuple #[v, .int .i64 0]) ∧ w'.ownsRow w.heap.size 5 1 v (opL o).length ((opL o).map u8v) ∧ Below w.heap.size w w'
  else e = .returned (.tuple #[.slice none 0 0, .int .i64 22]) ∧ Below w.heap.size w w'
set_option maxHeartbeats 2000000 in
set_option maxRecDepth 100000 in
theorem opsEncode (o : Opr) (d s : Value) (w : World) (hd : Rdv u8v w d o.data) (hs : Rdv i64v w s o.seen) (hn : o.name.size < 4294967281) :
    Calls Tryz.prog 29 #[.agg #[.int .i64 (o).time, .int .i64 (o).node, .int .i64 (o).seq, .int .i64 (o).kind, .int .i64 (o).ot, .int .i64 (o).on, .int .i64 (o).pt, .int .i64 (o).pn, .string (o).name, d, s]] w (EncPost o w) := by
  have KM := Lib.hid (fun w' hb => opsMay o d s w' (hd.below hb) (hs.below hb) hn : ∀ w', Below w.heap.size w w' → _)
  have HD := Lib.hid hd
  have HS := Lib.hid hs
  unfold EncPost
  cases hm : mayB o
  · rw [hm] at KM
    clear hd hs hm
    obtain ⟨time, node, seq, kind, ot, on, pt, pn, name, data, xs⟩ := o
    simp only at *
    go_enter Tryz.func29, Tryz.ntmps29
    go_wp2_with fail
    refine (KM.out _ ((Below.refl _ _).alloc (Nat.le_refl _) _)).mono ?_
    rintro e w1 ⟨rfl, hb1⟩
    have HB : Hid (Below w.heap.size w w1) := Lib.hid (((Below.refl w.heap.size w).alloc (Nat.le_refl _) (.cells #[.int .i64 time, .int .i64 node, .int .i64 seq, .int .i64 kind, .int .i64 ot, .int .i64 on, .int .i64 pt, .int .i64 pn, .string name, d, s] 46)).trans (hb1.mono (by simp)))
    clear hb1
    go_wp2
    go_ret2
    exact ⟨rfl, HB.out⟩
  · have F := Lib.hid (may_fine hm)
    rw [hm] at KM
    simp only [if_true]
    have hL : Hid (opL o = opL o) := rfl
    unfold opL at hL ⊢
    have l1 := numL_len o.kind.toNat
    have l2 := numL_len o.time.toNat
    have l3 := numL_len o.node.toNat
    have l4 := numL_len o.seq.toNat
    have l5 := numL_len o.ot.toNat
    have l6 := numL_len o.on.toNat
    have l7 := numL_len o.pt.toNat
    have l8 := numL_len o.pn.toNat
    have l9 := numL_len (strL o.name).length
    have l10 := numL_len o.data.length
    have l11 := numL_len (cutL o.seen).length
    have l12 := F.out.name
    have l13 := F.out.data
    have l14 := numsL_len (cutL o.seen)
    have l15 := F.out.seen.2
    have F1 := Lib.hid F.out.kind
    have F2 := Lib.hid F.out.id
    have F3 := Lib.hid F.out.seq
    have F4 := Lib.hid F.out.obj
    have F5 := Lib.hid F.out.par
    have F6 := Lib.hid F.out.seen
    clear hd hs hm F hL
    obtain ⟨time, node, seq, kind, ot, on, pt, pn, name, data, xs⟩ := o
    simp only at *
    go_enter Tryz.func29, Tryz.ntmps29
    go_wp2_with fail
    refine (KM.out _ ((Below.refl _ _).alloc (Nat.le_refl _) _)).mono ?_
    rintro e w1 ⟨rfl, hb1⟩
    have B1 : Hid (Blk w1 w.heap.size #[.int .i64 time, .int .i64 node, .int .i64 seq, .int .i64 kind, .int .i64 ot, .int .i64 on, .int .i64 pt, .int .i64 pn, .string name, d, s] 46) := Lib.hid (blkBelow hb1 (Blk.new _ _ _) (Blk.new _ _ _).lt)
    have HB : Hid (Below w.heap.size w w1) := Lib.hid (((Below.refl w.heap.size w).alloc (Nat.le_refl _) (.cells #[.int .i64 time, .int .i64 node, .int .i64 seq, .int .i64 kind, .int .i64 ot, .int .i64 on, .int .i64 pt, .int .i64 pn, .string name, d, s] 46)).trans (hb1.mono (by simp)))
    clear hb1
    go_wp2_with fail
    refine (wNew _).mono ?_
    rintro e w2 ⟨p, rfl, hp, hW, hb2⟩
    have E2 : Hid (EncM w w.heap.size #[.int .i64 time, .int .i64 node, .int .i64 seq, .int .i64 kind, .int .i64 ot, .int .i64 on, .int .i64 pt, .int .i64 pn, .string name, d, s] p (.slice none 0 0) [] w2) := Lib.hid ⟨hW, blkBelow hb2 B1.out B1.out.lt, HB.out.trans (hb2.mono HB.out.size), ⟨Nat.le_refl _, by have := B1.out.lt; omega⟩, fun k hk => by simp [Value.ownBlock] at hk⟩
    clear hp hW hb2 B1 HB
    have c_0 : w2.cell? ⟨w.heap.size, 0, none⟩ = some (.int .i64 time) := (E2.out.blk).cell (o := 0) rfl
    have c_1 : w2.cell? ⟨w.heap.size, 1, none⟩ = some (.int .i64 node) := (E2.out.blk).cell (o := 1) rfl
    have c_2 : w2.cell? ⟨w.heap.size, 2, none⟩ = some (.int .i64 seq) := (E2.out.blk).cell (o := 2) rfl
    have c_3 : w2.cell? ⟨w.heap.size, 3, none⟩ = some (.int .i64 kind) := (E2.out.blk).cell (o := 3) rfl
    have c_4 : w2.cell? ⟨w.heap.size, 4, none⟩ = some (.int .i64 ot) := (E2.out.blk).cell (o := 4) rfl
    have c_5 : w2.cell? ⟨w.heap.size, 5, none⟩ = some (.int .i64 on) := (E2.out.blk).cell (o := 5) rfl
    have c_6 : w2.cell? ⟨w.heap.size, 6, none⟩ = some (.int .i64 pt) := (E2.out.blk).cell (o := 6) rfl
    have c_7 : w2.cell? ⟨w.heap.size, 7, none⟩ = some (.int .i64 pn) := (E2.out.blk).cell (o := 7) rfl
    have c_8 : w2.cell? ⟨w.heap.size, 8, none⟩ = some (.string name) := (E2.out.blk).cell (o := 8) rfl
    have c_9 : w2.cell? ⟨w.heap.size, 9, none⟩ = some (d) := (E2.out.blk).cell (o := 9) rfl
    have c_10 : w2.cell? ⟨w.heap.size, 10, none⟩ = some (s) := (E2.out.blk).cell (o := 10) rfl
    go_wp2_with fail
    refine (eNum E2.out kind (by have := F1.out; omega) (by simp)).mono ?_
    rintro e w3 ⟨rfl, v3, hE3⟩
    have E3 := Lib.hid hE3
    clear hE3 c_0 c_1 c_2 c_3 c_4 c_5 c_6 c_7 c_8 c_9 c_10
    have c_0 : w3.cell? ⟨w.heap.size, 0, none⟩ = some (.int .i64 time) := (E3.out.blk).cell (o := 0) rfl
    have c_1 : w3.cell? ⟨w.heap.size, 1, none⟩ = some (.int .i64 node) := (E3.out.blk).cell (o := 1) rfl
    have c_2 : w3.cell? ⟨w.heap.size, 2, none⟩ = some (.int .i64 seq) := (E3.out.blk).cell (o := 2) rfl
    have c_3 : w3.cell? ⟨w.heap.size, 3, none⟩ = some (.int .i64 kind) := (E3.out.blk).cell (o := 3) rfl
    have c_4 : w3.cell? ⟨w.heap.size, 4, none⟩ = some (.int .i64 ot) := (E3.out.blk).cell (o := 4) rfl
    have c_5 : w3.cell? ⟨w.heap.size, 5, none⟩ = some (.int .i64 on) := (E3.out.blk).cell (o := 5) rfl
    have c_6 : w3.cell? ⟨w.heap.size, 6, none⟩ = some (.int .i64 pt) := (E3.out.blk).cell (o := 6) rfl
    have c_7 : w3.cell? ⟨w.heap.size, 7, none⟩ = some (.int .i64 pn) := (E3.out.blk).cell (o := 7) rfl
    have c_8 : w3.cell? ⟨w.heap.size, 8, none⟩ = some (.string name) := (E3.out.blk).cell (o := 8) rfl
    have c_9 : w3.cell? ⟨w.heap.size, 9, none⟩ = some (d) := (E3.out.blk).cell (o := 9) rfl
    have c_10 : w3.cell? ⟨w.heap.size, 10, none⟩ = some (s) := (E3.out.blk).cell (o := 10) rfl
    go_wp2_with fail
    refine (eID E3.out time node F2.out (by simp; omega)).mono ?_
    rintro e w4 ⟨rfl, v4, hE4⟩
    have E4 := Lib.hid hE4
    clear hE4 c_0 c_1 c_2 c_3 c_4 c_5 c_6 c_7 c_8 c_9 c_10
    have c_0 : w4.cell? ⟨w.heap.size, 0, none⟩ = some (.int .i64 time) := (E4.out.blk).cell (o := 0) rfl
    have c_1 : w4.cell? ⟨w.heap.size, 1, none⟩ = some (.int .i64 node) := (E4.out.blk).cell (o := 1) rfl
    have c_2 : w4.cell? ⟨w.heap.size, 2, none⟩ = some (.int .i64 seq) := (E4.out.blk).cell (o := 2) rfl
    have c_3 : w4.cell? ⟨w.heap.size, 3, none⟩ = some (.int .i64 kind) := (E4.out.blk).cell (o := 3) rfl
    have c_4 : w4.cell? ⟨w.heap.size, 4, none⟩ = some (.int .i64 ot) := (E4.out.blk).cell (o := 4) rfl
    have c_5 : w4.cell? ⟨w.heap.size, 5, none⟩ = some (.int .i64 on) := (E4.out.blk).cell (o := 5) rfl
    have c_6 : w4.cell? ⟨w.heap.size, 6, none⟩ = some (.int .i64 pt) := (E4.out.blk).cell (o := 6) rfl
    have c_7 : w4.cell? ⟨w.heap.size, 7, none⟩ = some (.int .i64 pn) := (E4.out.blk).cell (o := 7) rfl
    have c_8 : w4.cell? ⟨w.heap.size, 8, none⟩ = some (.string name) := (E4.out.blk).cell (o := 8) rfl
    have c_9 : w4.cell? ⟨w.heap.size, 9, none⟩ = some (d) := (E4.out.blk).cell (o := 9) rfl
    have c_10 : w4.cell? ⟨w.heap.size, 10, none⟩ = some (s) := (E4.out.blk).cell (o := 10) rfl
    go_wp2_with fail
    refine (eNum E4.out seq (by have := F3.out; omega) (by simp; omega)).mono ?_
    rintro e w5 ⟨rfl, v5, hE5⟩
    have E5 := Lib.hid hE5
    clear hE5 c_0 c_1 c_2 c_3 c_4 c_5 c_6 c_7 c_8 c_9 c_10
    have c_0 : w5.cell? ⟨w.heap.size, 0, none⟩ = some (.int .i64 time) := (E5.out.blk).cell (o := 0) rfl
    have c_1 : w5.cell? ⟨w.heap.size, 1, none⟩ = some (.int .i64 node) := (E5.out.blk).cell (o := 1) rfl
    have c_2 : w5.cell? ⟨w.heap.size, 2, none⟩ = some (.int .i64 seq) := (E5.out.blk).cell (o := 2) rfl
    have c_3 : w5.cell? ⟨w.heap.size, 3, none⟩ = some (.int .i64 kind) := (E5.out.blk).cell (o := 3) rfl
    have c_4 : w5.cell? ⟨w.heap.size, 4, none⟩ = some (.int .i64 ot) := (E5.out.blk).cell (o := 4) rfl
    have c_5 : w5.cell? ⟨w.heap.size, 5, none⟩ = some (.int .i64 on) := (E5.out.blk).cell (o := 5) rfl
    have c_6 : w5.cell? ⟨w.heap.size, 6, none⟩ = some (.int .i64 pt) := (E5.out.blk).cell (o := 6) rfl
    have c_7 : w5.cell? ⟨w.heap.size, 7, none⟩ = some (.int .i64 pn) := (E5.out.blk).cell (o := 7) rfl
    have c_8 : w5.cell? ⟨w.heap.size, 8, none⟩ = some (.string name) := (E5.out.blk).cell (o := 8) rfl
    have c_9 : w5.cell? ⟨w.heap.size, 9, none⟩ = some (d) := (E5.out.blk).cell (o := 9) rfl
    have c_10 : w5.cell? ⟨w.heap.size, 10, none⟩ = some (s) := (E5.out.blk).cell (o := 10) rfl
    go_wp2_with fail
    refine (eID E5.out ot on F4.out (by simp; omega)).mono ?_
    rintro e w6 ⟨rfl, v6, hE6⟩
    have E6 := Lib.hid hE6
    clear hE6 c_0 c_1 c_2 c_3 c_4 c_5 c_6 c_7 c_8 c_9 c_10
    have c_0 : w6.cell? ⟨w.heap.size, 0, none⟩ = some (.int .i64 time) := (E6.out.blk).cell (o := 0) rfl
    have c_1 : w6.cell? ⟨w.heap.size, 1, none⟩ = some (.int .i64 node) := (E6.out.blk).cell (o := 1) rfl
    have c_2 : w6.cell? ⟨w.heap.size, 2, none⟩ = some (.int .i64 seq) := (E6.out.blk).cell (o := 2) rfl
    have c_3 : w6.cell? ⟨w.heap.size, 3, none⟩ = some (.int .i64 kind) := (E6.out.blk).cell (o := 3) rfl
    have c_4 : w6.cell? ⟨w.heap.size, 4, none⟩ = some (.int .i64 ot) := (E6.out.blk).cell (o := 4) rfl
    have c_5 : w6.cell? ⟨w.heap.size, 5, none⟩ = some (.int .i64 on) := (E6.out.blk).cell (o := 5) rfl
    have c_6 : w6.cell? ⟨w.heap.size, 6, none⟩ = some (.int .i64 pt) := (E6.out.blk).cell (o := 6) rfl
    have c_7 : w6.cell? ⟨w.heap.size, 7, none⟩ = some (.int .i64 pn) := (E6.out.blk).cell (o := 7) rfl
    have c_8 : w6.cell? ⟨w.heap.size, 8, none⟩ = some (.string name) := (E6.out.blk).cell (o := 8) rfl
    have c_9 : w6.cell? ⟨w.heap.size, 9, none⟩ = some (d) := (E6.out.blk).cell (o := 9) rfl
    have c_10 : w6.cell? ⟨w.heap.size, 10, none⟩ = some (s) := (E6.out.blk).cell (o := 10) rfl
    go_wp2_with fail
    refine (eID E6.out pt pn F5.out (by simp; omega)).mono ?_
    rintro e w7 ⟨rfl, v7, hE7⟩
    have E7 := Lib.hid hE7
    clear hE7 c_0 c_1 c_2 c_3 c_4 c_5 c_6 c_7 c_8 c_9 c_10
    have c_0 : w7.cell? ⟨w.heap.size, 0, none⟩ = some (.int .i64 time) := (E7.out.blk).cell (o := 0) rfl
    have c_1 : w7.cell? ⟨w.heap.size, 1, none⟩ = some (.int .i64 node) := (E7.out.blk).cell (o := 1) rfl
    have c_2 : w7.cell? ⟨w.heap.size, 2, none⟩ = some (.int .i64 seq) := (E7.out.blk).cell (o := 2) rfl
    have c_3 : w7.cell? ⟨w.heap.size, 3, none⟩ = some (.int .i64 kind) := (E7.out.blk).cell (o := 3) rfl
    have c_4 : w7.cell? ⟨w.heap.size, 4, none⟩ = some (.int .i64 ot) := (E7.out.blk).cell (o := 4) rfl
    have c_5 : w7.cell? ⟨w.heap.size, 5, none⟩ = some (.int .i64 on) := (E7.out.blk).cell (o := 5) rfl
    have c_6 : w7.cell? ⟨w.heap.size, 6, none⟩ = some (.int .i64 pt) := (E7.out.blk).cell (o := 6) rfl
    have c_7 : w7.cell? ⟨w.heap.size, 7, none⟩ = some (.int .i64 pn) := (E7.out.blk).cell (o := 7) rfl
    have c_8 : w7.cell? ⟨w.heap.size, 8, none⟩ = some (.string name) := (E7.out.blk).cell (o := 8) rfl
    have c_9 : w7.cell? ⟨w.heap.size, 9, none⟩ = some (d) := (E7.out.blk).cell (o := 9) rfl
    have c_10 : w7.cell? ⟨w.heap.size, 10, none⟩ = some (s) := (E7.out.blk).cell (o := 10) rfl
    go_wp2_with fail
    refine (eText E7.out name l12 (by simp; omega)).mono ?_
    rintro e w8 ⟨rfl, v8, hE8⟩
    have E8 := Lib.hid hE8
    clear hE8 c_0 c_1 c_2 c_3 c_4 c_5 c_6 c_7 c_8 c_9 c_10
    have c_0 : w8.cell? ⟨w.heap.size, 0, none⟩ = some (.int .i64 time) := (E8.out.blk).cell (o := 0) rfl
    have c_1 : w8.cell? ⟨w.heap.size, 1, none⟩ = some (.int .i64 node) := (E8.out.blk).cell (o := 1) rfl
    have c_2 : w8.cell? ⟨w.heap.size, 2, none⟩ = some (.int .i64 seq) := (E8.out.blk).cell (o := 2) rfl
    have c_3 : w8.cell? ⟨w.heap.size, 3, none⟩ = some (.int .i64 kind) := (E8.out.blk).cell (o := 3) rfl
    have c_4 : w8.cell? ⟨w.heap.size, 4, none⟩ = some (.int .i64 ot) := (E8.out.blk).cell (o := 4) rfl
    have c_5 : w8.cell? ⟨w.heap.size, 5, none⟩ = some (.int .i64 on) := (E8.out.blk).cell (o := 5) rfl
    have c_6 : w8.cell? ⟨w.heap.size, 6, none⟩ = some (.int .i64 pt) := (E8.out.blk).cell (o := 6) rfl
    have c_7 : w8.cell? ⟨w.heap.size, 7, none⟩ = some (.int .i64 pn) := (E8.out.blk).cell (o := 7) rfl
    have c_8 : w8.cell? ⟨w.heap.size, 8, none⟩ = some (.string name) := (E8.out.blk).cell (o := 8) rfl
    have c_9 : w8.cell? ⟨w.heap.size, 9, none⟩ = some (d) := (E8.out.blk).cell (o := 9) rfl
    have c_10 : w8.cell? ⟨w.heap.size, 10, none⟩ = some (s) := (E8.out.blk).cell (o := 10) rfl
    go_wp2_with fail
    refine (eBytes E8.out d data HD.out l13 (by simp; omega)).mono ?_
    rintro e w9 ⟨rfl, v9, hE9⟩
    have E9 := Lib.hid hE9
    clear hE9 c_0 c_1 c_2 c_3 c_4 c_5 c_6 c_7 c_8 c_9 c_10
    have c_0 : w9.cell? ⟨w.heap.size, 0, none⟩ = some (.int .i64 time) := (E9.out.blk).cell (o := 0) rfl
    have c_1 : w9.cell? ⟨w.heap.size, 1, none⟩ = some (.int .i64 node) := (E9.out.blk).cell (o := 1) rfl
    have c_2 : w9.cell? ⟨w.heap.size, 2, none⟩ = some (.int .i64 seq) := (E9.out.blk).cell (o := 2) rfl
    have c_3 : w9.cell? ⟨w.heap.size, 3, none⟩ = some (.int .i64 kind) := (E9.out.blk).cell (o := 3) rfl
    have c_4 : w9.cell? ⟨w.heap.size, 4, none⟩ = some (.int .i64 ot) := (E9.out.blk).cell (o := 4) rfl
    have c_5 : w9.cell? ⟨w.heap.size, 5, none⟩ = some (.int .i64 on) := (E9.out.blk).cell (o := 5) rfl
    have c_6 : w9.cell? ⟨w.heap.size, 6, none⟩ = some (.int .i64 pt) := (E9.out.blk).cell (o := 6) rfl
    have c_7 : w9.cell? ⟨w.heap.size, 7, none⟩ = some (.int .i64 pn) := (E9.out.blk).cell (o := 7) rfl
    have c_8 : w9.cell? ⟨w.heap.size, 8, none⟩ = some (.string name) := (E9.out.blk).cell (o := 8) rfl
    have c_9 : w9.cell? ⟨w.heap.size, 9, none⟩ = some (d) := (E9.out.blk).cell (o := 9) rfl
    have c_10 : w9.cell? ⟨w.heap.size, 10, none⟩ = some (s) := (E9.out.blk).cell (o := 10) rfl
    go_wp2_with fail
    refine (eVec E9.out s xs HS.out F6.out (by simp; omega)).mono ?_
    rintro e w10 ⟨rfl, v10, hE10⟩
    have E10 := Lib.hid hE10
    clear hE10 c_0 c_1 c_2 c_3 c_4 c_5 c_6 c_7 c_8 c_9 c_10
    have KD := Lib.hid (wDone p v10 _ false w10 E10.out.wr (by simp; omega))
    have HBE := Lib.hid E10.out.bel
    clear E2 E3 E4 E5 E6 E7 E8 E9 E10
    go_wp2_with fail
    refine KD.out.mono ?_
    rintro e w11 ⟨v11, rfl, ho, hb11⟩
    have HO := Lib.hid ho
    have HB11 := Lib.hid hb11
    clear ho hb11 KD
    go_wp2
    go_ret2
    exact ⟨v11, rfl, by have := own_down HO.out HBE.out.size; simpa using this, HBE.out.trans (HB11.out.mono HBE.out.size)⟩
end Go.Proofs.YthbalmoafpggdaaGreat

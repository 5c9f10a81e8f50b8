/- lagoonref3's writers. -/
import Derived.Test.YthbalmoafpggdaaChecked
import Derived.WalkKit
import Derived.Outline
import Derived.WalkSpells
import Derived.WalkLawsBesides
import Derived.Deep.QuietTactic
import Derived.Deep.RegionWith
import Derived.Deep.DeepMust
import Derived.BigQuiet
import Derived.Test.YthbalmoafpggdaaMem
import Derived.RegionTactic
import Derived.ChangeAlike
import Derived.StillTailTactics
import Derived.Deep.LoopGhost
import Derived.Test.YthbalmoafpggdaaCd4
import Derived.Test.YthbalmoafpggdaaVecI
namespace Go.Proofs.Ythbalmoafpggdaa
open Go.RowKit
set_option linter.unusedVariables false
set_option linter.unusedSimpArgs false
theorem own_ge {w : World} {B e s : Nat} {v : Value} {n : Nat} {xs : List Value} (h : w.ownsRow B e s v n xs) {k : Nat} (hk : v.ownBlock = some k) : B ≤ k := by
  rcases h.2 with ⟨rfl, _⟩ | ⟨g, c, cur, rfl, h1, _⟩
  · cases hk
  · injection hk with hk
    have hk : g = k := hk
    omega
theorem own_cast {w : World} {B e s : Nat} {v : Value} {n n' : Nat} {xs xs' : List Value} (h : w.ownsRow B e s v n xs) (hn : n = n') (hx : xs = xs') : w.ownsRow B e s v n' xs' := by subst hn hx; exact h
def RefPost (o : Option (List Int)) (w : World) (e : Ending) (w' : World) : Prop := ∃ v, e = .returned (.tuple #[v, .bool o.isSome]) ∧ w'.ownsRow w.heap.size 5 1 v (o.getD []).length ((o.getD []).map u8v) ∧ Below w.heap.size w w'
theorem refNumBad (n : Int) (w : World) (h : n < 0 ∨ 4611686018427387904 < n) : Calls Try.prog 72 #[.int .i64 n] w (RefPost none w) := by
  rcases h with h | h
  · go_enter Try.func72, Try.ntmps72
    go_wp2
    go_ret2
    exact ⟨_, rfl, World.ownsRow_nil _ _ _ _, Below.refl _ _⟩
  · have h0 : 0 ≤ n := by omega
    go_enter Try.func72, Try.ntmps72
    go_wp2
    go_ret2
    exact ⟨_, rfl, World.ownsRow_nil _ _ _ _, Below.refl _ _⟩
set_option maxHeartbeats 2000000 in
set_option maxRecDepth 100000 in
theorem refNumGood (n : Nat) (w : World) (hn : n ≤ 4611686018427387904) : Calls Try.prog 72 #[.int .i64 n] w (RefPost (some (numL n)) w) := by
  obtain ⟨i0, hi, hz0, hz1, hz2⟩ := info_parts Try.info5
  have hn0 : (0 : Int) ≤ n := by omega
  have hn1 : (n : Int) ≤ 4611686018427387904 := by omega
  have hd0 : decide ((n : Int) < 0) = false := decide_eq_false (by omega)
  have hd1 : decide (4611686018427387904 < (n : Int)) = false := decide_eq_false (by omega)
  go_enter Try.func72, Try.ntmps72
  go_wp2_with fail
  go_loopw [0, 4] (fun nv bv wr => ∃ m k out, nv = .int .i64 (m : Nat) ∧ out ++ numF k m = numL n ∧ m < 128 ^ k ∧ 1 ≤ k ∧ k ≤ 9 ∧ wr.ownsRow w.heap.size 5 1 bv out.length (out.map u8v) ∧ Below w.heap.size w wr) (fun nv _ _ => (intOf nv).toNat)
  case atStart => exact ⟨n, 9, [], rfl, rfl, by omega, by omega, by omega, World.ownsRow_nil _ _ _ _, Below.refl _ _⟩
  case round =>
    obtain ⟨m, k, out, rfl, hout, hmk, h1k, hk9, hown, hb⟩ := hrel
    have hol : out.length ≤ 9 := by have := congrArg List.length hout; have := numL_len n; simp at *; omega
    have hm63 : m < 9223372036854775808 := Nat.lt_of_lt_of_le hmk (Nat.pow_le_pow_right (by omega) hk9)
    obtain ⟨va, vc, rfl, hv1, hv2, _⟩ := own_shape hown
    have HB := Lib.hid hb
    have hbs := hb.size
    by_cases hm : 127 < m
    · obtain ⟨k, rfl⟩ : ∃ j, k = j + 1 := ⟨k - 1, by omega⟩
      have HO : Hid (out ++ (((m % 128 + 128 : Nat) : Int) :: numF k (m / 128)) = numL n) := Lib.hid (by rw [← hout, numF_step k m hm])
      have HK : Hid (m / 128 < 128 ^ k) := Lib.hid (by rw [Nat.div_lt_iff_lt_mul (by omega), ← Nat.pow_succ]; exact hmk)
      clear hout hmk
      go_wp2_with (at_builtin; refine wpList_append_own_at _ rfl _ _ 24 rfl w.heap.size 5 i0 (.int .u8 0) 1 1 Try.underlying24 hi hz0 hz1 hz2 rfl (by decide) _ _ _ rfl (hown.alloc _) ⟨wr.heap.size, 0, none⟩ 1 1 [.int .u8 (128 + (m : Int) % 128)] rfl rfl ?c1 ?c2 ?c3 ?c4 ?c5 ?_)
      case c1 => exact cell_one_new _ _ _
      case c2 => intro u hu; simp at hu; subst hu; rfl
      case c3 => unfold maxLen; omega
      case c4 => omega
      case c5 => simp; omega
      intro v2 w2 o2 g2 _ b2
      have HB2 := Lib.hid (Below.grown (Below.alloc HB.out hbs _) g2 (by simp; omega) (fun k hk => own_ge hown hk))
      obtain ⟨v2a, v2c, rfl, _⟩ := own_shape o2
      have O2 := Lib.hid o2
      clear o2 g2 b2 hown hb
      go_wp2
      go_roundw
      case rel => exact ⟨m / 128, k, out ++ [((m % 128 + 128 : Nat) : Int)], by go_num, by simpa using HO.out, HK.out, by rcases Nat.eq_zero_or_pos k with rfl | h; (have := HK.out; simp at this; omega); exact h, by omega, own_cast O2.out (by simp) (by rw [List.map_append]; simp [u8v]; omega), HB2.out⟩
      case measure => simp [intOf]; omega
    · have HO : Hid (out ++ [(m : Int)] = numL n) := Lib.hid (by rw [← hout, numF_small k m (by omega) h1k])
      clear hout hmk
      go_wp2_with (at_builtin; refine wpList_append_own_at _ rfl _ _ 24 rfl w.heap.size 5 i0 (.int .u8 0) 1 1 Try.underlying24 hi hz0 hz1 hz2 rfl (by decide) _ _ _ rfl (hown.alloc _) ⟨wr.heap.size, 0, none⟩ 1 1 [.int .u8 (m : Int)] rfl rfl ?c1 ?c2 ?c3 ?c4 ?c5 ?_)
      case c1 => exact cell_one_new _ _ _
      case c2 => intro u hu; simp at hu; subst hu; rfl
      case c3 => unfold maxLen; omega
      case c4 => omega
      case c5 => simp; omega
      intro v2 w2 o2 g2 _ b2
      have HB2 := Lib.hid (Below.grown (Below.alloc HB.out hbs _) g2 (by simp; omega) (fun k hk => own_ge hown hk))
      obtain ⟨v2a, v2c, rfl, _⟩ := own_shape o2
      have O2 := Lib.hid o2
      clear o2 g2 b2 hown hb
      go_wp2
      go_ret2
      exact ⟨_, rfl, own_cast O2.out (by rw [← HO.out]; simp) (by rw [← HO.out]; simp [u8v]), HB2.out⟩
theorem refNum (n : Int) (w : World) : Calls Try.prog 72 #[.int .i64 n] w (RefPost (numW n) w) := by
  by_cases hok : 0 ≤ n ∧ n ≤ 4611686018427387904
  · obtain ⟨k, rfl⟩ := Int.eq_ofNat_of_zero_le hok.1
    have e : numW (k : Int) = some (numL k) := by unfold numW; rw [if_pos hok]; rfl
    rw [e]
    exact refNumGood k w (by omega)
  · have e : numW n = none := by unfold numW; rw [if_neg hok]
    rw [e]
    exact refNumBad n w (by omega)
set_option maxHeartbeats 2000000 in
set_option maxRecDepth 100000 in
theorem refBytes (x : Value) (xs : List Int) (w : World) (hx : Rdv u8v w x xs) : Calls Try.prog 73 #[x] w (RefPost (bytesW xs) w) := by
  obtain ⟨i0, hi, hz0, hz1, hz2⟩ := info_parts Try.info5
  obtain ⟨xa, xn, xc, rfl⟩ := hx.shape
  obtain ⟨rfl, h1, h2, h3⟩ := hx.cap
  unfold maxLen at h2
  by_cases hlen : xs.length ≤ 65536
  · have hle : decide ((65536 : Int) < (xs.length : Int)) = false := decide_eq_false (by omega)
    have HB : Hid (bytesW xs = some (numL xs.length ++ xs)) := Lib.hid (by unfold bytesW; rw [if_pos hlen])
    have HX := Lib.hid hx
    have KN := Lib.hid (refNumGood xs.length w (by omega))
    clear h3 hx
    go_enter Try.func73, Try.ntmps73
    go_wp2_with fail
    refine KN.out.mono ?_
    rintro e w1 ⟨v1, rfl, o1, b1⟩
    simp only [Option.getD_some] at o1
    have hl9 := numL_len xs.length
    have B1 := Lib.hid b1
    have hx1 := HX.out.below b1
    have hbs := b1.size
    obtain ⟨L, hL⟩ : ∃ L, L = numL xs.length := ⟨_, rfl⟩
    rw [← hL] at o1 hl9
    have HL := Lib.hid hL
    clear hL b1
    obtain ⟨va, vc, rfl, hv1, hv2, _⟩ := own_shape o1
    go_wp2_with (at_builtin; refine wpList_append_rd rfl _ _ 24 rfl w.heap.size 5 i0 (.int .u8 0) 1 Try.underlying24 hi hz0 hz1 hz2 rfl _ _ _ rfl o1 (.slice xa xs.length xc) u8v xs rfl hx1 (fun _ => rfl) ?c1 ?c2 ?c3 ?_)
    case c1 => unfold maxLen; omega
    case c2 => omega
    case c3 => omega
    intro v3 w3 o3 g3 b3
    have HB3 := Lib.hid (Below.grown B1.out g3 hbs (fun k hk => own_ge o1 hk))
    obtain ⟨v3a, v3c, rfl, _⟩ := own_shape o3
    have O3 := Lib.hid o3
    clear o3 g3 b3 o1 hx1
    go_wp2
    go_ret2
    rw [HB.out]
    exact ⟨_, rfl, own_cast O3.out (by rw [HL.out]; simp) (by rw [HL.out]; simp), HB3.out⟩
  · have hle : decide ((65536 : Int) < (xs.length : Int)) = true := decide_eq_true (by omega)
    have HB : Hid (bytesW xs = none) := Lib.hid (by unfold bytesW; rw [if_neg hlen])
    clear h3 hx hlen
    go_enter Try.func73, Try.ntmps73
    go_wp2
    go_ret2
    rw [HB.out]
    exact ⟨_, rfl, World.ownsRow_nil _ _ _ _, Below.refl _ _⟩
theorem refTruth (q : Bool) (w : World) : Calls Try.prog 75 #[.bool q] w fun e w' => ∃ v, e = .returned v ∧ w'.ownsRow w.heap.size 5 1 v (truthW q).length ((truthW q).map u8v) ∧ Below w.heap.size w w' := by
  cases q
  all_goals
    go_enter Try.func75, Try.ntmps75
    go_wp2
    go_ret
    exact ⟨_, rfl, World.ownsRow_lit _ _ 1 (Nat.le_refl _) (by decide) rfl, (Below.refl _ _).alloc (Nat.le_refl _) _⟩
end Go.Proofs.Ythbalmoafpggdaa

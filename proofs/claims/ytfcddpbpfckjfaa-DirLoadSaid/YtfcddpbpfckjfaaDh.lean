/- container/heap over names. -/
import Derived.Test.YtfcddpbpfckjfaaChecked
import Derived.WalkKit
import Derived.Outline
import Derived.WalkSpells
import Derived.WalkLawsBesides
import Derived.Deep.QuietTactic
import Derived.Deep.RegionWith
import Derived.Deep.DeepMust
import Derived.BigQuiet
import Derived.Test.YtfcddpbpfckjfaaMem
import Derived.RegionTactic
import Derived.ChangeAlike
import Derived.StillTailTactics
import Derived.BigRegion
import Derived.Deep.RegionHeld3
import Derived.Deep.RegionLaw
import Derived.Test.YtfcddpbpfckjfaaHpP
namespace Go.Proofs.Ytfcddpbpfckjfaa
open Go.RowKit
set_option linter.unusedVariables false
set_option linter.unusedSimpArgs false
open Hq
theorem chg_drw {S : Nat → Prop} {a w w' : World} (h : Chg S a w) (d : Drw w w') : Chg S a w' := by
  obtain ⟨n, rfl⟩ := d
  exact h.drewN n
def HPost {α : Type} [Inhabited α] (lt : α → α → Bool) (xs : Array α) (R : World → Array α → Prop) (S : Nat → Prop) (w : World) (e : Ending) (w' : World) : Prop :=
  e = .returned (.tuple #[]) ∧ ∃ ys, R w' ys ∧ ys.size = xs.size ∧ ys.toList.Perm xs.toList ∧ IsHeap lt ys ys.size ∧ Chg S w w'
def UpRel {α : Type} [Inhabited α] (lt : α → α → Bool) (xs : Array α) (R : World → Array α → Prop) (S : Nat → Prop) (w : World) (j : Nat) (wr : World) : Prop :=
  ∃ ys, R wr ys ∧ ys.size = xs.size ∧ j < xs.size ∧ ys.toList.Perm xs.toList ∧ UpInv lt ys j ∧ Chg S w wr
def DRel {α : Type} [Inhabited α] (lt : α → α → Bool) (xs : Array α) (R : World → Array α → Prop) (S : Nat → Prop) (w : World) (n i : Nat) (wr : World) : Prop :=
  ∃ ys, R wr ys ∧ ys.size = xs.size ∧ i ≤ n ∧ ys.toList.Perm xs.toList ∧ DnInv lt ys n i ∧ (∀ k, n ≤ k → ys[k]! = xs[k]!) ∧ Chg S w wr
def DPost {α : Type} [Inhabited α] (lt : α → α → Bool) (xs : Array α) (R : World → Array α → Prop) (S : Nat → Prop) (n : Nat) (w : World) (e : Ending) (w' : World) : Prop :=
  ∃ b, e = .returned (.bool b) ∧ ∃ ys, R w' ys ∧ ys.size = xs.size ∧ ys.toList.Perm xs.toList ∧ IsHeap lt ys n ∧ (∀ k, n ≤ k → ys[k]! = xs[k]!) ∧ Chg S w w'
theorem kid_one {α : Type} [Inhabited α] {lt : α → α → Bool} (O : Ord lt) {ys : Array α} {n i a : Nat} (ha : 2 * i + 1 = a) (hn : n ≤ a + 1) : ∀ c, 0 < c → c < n → (c - 1) / 2 = i → lt ys[c]! ys[a]! = false := by
  intro c c0 c1 c2
  obtain rfl : c = a := by omega
  exact O.irrefl _
theorem kid_two {α : Type} [Inhabited α] {lt : α → α → Bool} (O : Ord lt) {ys : Array α} {n i a b : Nat} (ha : 2 * i + 1 = a) (hb : a + 1 = b) (h : lt ys[b]! ys[a]! = true) : ∀ c, 0 < c → c < n → (c - 1) / 2 = i → lt ys[c]! ys[b]! = false := by
  intro c c0 c1 c2
  rcases (show c = a ∨ c = b by omega) with rfl | rfl
  · exact O.asymm _ _ h
  · exact O.irrefl _
theorem kid_two' {α : Type} [Inhabited α] {lt : α → α → Bool} (O : Ord lt) {ys : Array α} {n i a b : Nat} (ha : 2 * i + 1 = a) (hb : a + 1 = b) (h : lt ys[b]! ys[a]! = false) : ∀ c, 0 < c → c < n → (c - 1) / 2 = i → lt ys[c]! ys[a]! = false := by
  intro c c0 c1 c2
  rcases (show c = a ∨ c = b by omega) with rfl | rfl
  · exact O.irrefl _
  · exact h
theorem kid_done {α : Type} [Inhabited α] {lt : α → α → Bool} (O : Ord lt) {ys : Array α} {n i a : Nat} (hk : ∀ c, 0 < c → c < n → (c - 1) / 2 = i → lt ys[c]! ys[a]! = false) (h : lt ys[a]! ys[i]! = false) : ∀ c, 0 < c → c < n → (c - 1) / 2 = i → lt ys[c]! ys[i]! = false :=
  fun c c0 c1 c2 => O.trans _ _ _ h (hk c c0 c1 c2)
theorem sw_far {α : Type} [Inhabited α] {xs ys : Array α} {i j n : Nat} (hi : i < n) (hj : j < n) (hn : n ≤ ys.size) (h : ∀ k, n ≤ k → ys[k]! = xs[k]!) : ∀ k, n ≤ k → (sw ys i j)[k]! = xs[k]! := by
  intro k hk
  rw [sw_get _ _ _ (by omega) (by omega), if_neg (by omega), if_neg (by omega)]
  exact h k hk
def PushMid {α : Type} [Inhabited α] (Hp : (World → Array α → Prop) → (Nat → Prop) → Prop) (Q : World → Array α → Prop) (S0 : Nat → Prop) (xs : Array α) (w : World) (e : Ending) (w' : World) : Prop :=
  e = .returned (.tuple #[]) ∧ ∃ R S, Hp R S ∧ R w' xs ∧ Chg S0 w w' ∧ (∀ i, i < w.heap.size → S i → S0 i) ∧ ∀ w2 ys, ys.size = xs.size → R w2 ys → Q w2 ys
def PushPost {α : Type} [Inhabited α] (lt : α → α → Bool) (Q : World → Array α → Prop) (S0 : Nat → Prop) (xs : Array α) (w : World) (e : Ending) (w' : World) : Prop :=
  e = .returned (.tuple #[]) ∧ ∃ ys, Q w' ys ∧ ys.size = xs.size ∧ ys.toList.Perm xs.toList ∧ IsHeap lt ys ys.size ∧ Chg S0 w w'
def PopMid {α : Type} [Inhabited α] (V : World → Value → α → Prop) (Q : World → Array α → Prop) (S : Nat → Prop) (ys : Array α) (n : Nat) (w : World) (e : Ending) (w' : World) : Prop :=
  ∃ v, e = .returned v ∧ V w' v ys[n]! ∧ Q w' ys.pop ∧ Chg S w w'
def PopPost {α : Type} [Inhabited α] (lt : α → α → Bool) (V : World → Value → α → Prop) (Q : World → Array α → Prop) (S : Nat → Prop) (xs : Array α) (w : World) (e : Ending) (w' : World) : Prop :=
  ∃ v ys, e = .returned v ∧ V w' v xs[0]! ∧ Q w' ys ∧ ys.size + 1 = xs.size ∧ (xs[0]! :: ys.toList).Perm xs.toList ∧ IsHeap lt ys ys.size ∧ Chg S w w'
theorem pop_perm {α : Type} [Inhabited α] {xs ys zs : Array α} {n : Nat} (hn : n + 1 = xs.size) (hz : zs.size = xs.size) (h0 : zs[n]! = xs[0]!) (hp : zs.toList.Perm xs.toList) : (xs[0]! :: zs.pop.toList).Perm xs.toList := by
  refine List.Perm.trans ?_ hp
  rw [pop_list (xs := zs) (n := n) (by omega), h0]
  exact (List.perm_append_comm (l₁ := [xs[0]!]))
structure nsHp {α : Type} [Inhabited α] (lt : α → α → Bool) (rv : Value) (R : World → Array α → Prop) (S : Nat → Prop) : Prop where
  drw : ∀ w w' xs, Drw w w' → R w xs → R w' xs
  mless : ∀ w xs, R w xs → ∃ recv, (method 327 105 rv "Less").run Try.prog w = .ok (161, recv) w ∧ ∀ i j : Nat, i < xs.size → j < xs.size → Calls Try.prog 161 #[recv, .int .i64 i, .int .i64 j] w fun e w' => e = .returned (.bool (lt xs[i]! xs[j]!)) ∧ Drw w w'
  mlen : ∀ w xs, R w xs → ∃ recv, (method 327 105 rv "Len").run Try.prog w = .ok (56, recv) w ∧ Calls Try.prog 56 #[recv] w fun e w' => e = .returned (.int .i64 xs.size) ∧ Drw w w'
  mswap : ∀ w xs, R w xs → ∃ recv, (method 327 105 rv "Swap").run Try.prog w = .ok (164, recv) w ∧ ∀ i j : Nat, i < xs.size → j < xs.size → Calls Try.prog 164 #[recv, .int .i64 i, .int .i64 j] w fun e w' => e = .returned (.tuple #[]) ∧ R w' (sw xs i j) ∧ Chg S w w'
set_option maxRecDepth 100000 in
set_option maxHeartbeats 2000000 in
theorem nsUp {α : Type} [Inhabited α] {lt : α → α → Bool} {rv : Value} {R : World → Array α → Prop} {S : Nat → Prop} (H : nsHp lt rv R S) (O : Ord lt) (xs : Array α) (j : Nat) (w : World) (hR : R w xs) (hj : j < xs.size) (hz : xs.size ≤ 1000000000000) (hu : UpInv lt xs j) :
    Calls Try.prog 77 #[.iface 105 rv, .int .i64 j] w (HPost lt xs R S w) := by
  have h0 : UpRel lt xs R S w j w := ⟨xs, hR, rfl, hj, .refl _, hu, Chg.refl _ _⟩
  clear hR hu
  go_enter Try.func77, Try.ntmps77
  go_wp2
  go_loopw [1] (fun jv wr => ∃ j : Nat, jv = .int .i64 j ∧ UpRel lt xs R S w j wr) (fun jv _ => (intOf jv).toNat)
  case atStart => exact ⟨j, rfl, h0⟩
  case round =>
    clear h0 hj
    obtain ⟨j, rfl, hrel⟩ := hrel
    obtain ⟨ys, hR, hs, hj, hp, hu, hc⟩ := hrel
    rcases Nat.eq_zero_or_pos j with rfl | hpos
    · have hd := up_done hu (.inl rfl)
      have HD := Lib.hid hd
      have HS := Lib.hid hs
      clear hd hs hu
      go_wp2
      go_end0
      exact ⟨rfl, ys, hR, HS.out, hp, HD.out, hc⟩
    · obtain ⟨i, hi⟩ : ∃ i, (j - 1) / 2 = i := ⟨_, rfl⟩
      have hij : i < j := by omega
      have hi2 : ((j : Int) - 1) / 2 = (i : Int) := by omega
      have hne : ((i : Int) == (j : Int)) = false := beq_eq_false_iff_ne.2 (by omega)
      obtain ⟨rcv, hm, hcall⟩ := H.mless _ _ hR
      have KL := Lib.hid (hcall j i (by omega) (by omega))
      have HR := Lib.hid hR
      have HI := Lib.hid hi
      have HS := Lib.hid hs
      clear hcall hR hi hs
      go_wp2_with fail
      refine KL.out.mono ?_
      rintro e w1 ⟨rfl, hD⟩
      clear hm KL
      have hR2 := H.drw _ _ _ hD HR.out
      clear HR
      cases hb : lt ys[j]! ys[i]!
      · have hd := up_done hu (.inr (by rw [HI.out]; exact hb))
        have HD := Lib.hid hd
        clear hd hu hb
        go_wp2
        go_end0
        exact ⟨rfl, ys, hR2, HS.out, hp, HD.out, chg_drw hc hD⟩
      · have hu2 := up_step O (by rw [HS.out]; exact hj) hpos HI.out hb hu
        obtain ⟨rcv2, hm2, hcall2⟩ := H.mswap _ _ hR2
        have KS := Lib.hid (hcall2 i j (by have := HS.out; omega) (by have := HS.out; omega))
        have HU := Lib.hid hu2
        have HP := Lib.hid ((sw_perm ys i j (by have := HS.out; omega) (by have := HS.out; omega)).trans hp)
        clear hcall2 hu2 hb hu hR2 hp
        go_wp2_with fail
        refine KS.out.mono ?_
        rintro e w2 ⟨rfl, hR3, hc3⟩
        have HR3 := Lib.hid hR3
        have HC3 := Lib.hid ((chg_drw hc hD).trans hc3)
        clear hm2 KS hc3 hc hR3
        go_wp2
        go_roundw
        case rel => exact ⟨i, rfl, _, HR3.out, by rw [sw_size]; exact HS.out, by omega, HP.out, HU.out, HC3.out⟩
        case measure => simp [intOf]; omega
set_option maxRecDepth 100000 in
set_option maxHeartbeats 2000000 in
theorem nsDown {α : Type} [Inhabited α] {lt : α → α → Bool} {rv : Value} {R : World → Array α → Prop} {S : Nat → Prop} (H : nsHp lt rv R S) (O : Ord lt) (xs : Array α) (i n : Nat) (w : World) (hR : R w xs) (hi : i ≤ n) (hn : n ≤ xs.size) (hz : xs.size ≤ 1000000000000) (hu : DnInv lt xs n i) :
    Calls Try.prog 76 #[.iface 105 rv, .int .i64 i, .int .i64 n] w (DPost lt xs R S n w) := by
  have h0 : DRel lt xs R S w n i w := ⟨xs, hR, rfl, hi, .refl _, hu, fun _ _ => rfl, Chg.refl _ _⟩
  clear hR hu
  go_enter Try.func76, Try.ntmps76
  go_wp2
  go_loopw [7] (fun iv wr => ∃ j : Nat, i ≤ j ∧ iv = .int .i64 j ∧ DRel lt xs R S w n j wr) (fun iv _ => n - (intOf iv).toNat)
  case atStart => exact ⟨i, Nat.le_refl _, rfl, h0⟩
  case round =>
    clear h0 hi
    obtain ⟨i2, hi0, rfl, hrel⟩ := hrel
    obtain ⟨i1, rfl⟩ : ∃ i1, i1 = i := ⟨_, rfl⟩
    obtain ⟨i, rfl⟩ : ∃ i, i = i2 := ⟨_, rfl⟩
    obtain ⟨ys, hR, hs, hj, hp, hu, hf, hc⟩ := hrel
    have HS := Lib.hid hs
    have HV := Lib.hid hu
    have HP := Lib.hid hp
    have HF := Lib.hid hf
    have HC := Lib.hid hc
    clear hs hu hp hf hc
    obtain ⟨a, ha⟩ : ∃ a, 2 * i + 1 = a := ⟨_, rfl⟩
    obtain ⟨b, hb⟩ : ∃ b, a + 1 = b := ⟨_, rfl⟩
    have ha2 : 2 * (i : Int) + 1 = (a : Int) := by omega
    have hb2 : (a : Int) + 1 = (b : Int) := by omega
    have HA := Lib.hid ha
    have HB := Lib.hid hb
    have a1 : 2 * i + 1 ≤ a := by omega
    have a2 : a ≤ 2 * i + 1 := by omega
    have b1 : a + 1 ≤ b := by omega
    have b2 : b ≤ a + 1 := by omega
    clear ha hb
    by_cases hlt : a < n
    · by_cases hlt2 : b < n
      · obtain ⟨rcv, hm, hcall⟩ := H.mless _ _ hR
        have KL := Lib.hid (hcall b a (by have := HS.out; omega) (by have := HS.out; omega))
        have HR := Lib.hid hR
        clear hcall hR
        go_wp2_with fail
        refine KL.out.mono ?_
        rintro e w1 ⟨rfl, hD⟩
        clear hm KL
        have hR := H.drw _ _ _ hD HR.out
        clear HR
        have HC' := Lib.hid (chg_drw HC.out hD)
        clear HC
        have HC := Lib.hid HC'.out
        clear HC'
        cases hb3 : lt ys[b]! ys[a]!
        · have HK := Lib.hid (kid_two' O (n := n) HA.out HB.out hb3)
          clear hb3
          obtain ⟨rcv3, hm3, hcall3⟩ := H.mless _ _ hR
          have KL := Lib.hid (hcall3 a i (by have := HS.out; omega) (by have := HS.out; omega))
          have HR := Lib.hid hR
          clear hcall3 hR
          go_wp2_with fail
          refine KL.out.mono ?_
          rintro e w4 ⟨rfl, hD4⟩
          clear hm3 KL
          have hR2 := H.drw _ _ _ hD4 HR.out
          clear HR
          cases hb : lt ys[a]! ys[i]!
          · have HD := Lib.hid (dn_done HV.out (kid_done O HK.out hb))
            clear hb
            go_wp2
            go_ret
            exact ⟨_, rfl, ys, hR2, HS.out, HP.out, HD.out, HF.out, chg_drw HC.out hD4⟩
          · have HU := Lib.hid (dn_step O (by have := HS.out; omega) (by omega) (by omega) (by omega) hb HK.out HV.out)
            obtain ⟨rcv2, hm2, hcall2⟩ := H.mswap _ _ hR2
            have KS := Lib.hid (hcall2 i a (by have := HS.out; omega) (by have := HS.out; omega))
            have HP2 := Lib.hid ((sw_perm ys i a (by have := HS.out; omega) (by have := HS.out; omega)).trans HP.out)
            have HF2 := Lib.hid (sw_far (i := i) (j := a) (by omega) (by omega) (by have := HS.out; omega) HF.out)
            clear hcall2 hb hR2
            go_wp2_with fail
            refine KS.out.mono ?_
            rintro e w5 ⟨rfl, hR3, hc3⟩
            have HR3 := Lib.hid hR3
            have HC3 := Lib.hid ((chg_drw HC.out hD4).trans hc3)
            clear hm2 KS hc3 hR3
            go_wp2
            go_roundw
            case rel => exact ⟨a, by omega, rfl, _, HR3.out, by rw [sw_size]; exact HS.out, by omega, HP2.out, HU.out, HF2.out, HC3.out⟩
            case measure => simp [intOf]; omega
        · have HK := Lib.hid (kid_two O (n := n) HA.out HB.out hb3)
          clear hb3
          obtain ⟨rcv3, hm3, hcall3⟩ := H.mless _ _ hR
          have KL := Lib.hid (hcall3 b i (by have := HS.out; omega) (by have := HS.out; omega))
          have HR := Lib.hid hR
          clear hcall3 hR
          go_wp2_with fail
          refine KL.out.mono ?_
          rintro e w4 ⟨rfl, hD4⟩
          clear hm3 KL
          have hR2 := H.drw _ _ _ hD4 HR.out
          clear HR
          cases hb : lt ys[b]! ys[i]!
          · have HD := Lib.hid (dn_done HV.out (kid_done O HK.out hb))
            clear hb
            go_wp2
            go_ret
            exact ⟨_, rfl, ys, hR2, HS.out, HP.out, HD.out, HF.out, chg_drw HC.out hD4⟩
          · have HU := Lib.hid (dn_step O (by have := HS.out; omega) (by omega) (by omega) (by omega) hb HK.out HV.out)
            obtain ⟨rcv2, hm2, hcall2⟩ := H.mswap _ _ hR2
            have KS := Lib.hid (hcall2 i b (by have := HS.out; omega) (by have := HS.out; omega))
            have HP2 := Lib.hid ((sw_perm ys i b (by have := HS.out; omega) (by have := HS.out; omega)).trans HP.out)
            have HF2 := Lib.hid (sw_far (i := i) (j := b) (by omega) (by omega) (by have := HS.out; omega) HF.out)
            clear hcall2 hb hR2
            go_wp2_with fail
            refine KS.out.mono ?_
            rintro e w5 ⟨rfl, hR3, hc3⟩
            have HR3 := Lib.hid hR3
            have HC3 := Lib.hid ((chg_drw HC.out hD4).trans hc3)
            clear hm2 KS hc3 hR3
            go_wp2
            go_roundw
            case rel => exact ⟨b, by omega, rfl, _, HR3.out, by rw [sw_size]; exact HS.out, by omega, HP2.out, HU.out, HF2.out, HC3.out⟩
            case measure => simp [intOf]; omega
      · have HK := Lib.hid (kid_one O (ys := ys) (n := n) HA.out (by omega))
        obtain ⟨rcv3, hm3, hcall3⟩ := H.mless _ _ hR
        have KL := Lib.hid (hcall3 a i (by have := HS.out; omega) (by have := HS.out; omega))
        have HR := Lib.hid hR
        clear hcall3 hR
        go_wp2_with fail
        refine KL.out.mono ?_
        rintro e w4 ⟨rfl, hD4⟩
        clear hm3 KL
        have hR2 := H.drw _ _ _ hD4 HR.out
        clear HR
        cases hb : lt ys[a]! ys[i]!
        · have HD := Lib.hid (dn_done HV.out (kid_done O HK.out hb))
          clear hb
          go_wp2
          go_ret
          exact ⟨_, rfl, ys, hR2, HS.out, HP.out, HD.out, HF.out, chg_drw HC.out hD4⟩
        · have HU := Lib.hid (dn_step O (by have := HS.out; omega) (by omega) (by omega) (by omega) hb HK.out HV.out)
          obtain ⟨rcv2, hm2, hcall2⟩ := H.mswap _ _ hR2
          have KS := Lib.hid (hcall2 i a (by have := HS.out; omega) (by have := HS.out; omega))
          have HP2 := Lib.hid ((sw_perm ys i a (by have := HS.out; omega) (by have := HS.out; omega)).trans HP.out)
          have HF2 := Lib.hid (sw_far (i := i) (j := a) (by omega) (by omega) (by have := HS.out; omega) HF.out)
          clear hcall2 hb hR2
          go_wp2_with fail
          refine KS.out.mono ?_
          rintro e w5 ⟨rfl, hR3, hc3⟩
          have HR3 := Lib.hid hR3
          have HC3 := Lib.hid ((chg_drw HC.out hD4).trans hc3)
          clear hm2 KS hc3 hR3
          go_wp2
          go_roundw
          case rel => exact ⟨a, by omega, rfl, _, HR3.out, by rw [sw_size]; exact HS.out, by omega, HP2.out, HU.out, HF2.out, HC3.out⟩
          case measure => simp [intOf]; omega
    · have HD := Lib.hid (dn_done HV.out (fun c c0 c1 c2 => by omega))
      have HR := Lib.hid hR
      clear hR
      go_wp2
      go_ret
      exact ⟨_, rfl, ys, HR.out, HS.out, HP.out, HD.out, HF.out, HC.out⟩
set_option maxRecDepth 100000 in
set_option maxHeartbeats 2000000 in
theorem nsPush {α : Type} [Inhabited α] {lt : α → α → Bool} {rv : Value} {Q : World → Array α → Prop} {S0 : Nat → Prop} (O : Ord lt) (xs : Array α) (a : α) (x : Value) (w : World) (hh : IsHeap lt xs xs.size) (hz : xs.size + 1 ≤ 1000000000000)
    (hp : ∃ recv, (method 327 105 rv "Push").run Try.prog w = .ok (163, recv) w ∧ Calls Try.prog 163 #[recv, x] w (PushMid (nsHp lt rv) Q S0 (xs.push a) w)) :
    Calls Try.prog 52 #[.iface 105 rv, x] w (PushPost lt Q S0 (xs.push a) w) := by
  obtain ⟨recv, hm, hcall⟩ := hp
  have KP := Lib.hid hcall
  have HH := Lib.hid hh
  have hsz : xs.size < (xs.push a).size := by simp
  have hsz1 : (xs.push a).size ≤ xs.size + 1 := by simp
  generalize hzs : xs.push a = zs at *
  have HZ := Lib.hid hzs
  clear hcall hh hzs
  go_enter Try.func52, Try.ntmps52
  go_wp2_with fail
  refine KP.out.mono ?_
  rintro e w1 ⟨rfl, R, S, H, hR, hc, hS, hQ⟩
  have HC := Lib.hid hc
  have HS := Lib.hid hS
  have HQ := Lib.hid hQ
  clear hm KP hc hS hQ
  obtain ⟨rcv, hm, hcall⟩ := H.mlen _ _ hR
  have KL := Lib.hid hcall
  have HR := Lib.hid hR
  clear hcall hR
  have hk : (zs.size : Int) - 1 = (xs.size : Int) := by omega
  go_wp2_with fail
  refine KL.out.mono ?_
  rintro e w2 ⟨rfl, hD⟩
  clear hm KL
  have KU := Lib.hid (nsUp H O zs xs.size w2 (H.drw _ _ _ hD HR.out) hsz (by omega) (up_begin _ (by omega) (by rw [← HZ.out]; exact heap_push a HH.out)))
  go_wp2_with fail
  refine KU.out.mono ?_
  rintro e w3 ⟨rfl, ys, h1, h2, h3, h4, h5⟩
  have H1 := Lib.hid (⟨ys, HQ.out _ _ h2 h1, h2, h3, h4, (HC.out.trans (chg_drw (Chg.refl _ _) hD)).trans' h5 HS.out⟩ : ∃ ys, Q w3 ys ∧ ys.size = zs.size ∧ ys.toList.Perm zs.toList ∧ IsHeap lt ys ys.size ∧ Chg S0 w w3)
  clear h1 h2 h3 h4 h5
  go_wp2
  go_end0
  exact ⟨rfl, H1.out⟩
set_option maxRecDepth 100000 in
set_option maxHeartbeats 2000000 in
theorem nsPop {α : Type} [Inhabited α] {lt : α → α → Bool} {rv : Value} {R : World → Array α → Prop} {S : Nat → Prop} {V : World → Value → α → Prop} {Q : World → Array α → Prop} (H : nsHp lt rv R S) (O : Ord lt) (xs : Array α) (n : Nat) (w : World) (hR : R w xs) (hn : n + 1 = xs.size) (hz : xs.size ≤ 1000000000000) (hh : IsHeap lt xs xs.size)
    (hp : ∀ w ys, R w ys → ys.size = n + 1 → ∃ recv, (method 327 105 rv "Pop").run Try.prog w = .ok (162, recv) w ∧ Calls Try.prog 162 #[recv] w (PopMid V Q S ys n w)) :
    Calls Try.prog 50 #[.iface 105 rv] w (PopPost lt V Q S xs w) := by
  have HP := Lib.hid hp
  have HH := Lib.hid hh
  have HN := Lib.hid hn
  have hn1 : n < xs.size := by omega
  have hn2 : xs.size ≤ n + 1 := by omega
  clear hp hh hn
  obtain ⟨rcv, hm, hcall⟩ := H.mlen _ _ hR
  have KL := Lib.hid hcall
  have HR := Lib.hid hR
  clear hcall hR
  have hk : (xs.size : Int) - 1 = (n : Int) := by omega
  go_enter Try.func50, Try.ntmps50
  go_wp2_with fail
  refine KL.out.mono ?_
  rintro e w1 ⟨rfl, hD⟩
  clear hm KL
  have hR1 := H.drw _ _ _ hD HR.out
  obtain ⟨rcv2, hm, hcall⟩ := H.mswap _ _ hR1
  have KS := Lib.hid (hcall 0 n (by omega) hn1)
  clear hcall hR1 HR
  go_wp2_with fail
  refine KS.out.mono ?_
  rintro e w2 ⟨rfl, hR2, hc2⟩
  have HC2 := Lib.hid ((chg_drw (Chg.refl S _) hD).trans hc2)
  have KD := Lib.hid (nsDown H O (sw xs 0 n) 0 n w2 hR2 (by omega) (by rw [sw_size]; omega) (by rw [sw_size]; omega) (dn_begin n HN.out HH.out))
  clear hm KS hc2 hR2 hD
  go_wp2_with fail
  refine KD.out.mono ?_
  rintro e w3 ⟨b, rfl, zs, hR3, hs3, hp3, hh3, hf3, hc3⟩
  have hs4 : zs.size = xs.size := by rw [hs3, sw_size]
  have hl : zs[n]! = xs[0]! := by
    rw [hf3 n (Nat.le_refl _), sw_get _ _ _ (by omega) hn1, if_pos rfl]
  have hpp := pop_perm (ys := zs) HN.out hs4 hl (hp3.trans (sw_perm xs 0 n (by omega) hn1))
  have hhp := heap_pop (xs := zs) (n := n) (by omega) hh3
  obtain ⟨rcv3, hm, hcall⟩ := HP.out _ _ hR3 (by omega)
  have KP := Lib.hid hcall
  have HL := Lib.hid hl
  have HS4 := Lib.hid hs4
  have HPP := Lib.hid hpp
  have HHP := Lib.hid hhp
  have HC3 := Lib.hid (HC2.out.trans hc3)
  clear hcall hl hs4 hpp hhp hc3 hf3 hp3 hs3 hh3 hR3 KD HP
  go_wp2_with fail
  refine KP.out.mono ?_
  rintro e w4 ⟨v, rfl, hV, hQ, hc⟩
  have H1 := Lib.hid (⟨zs.pop, by rw [← HL.out]; exact hV, hQ, by have := HS4.out; have := HN.out; simp; omega, HPP.out, HHP.out, HC3.out.trans hc⟩ : ∃ ys, V w4 v xs[0]! ∧ Q w4 ys ∧ ys.size + 1 = xs.size ∧ (xs[0]! :: ys.toList).Perm xs.toList ∧ IsHeap lt ys ys.size ∧ Chg S w w4)
  clear hV hQ hc
  go_wp2
  go_ret
  exact ⟨_, H1.out.choose, rfl, H1.out.choose_spec⟩
end Go.Proofs.Ytfcddpbpfckjfaa

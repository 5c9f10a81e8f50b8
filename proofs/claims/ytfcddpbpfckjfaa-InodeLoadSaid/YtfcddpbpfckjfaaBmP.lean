/- Plain laws for package bitmap: bits of bytes. No Go program in this text. -/
import Derived.Test.YtfcddpbpfckjfaaApp
namespace Go.Proofs.Ytfcddpbpfckjfaa
open Go.RowKit
set_option linter.unusedVariables false
set_option linter.unusedSimpArgs false
/-- The number of the bits f 0, .., f (t - 1). -/
def bitsum (f : Nat → Bool) : Nat → Nat | 0 => 0 | t + 1 => bitsum f t + if f t = true then 2 ^ t else 0
theorem bitsum_lt (f : Nat → Bool) : ∀ t, bitsum f t < 2 ^ t
  | 0 => by simp [bitsum]
  | t + 1 => by
    have := bitsum_lt f t
    have h2 : 2 ^ (t + 1) = 2 ^ t + 2 ^ t := by rw [Nat.pow_succ]; omega
    unfold bitsum
    split <;> omega
theorem bitsum_congr {f g : Nat → Bool} : ∀ t, (∀ i, i < t → f i = g i) → bitsum f t = bitsum g t
  | 0, _ => rfl
  | t + 1, h => by unfold bitsum; rw [bitsum_congr t (fun i hi => h i (by omega)), h t (by omega)]
theorem bitsum_zero {f : Nat → Bool} : ∀ t, (∀ i, i < t → f i = false) → bitsum f t = 0
  | 0, _ => rfl
  | t + 1, h => by unfold bitsum; rw [bitsum_zero t (fun i hi => h i (by omega)), h t (by omega)]; rfl
theorem bitsum_cut {f : Nat → Bool} (r : Nat) : ∀ t, r ≤ t → (∀ i, r ≤ i → i < t → f i = false) → bitsum f t = bitsum f r
  | 0, h, _ => by obtain rfl : r = 0 := by omega
                  rfl
  | t + 1, h, h0 => by
    by_cases e : r = t + 1
    · rw [e]
    · show bitsum f t + (if f t = true then 2 ^ t else 0) = _
      rw [bitsum_cut r t (by omega) (fun i h1 h2 => h0 i h1 (by omega)), h0 t (by omega) (by omega)]
      simp
theorem bitsum_mod (q : Nat) : ∀ t, bitsum (fun i => decide (q / 2 ^ i % 2 = 1)) t = q % 2 ^ t
  | 0 => by simp [bitsum, Nat.mod_one]
  | t + 1 => by
    unfold bitsum
    rw [bitsum_mod q t, Nat.pow_succ, Nat.mod_mul]
    have := Nat.mod_two_eq_zero_or_one (q / 2 ^ t)
    rcases this with h | h
    · rw [h]; simp
    · rw [h]; simp
/-- The j-th byte of a map. -/
def packB (us : List Bool) (j : Nat) : Nat := bitsum (fun t => us.getD (8 * j + t) false) 8
def packs (us : List Bool) (m : Nat) : List Int := (List.range m).map fun j => (packB us j : Int)
def pack (us : List Bool) : List Int := packs us ((us.length + 7) / 8)
theorem packB_lt (us : List Bool) (j : Nat) : packB us j < 256 := bitsum_lt _ 8
theorem packs_len (us : List Bool) (m : Nat) : (packs us m).length = m := by simp [packs]
theorem packs_get (us : List Bool) (m j : Nat) (h : j < m) : (packs us m).getD j 0 = (packB us j : Int) := by simp [packs, List.getD_eq_getElem?_getD, h]
theorem getD_take (us : List Bool) (k i : Nat) : (us.take k).getD i false = (if i < k then us.getD i false else false) := by
  simp only [List.getD_eq_getElem?_getD, List.getElem?_take]
  split <;> simp
theorem packB_succ_no (us : List Bool) (k j : Nat) (h : us.getD k false = false) : packB (us.take (k + 1)) j = packB (us.take k) j := by
  unfold packB
  refine bitsum_congr 8 fun i _ => ?_
  rw [getD_take, getD_take]
  by_cases e : 8 * j + i = k
  · rw [e, h]; simp
  · by_cases h1 : 8 * j + i < k
    · rw [if_pos (by omega), if_pos h1]
    · rw [if_neg (by omega), if_neg h1]
theorem packB_succ_ne (us : List Bool) (k j : Nat) (h : j ≠ k / 8) : packB (us.take (k + 1)) j = packB (us.take k) j := by
  unfold packB
  refine bitsum_congr 8 fun i hi => ?_
  rw [getD_take, getD_take]
  by_cases h1 : 8 * j + i < k
  · rw [if_pos (by omega), if_pos h1]
  · rw [if_neg (by omega), if_neg h1]
theorem packB_here (us : List Bool) (k : Nat) : packB (us.take k) (k / 8) = bitsum (fun t => (us.take k).getD (8 * (k / 8) + t) false) (k % 8) := by
  unfold packB
  refine bitsum_cut (k % 8) 8 (by omega) fun i h1 h2 => ?_
  rw [getD_take, if_neg (by omega)]
theorem packB_here_lt (us : List Bool) (k : Nat) : packB (us.take k) (k / 8) < 2 ^ (k % 8) := by rw [packB_here]; exact bitsum_lt _ _
theorem packB_succ_yes (us : List Bool) (k : Nat) (h : us.getD k false = true) : packB (us.take (k + 1)) (k / 8) = packB (us.take k) (k / 8) + 2 ^ (k % 8) := by
  rw [packB_here us k]
  unfold packB
  rw [bitsum_cut (k % 8 + 1) 8 (by omega) (fun i h1 h2 => by rw [getD_take, if_neg (by omega)])]
  show bitsum _ (k % 8) + _ = _
  have e : (us.take (k + 1)).getD (8 * (k / 8) + k % 8) false = true := by
    rw [getD_take, if_pos (by omega), show 8 * (k / 8) + k % 8 = k by omega, h]
  rw [if_pos e]
  congr 1
  refine bitsum_congr _ fun i hi => ?_
  rw [getD_take, getD_take, if_pos (by omega), if_pos (by omega)]
theorem or_top (x t : Nat) (h : x < 2 ^ t) : x ||| 2 ^ t = x + 2 ^ t := by
  have := Nat.two_pow_add_eq_or_of_lt h 1
  rw [Nat.mul_one] at this
  rw [Nat.or_comm, ← this, Nat.add_comm]
theorem packs_step_no (us : List Bool) (k m : Nat) (h : us.getD k false = false) : packs (us.take (k + 1)) m = packs (us.take k) m := by
  unfold packs
  refine List.map_congr_left fun j _ => ?_
  rw [packB_succ_no us k j h]
theorem packs_step_yes (us : List Bool) (k m : Nat) (h : us.getD k false = true) : packs (us.take (k + 1)) m = (packs (us.take k) m).set (k / 8) ((packB (us.take k) (k / 8) ||| 2 ^ (k % 8) : Nat) : Int) := by
  apply List.ext_getElem?
  intro i
  rw [List.getElem?_set, packs_len]
  by_cases e : k / 8 = i
  · subst e
    rw [if_pos rfl]
    by_cases hm : k / 8 < m
    · rw [if_pos hm, or_top _ _ (packB_here_lt us k), ← packB_succ_yes us k h]
      simp [packs, hm]
    · rw [if_neg hm]; simp [packs, hm]
  · rw [if_neg e]
    unfold packs
    rw [List.getElem?_map, List.getElem?_map]
    by_cases hm : i < m
    · rw [List.getElem?_range hm]
      simp only [Option.map_some]
      rw [packB_succ_ne us k i (Ne.symm e)]
    · rw [List.getElem?_eq_none (by simpa using hm)]; rfl
theorem packs_start (us : List Bool) (m : Nat) : packs (us.take 0) m = List.replicate m 0 := by
  apply List.ext_getElem?
  intro i
  by_cases hm : i < m
  · simp only [packs, List.getElem?_map, List.getElem?_range hm, List.getElem?_replicate, if_pos hm, Option.map_some]
    simp [packB, bitsum]
  · rw [List.getElem?_eq_none (by simpa [packs] using hm), List.getElem?_eq_none (by simpa using hm)]
/-- The bits of bytes. -/
def bitOf (b : List Int) (i : Nat) : Bool := decide ((b.getD (i / 8) 0).toNat / 2 ^ (i % 8) % 2 = 1)
def bitsOf (b : List Int) (n : Nat) : List Bool := (List.range n).map (bitOf b)
theorem bitsOf_len (b : List Int) (n : Nat) : (bitsOf b n).length = n := by simp [bitsOf]
theorem bitsOf_get (b : List Int) (n i : Nat) : (bitsOf b n).getD i false = (if i < n then bitOf b i else false) := by
  simp only [bitsOf, List.getD_eq_getElem?_getD, List.getElem?_map]
  split
  · next h => simp [h]
  · next h => simp [h]
theorem bitOf_far (b : List Int) (i : Nat) (h : b.length ≤ i / 8) : bitOf b i = false := by
  unfold bitOf
  rw [List.getD_eq_getElem?_getD, List.getElem?_eq_none h]
  simp
def fineB (b : List Int) (n : Nat) : Bool := decide (b.length = (n + 7) / 8) && (decide (n % 8 = 0) || decide ((b.getD (b.length - 1) 0).toNat / 2 ^ (n % 8) = 0))
theorem packB_bits (b : List Int) (n j : Nat) (hb : ∀ q ∈ b, 0 ≤ q ∧ q < 256) : packB (bitsOf b n) j = if 8 * j + 8 ≤ n then (b.getD j 0).toNat else if 8 * j < n then (b.getD j 0).toNat % 2 ^ (n - 8 * j) else 0 := by
  have hq : (b.getD j 0).toNat < 256 := by
    rw [List.getD_eq_getElem?_getD]
    rcases Nat.lt_or_ge j b.length with h | h
    · rw [List.getElem?_eq_getElem h]; have := hb _ (List.getElem_mem h); simp; omega
    · rw [List.getElem?_eq_none h]; simp
  have hbit : ∀ i, i < 8 → 8 * j + i < n → (bitsOf b n).getD (8 * j + i) false = decide ((b.getD j 0).toNat / 2 ^ i % 2 = 1) := by
    intro i hi hn
    rw [bitsOf_get, if_pos hn]
    unfold bitOf
    rw [show (8 * j + i) / 8 = j by omega, show (8 * j + i) % 8 = i by omega]
  unfold packB
  split
  · next h =>
    rw [bitsum_congr (g := fun i => decide ((b.getD j 0).toNat / 2 ^ i % 2 = 1)) 8 (fun i hi => hbit i hi (by omega)), bitsum_mod]
    exact Nat.mod_eq_of_lt hq
  · next h =>
    split
    · next h2 =>
      rw [bitsum_cut (n - 8 * j) 8 (by omega) (fun i h3 h4 => by rw [bitsOf_get, if_neg (by omega)]), bitsum_congr (g := fun i => decide ((b.getD j 0).toNat / 2 ^ i % 2 = 1)) _ (fun i hi => hbit i (by omega) (by omega)), bitsum_mod]
    · next h2 => exact bitsum_zero 8 fun i _ => by rw [bitsOf_get, if_neg (by omega)]
theorem pack_bits (b : List Int) (n : Nat) (hb : ∀ q ∈ b, 0 ≤ q ∧ q < 256) : decide (pack (bitsOf b n) = b) = fineB b n := by
  unfold fineB pack
  rw [bitsOf_len]
  by_cases hl : b.length = (n + 7) / 8
  · rw [decide_eq_true hl, Bool.true_and]
    by_cases h8 : n % 8 = 0
    · rw [decide_eq_true h8, Bool.true_or, decide_eq_true]
      apply List.ext_getElem (by rw [packs_len, hl])
      intro i h1 h2
      have := packs_get (bitsOf b n) ((n + 7) / 8) i (by omega)
      rw [packB_bits b n i hb, if_pos (by omega)] at this
      simp only [List.getD_eq_getElem?_getD, List.getElem?_eq_getElem h1, List.getElem?_eq_getElem h2, Option.getD_some] at this
      rw [this]
      have := hb _ (List.getElem_mem h2)
      omega
    · rw [decide_eq_false h8, Bool.false_or]
      have hlast : b.length - 1 < b.length := by omega
      have e0 : ((b.getD (b.length - 1) 0).toNat / 2 ^ (n % 8) = 0) ↔ (b.getD (b.length - 1) 0).toNat < 2 ^ (n % 8) := Nat.div_eq_zero_iff_lt (Nat.two_pow_pos _)
      by_cases h0 : (b.getD (b.length - 1) 0).toNat < 2 ^ (n % 8)
      · rw [decide_eq_true (e0.2 h0), decide_eq_true]
        apply List.ext_getElem (by rw [packs_len, hl])
        intro i h1 h2
        have := packs_get (bitsOf b n) ((n + 7) / 8) i (by omega)
        rw [packB_bits b n i hb] at this
        have hm := hb _ (List.getElem_mem h2)
        by_cases hi : i = b.length - 1
        · rw [if_neg (by omega), if_pos (by omega), show n - 8 * i = n % 8 by omega] at this
          subst hi
          rw [Nat.mod_eq_of_lt h0] at this
          simp only [List.getD_eq_getElem?_getD, List.getElem?_eq_getElem h1, List.getElem?_eq_getElem h2, Option.getD_some] at this
          rw [this]; omega
        · rw [if_pos (by omega)] at this
          simp only [List.getD_eq_getElem?_getD, List.getElem?_eq_getElem h1, List.getElem?_eq_getElem h2, Option.getD_some] at this
          rw [this]; omega
      · rw [decide_eq_false (fun h => h0 (e0.1 h)), decide_eq_false]
        intro e
        apply h0
        have := packs_get (bitsOf b n) ((n + 7) / 8) (b.length - 1) (by omega)
        rw [e, packB_bits b n _ hb, if_neg (by omega), if_pos (by omega), show n - 8 * (b.length - 1) = n % 8 by omega] at this
        have hlt : (b.getD (b.length - 1) 0).toNat % 2 ^ (n % 8) < 2 ^ (n % 8) := Nat.mod_lt _ (Nat.two_pow_pos _)
        rw [this]
        exact hlt
  · rw [decide_eq_false hl, Bool.false_and, decide_eq_false]
    intro e
    have := congrArg List.length e
    rw [packs_len] at this
    omega
/-- The free run that ends ahead of i. -/
def rowTo (us : List Bool) : Nat → Nat | 0 => 0 | i + 1 => if us.getD i false = true then 0 else rowTo us i + 1
theorem rowTo_le (us : List Bool) : ∀ i, rowTo us i ≤ i
  | 0 => Nat.le_refl _
  | i + 1 => by have := rowTo_le us i; unfold rowTo; split <;> omega
def fillTo (us : List Bool) (a : Nat) : Nat → List Bool | 0 => us | m + 1 => (fillTo us a m).set (a + m) true
theorem fillTo_len (us : List Bool) (a : Nat) : ∀ m, (fillTo us a m).length = us.length
  | 0 => rfl
  | m + 1 => by simp [fillTo, fillTo_len us a m]
end Go.Proofs.Ytfcddpbpfckjfaa

/- Plain laws for package codec: words as bytes. No Go program in this text. -/
import Derived.Test.YthbalmoafpggdaaApp
namespace Go.Proofs.Ythbalmoafpggdaa
open Go.RowKit
set_option linter.unusedVariables false
set_option linter.unusedSimpArgs false
/-- A number's bytes, at most k of them. -/
def numF : Nat → Nat → List Int
  | 0, _ => []
  | k + 1, n => if n ≤ 127 then [(n : Int)] else ((n % 128 + 128 : Nat) : Int) :: numF k (n / 128)
def numL (n : Nat) : List Int := numF 9 n
theorem numF_small (k n : Nat) (h : n ≤ 127) (hk : 1 ≤ k) : numF k n = [(n : Int)] := by
  obtain ⟨j, rfl⟩ : ∃ j, k = j + 1 := ⟨k - 1, by omega⟩
  unfold numF; rw [if_pos h]
theorem numF_step (k n : Nat) (h : 127 < n) : numF (k + 1) n = ((n % 128 + 128 : Nat) : Int) :: numF k (n / 128) := by
  show (if n ≤ 127 then _ else _) = _
  rw [if_neg (by omega)]
theorem numF_len : ∀ k n, (numF k n).length ≤ k
  | 0, _ => by simp [numF]
  | k + 1, n => by
    unfold numF
    split
    · simp
    · have := numF_len k (n / 128); simp; omega
theorem numL_len (n : Nat) : (numL n).length ≤ 9 := numF_len 9 n
theorem numF_byt : ∀ k n, ∀ q ∈ numF k n, 0 ≤ q ∧ q < 256
  | 0, _, q, h => by simp [numF] at h
  | k + 1, n, q, h => by
    unfold numF at h
    split at h
    · simp at h; omega
    · rcases List.mem_cons.1 h with rfl | h
      · omega
      · exact numF_byt k _ q h
theorem numL_byt (n : Nat) : ∀ q ∈ numL n, 0 ≤ q ∧ q < 256 := numF_byt 9 n
/-- A number out of bytes: its value, and how many bytes it takes. -/
def rdN (l : List Int) : Nat → Nat → Nat → Option (Nat × Nat)
  | 0, _, _ => none
  | f + 1, k, n => match l[k]? with
    | none => none
    | some c => if c.toNat < 128 then (if (c.toNat = 0 ∧ 0 < k) ∨ 4611686018427387904 < n + c.toNat % 128 * 2 ^ (7 * k) then none else some (n + c.toNat % 128 * 2 ^ (7 * k), k + 1)) else rdN l f (k + 1) (n + c.toNat % 128 * 2 ^ (7 * k))
def numR (l : List Int) : Option (Nat × Nat) := rdN l 9 0 0
theorem rdN_bd (l : List Int) : ∀ f k n v j, rdN l f k n = some (v, j) → v ≤ 4611686018427387904 ∧ k < j ∧ j ≤ l.length ∧ j ≤ k + f
  | 0, _, _, _, _, h => by simp [rdN] at h
  | f + 1, k, n, v, j, h => by
    unfold rdN at h
    split at h
    · cases h
    · next c hc =>
      have hk : k < l.length := by
        rcases Nat.lt_or_ge k l.length with h | h
        · exact h
        · rw [List.getElem?_eq_none h] at hc; cases hc
      split at h
      · split at h
        · cases h
        · next h2 =>
          simp only [Option.some.injEq, Prod.mk.injEq] at h
          obtain ⟨rfl, rfl⟩ := h
          refine ⟨by omega, by omega, by omega, by omega⟩
      · have := rdN_bd l f _ _ v j h
        omega
theorem numR_bd {l : List Int} {v j : Nat} (h : numR l = some (v, j)) : v ≤ 4611686018427387904 ∧ 0 < j ∧ j ≤ l.length := by
  have := rdN_bd l 9 0 0 v j h; omega
theorem numF_pos : ∀ k n, n < 128 ^ k → 0 < n → numF k n ≠ [] ∧ ∀ h : (numF k n) ≠ [], (numF k n).getLast h ≠ 0
  | 0, n, h, h0 => by simp at h; omega
  | k + 1, n, h, h0 => by
    by_cases hs : n ≤ 127
    · rw [numF_small _ _ hs (by omega)]; simp; omega
    · rw [numF_step _ _ (by omega)]
      have hd : n / 128 < 128 ^ k := by rw [Nat.div_lt_iff_lt_mul (by omega), ← Nat.pow_succ]; exact h
      have ih := numF_pos k (n / 128) hd (by omega)
      refine ⟨by simp, fun h' => ?_⟩
      rw [List.getLast_cons ih.1]
      exact ih.2 _
/-- What was written is read. -/
theorem rdN_numF (l : List Int) : ∀ k n v s f, n < 128 ^ k → (0 < s → 0 < n) → v + n * 2 ^ (7 * s) ≤ 4611686018427387904 → k ≤ f → 1 ≤ k → (∀ i, i < (numF k n).length → l[s + i]? = (numF k n)[i]?) → rdN l f s v = some (v + n * 2 ^ (7 * s), s + (numF k n).length)
  | 0, n, v, s, f, h, h0, hm, hf, h1, hl => by omega
  | k + 1, n, v, s, 0, h, h0, hm, hf, h1, hl => by omega
  | k + 1, n, v, s, f + 1, h, h0, hm, hf, h1, hl => by
    by_cases hs : n ≤ 127
    · rw [numF_small _ _ hs (by omega)] at hl ⊢
      have e := hl 0 (by simp)
      simp at e
      unfold rdN
      rw [e]
      have e1 : ((n : Int)).toNat = n := by omega
      simp only [e1]
      rw [if_pos (by omega), Nat.mod_eq_of_lt (by omega), if_neg (by omega)]
      simp
    · rw [numF_step _ _ (by omega)] at hl ⊢
      have e := hl 0 (by simp)
      simp at e
      unfold rdN
      rw [e]
      have e1 : ((n : Int) % 128 + 128).toNat = n % 128 + 128 := by omega
      simp only [e1]
      rw [if_neg (by omega), show (n % 128 + 128) % 128 = n % 128 by omega]
      have hd : n / 128 < 128 ^ k := by rw [Nat.div_lt_iff_lt_mul (by omega), ← Nat.pow_succ]; exact h
      have h1k : 1 ≤ k := by
        rcases Nat.eq_zero_or_pos k with rfl | h
        · simp at hd; omega
        · exact h
      have hp : 2 ^ (7 * (s + 1)) = 128 * 2 ^ (7 * s) := by rw [show 7 * (s + 1) = 7 + 7 * s by omega, Nat.pow_add]
      have hsum : v + n % 128 * 2 ^ (7 * s) + n / 128 * 2 ^ (7 * (s + 1)) = v + n * 2 ^ (7 * s) := by
        rw [hp, Nat.add_assoc, ← Nat.mul_assoc, ← Nat.add_mul, show n % 128 + n / 128 * 128 = n by omega]
      have := rdN_numF l k (n / 128) (v + n % 128 * 2 ^ (7 * s)) (s + 1) f hd (by omega) (by rw [hsum]; exact hm) (by omega) h1k (fun i hi => by
        have := hl (i + 1) (by simp; omega)
        rw [show s + 1 + i = s + (i + 1) by omega, this]
        simp)
      rw [this, hsum]
      simp; omega
theorem rdN_low (l : List Int) : ∀ f k n v j, 0 < k → rdN l f k n = some (v, j) → n + 2 ^ (7 * k) ≤ v
  | 0, _, _, _, _, _, h => by simp [rdN] at h
  | f + 1, k, n, v, j, hk, h => by
    unfold rdN at h
    split at h
    · cases h
    · next c hc =>
      split at h
      · next h1 =>
        split at h
        · cases h
        · next h2 =>
          simp only [Option.some.injEq, Prod.mk.injEq] at h
          obtain ⟨rfl, rfl⟩ := h
          have : 1 ≤ c.toNat % 128 := by omega
          have := Nat.mul_le_mul_right (2 ^ (7 * k)) this
          omega
      · have := rdN_low l f _ _ v j (by omega) h
        have hp : 2 ^ (7 * (k + 1)) = 128 * 2 ^ (7 * k) := by rw [show 7 * (k + 1) = 7 + 7 * k by omega, Nat.pow_add]
        omega
theorem numL_ne (n : Nat) : 1 ≤ (numL n).length := by
  unfold numL
  by_cases h : n ≤ 127
  · rw [numF_small _ _ h (by omega)]; simp
  · rw [show (9 : Nat) = 8 + 1 from rfl, numF_step _ _ (by omega)]; simp
theorem numR_numL (n : Nat) (rest : List Int) (h : n ≤ 4611686018427387904) : numR (numL n ++ rest) = some (n, (numL n).length) := by
  have := rdN_numF (numL n ++ rest) 9 n 0 0 9 (by omega) (by omega) (by omega) (by omega) (by omega) (fun i hi => by
    rw [Nat.zero_add]; show (numF 9 n ++ rest)[i]? = _; rw [List.getElem?_append_left hi])
  unfold numR
  rw [this]
  simp [numL]
/-- A reader's state: none: it is bad. -/
abbrev RS := Option (List Int)
def numS : RS → Nat × RS
  | none => (0, none)
  | some l => match numR l with
    | none => (0, none)
    | some (n, k) => (n, some (l.drop k))
def bytesS (s : RS) : List Int × RS := match numS s with
  | (_, none) => ([], none)
  | (n, some l) => if 65536 < n ∨ l.length < n then ([], none) else (l.take n, some (l.drop n))
def truthS (s : RS) : Bool × RS := match numS s with
  | (_, none) => (false, none)
  | (n, some l) => if 1 < n then (false, none) else (decide (n = 1), some l)
def idS (s : RS) : (Nat × Nat) × RS := match numS (numS s).2 with
  | (_, none) => ((0, 0), none)
  | (n, some l) => if 1152921504606846976 < (numS s).1 ∨ 64 ≤ n then ((0, 0), none) else (((numS s).1, n), some l)
def numsS : Nat → RS → List Int × RS
  | 0, s => ([], s)
  | k + 1, s => ((numsS k s).1 ++ [((numS (numsS k s).2).1 : Int)], (numS (numsS k s).2).2)
def vecMayB (v : List Int) : Bool := v.all fun x => decide (0 ≤ x) && decide (x ≤ 1152921504606846976)
def vecOkB (v : List Int) : Bool := vecMayB v && decide (v = [] ∨ v.getD (v.length - 1) 0 ≠ 0)
def vecS (s : RS) : List Int × RS := match numS s with
  | (_, none) => ([], none)
  | (n, some l) => if 64 < n then ([], none) else match numsS n (some l) with
    | (_, none) => ([], none)
    | (v, some l') => if vecOkB v = true then (v, some l') else ([], none)
def leftS (s : RS) : List Int := s.getD []
theorem numS_none : numS none = (0, none) := rfl
theorem numS_bd (s : RS) : (numS s).1 ≤ 4611686018427387904 := by
  unfold numS
  split
  · simp
  · split
    · simp
    · next h => exact (numR_bd h).1
theorem numsS_len : ∀ k s, (numsS k s).1.length = k
  | 0, _ => rfl
  | k + 1, s => by simp [numsS, numsS_len k s]
theorem numsS_bd : ∀ k s, ∀ x ∈ (numsS k s).1, 0 ≤ x ∧ x ≤ 4611686018427387904
  | 0, _, x, h => by simp [numsS] at h
  | k + 1, s, x, h => by
    simp only [numsS, List.mem_append, List.mem_singleton] at h
    rcases h with h | rfl
    · exact numsS_bd k s x h
    · have := numS_bd (numsS k s).2; omega
/-- What is left is of what there was. -/
def Sub (s t : RS) : Prop := ∀ l, t = some l → ∃ m, s = some m ∧ ∃ j, l = m.drop j
theorem Sub.refl (s : RS) : Sub s s := fun l h => ⟨l, h, 0, rfl⟩
theorem Sub.trans {a b c : RS} (h : Sub a b) (k : Sub b c) : Sub a c := fun l hl => by
  obtain ⟨m, hm, j, rfl⟩ := k l hl
  obtain ⟨m', hm', j', rfl⟩ := h m hm
  exact ⟨m', hm', j' + j, by rw [List.drop_drop]⟩
theorem numS_sub (s : RS) : Sub s (numS s).2 := by
  intro l hl
  unfold numS at hl
  split at hl
  · cases hl
  · next m =>
    split at hl
    · cases hl
    · next n k hk =>
      simp only [Option.some.injEq] at hl
      exact ⟨m, rfl, k, hl.symm⟩
/-- The words as bytes; none: one that cannot be written. -/
def numW (n : Int) : Option (List Int) := if 0 ≤ n ∧ n ≤ 4611686018427387904 then some (numL n.toNat) else none
def bytesW (x : List Int) : Option (List Int) := if x.length ≤ 65536 then some (numL x.length ++ x) else none
def truthW (b : Bool) : List Int := if b then [1] else [0]
def idOk (t n : Int) : Bool := decide (0 ≤ t) && decide (t ≤ 1152921504606846976) && decide (0 ≤ n) && decide (n < 64)
def idW (t n : Int) : Option (List Int) := if idOk t n = true then some (numL t.toNat ++ numL n.toNat) else none
def numsL (v : List Int) : List Int := v.flatMap fun x => numL x.toNat
/-- The zeros at its end cut off. -/
def cutTo (v : List Int) : Nat → Nat | 0 => 0 | k + 1 => if v.getD k 0 = 0 then cutTo v k else k + 1
def cutL (v : List Int) : List Int := v.take (cutTo v v.length)
theorem cutTo_le (v : List Int) : ∀ k, cutTo v k ≤ k
  | 0 => Nat.le_refl _
  | k + 1 => by have := cutTo_le v k; unfold cutTo; split <;> omega
theorem cutL_len (v : List Int) : (cutL v).length = cutTo v v.length := by
  have := cutTo_le v v.length
  simp [cutL]; omega
def vecW (v : List Int) : Option (List Int) := if vecMayB (cutL v) = true ∧ (cutL v).length ≤ 64 then some (numL (cutL v).length ++ numsL (cutL v)) else none
theorem numsL_len : ∀ v : List Int, (numsL v).length ≤ 10 * v.length
  | [] => by simp [numsL]
  | x :: v => by have := numsL_len v; have := numL_len x.toNat; simp only [numsL, List.flatMap_cons, List.length_append, List.length_cons] at *; omega
theorem numsL_byt (v : List Int) : ∀ q ∈ numsL v, 0 ≤ q ∧ q < 256 := by
  intro q hq
  obtain ⟨x, _, hx⟩ := List.mem_flatMap.1 hq
  exact numL_byt _ q hx
end Go.Proofs.Ythbalmoafpggdaa

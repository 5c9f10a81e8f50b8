/- CRC-32 by bits and by nibbles: plain facts on numbers. -/
import Derived.WalkKit
import Derived.Laws.BitsAllLaws
namespace Go.Proofs.Ytfcddpbpfckjfaa
/-- One bit of a register. -/
def st1 (c : Nat) : Nat := if c % 2 = 1 then c / 2 ^^^ 3988292384 else c / 2
def stN : Nat → Nat → Nat | 0, c => c | n + 1, c => st1 (stN n c)
theorem st1_lt {c : Nat} (h : c < 4294967296) : st1 c < 4294967296 := by
  unfold st1
  split
  · exact Nat.xor_lt_two_pow (n := 32) (by omega) (by decide)
  · omega
theorem stN_lt (n : Nat) {c : Nat} (h : c < 4294967296) : stN n c < 4294967296 := by
  induction n with
  | zero => exact h
  | succ n ih => exact st1_lt ih
theorem st1_xor (a b : Nat) : st1 (a ^^^ b) = st1 a ^^^ st1 b := by
  unfold st1
  have hm : (a ^^^ b) % 2 = (a % 2) ^^^ (b % 2) := Nat.xor_mod_two_pow (n := 1)
  have hd : (a ^^^ b) / 2 = a / 2 ^^^ b / 2 := Nat.xor_div_two
  rw [hd]
  rcases Nat.mod_two_eq_zero_or_one a with ha | ha <;> rcases Nat.mod_two_eq_zero_or_one b with hb | hb <;> rw [hm, ha, hb] <;> simp
  · rw [Nat.xor_assoc]
  · rw [Nat.xor_assoc, Nat.xor_assoc, Nat.xor_comm 3988292384 (b / 2)]
  · rw [show a / 2 ^^^ 3988292384 ^^^ (b / 2 ^^^ 3988292384) = a / 2 ^^^ b / 2 ^^^ (3988292384 ^^^ 3988292384) from by ac_rfl, Nat.xor_self, Nat.xor_zero]
theorem stN_xor (n a b : Nat) : stN n (a ^^^ b) = stN n a ^^^ stN n b := by
  induction n with
  | zero => rfl
  | succ n ih => show st1 _ = st1 _ ^^^ st1 _; rw [ih, st1_xor]
theorem stN_add (m n c : Nat) : stN (m + n) c = stN m (stN n c) := by
  induction m with
  | zero => simp [stN]
  | succ m ih => rw [Nat.succ_add]; show st1 _ = st1 _; rw [ih]
theorem st1_even (z : Nat) : st1 (2 * z) = z := by
  unfold st1
  rw [if_neg (by omega)]
  omega
theorem stN_shl (y : Nat) : stN 4 (16 * y) = y := by
  show st1 (st1 (st1 (st1 (16 * y)))) = y
  rw [show 16 * y = 2 * (8 * y) from by omega, st1_even, show 8 * y = 2 * (4 * y) from by omega, st1_even, show 4 * y = 2 * (2 * y) from by omega, st1_even, st1_even]
theorem nat_split (x : Nat) : x = 16 * (x / 16) ^^^ x % 16 := by
  have h : 16 * (x / 16) ^^^ x % 16 = 16 * (x / 16) + x % 16 := by
    apply Nat.eq_of_testBit_eq
    intro i
    rw [Nat.testBit_xor, show 16 * (x / 16) + x % 16 = 2 ^ 4 * (x / 16) + x % 16 from rfl, Nat.testBit_two_pow_mul_add _ (by omega)]
    rw [show 16 * (x / 16) = 2 ^ 4 * (x / 16) from rfl, Nat.testBit_two_pow_mul]
    by_cases hi : i < 4
    · simp [hi, show ¬ 4 ≤ i from by omega]
    · have : (x % 16).testBit i = false := Nat.testBit_lt_two_pow (Nat.lt_of_lt_of_le (Nat.mod_lt _ (by omega)) (by
        have := Nat.pow_le_pow_right (n := 2) (by omega) (show 4 ≤ i by omega)
        simpa using this))
      simp [hi, this, show 4 ≤ i from by omega]
  rw [h]; omega
theorem stN4 (x : Nat) : stN 4 x = x / 16 ^^^ stN 4 (x % 16) := by
  have h := stN_xor 4 (16 * (x / 16)) (x % 16)
  rw [← nat_split, stN_shl] at h
  exact h
open Go in
theorem st1_bits (n : Nat) (h : n < 4294967296) : bits .xor .u32 ((n : Int) / 2) (bits .and .u32 3988292384 (-bits .and .u32 (n : Int) 1 % 4294967296)) = ((st1 n : Nat) : Int) := by
  have h1 : bits .and .u32 (n : Int) 1 = ((n % 2 : Nat) : Int) := by
    have := u32_and_nat n 1 h (by omega)
    rw [nat_mask1] at this
    exact this
  rw [h1]
  rcases Nat.mod_two_eq_zero_or_one n with h0 | h0
  · have h2 : bits .and .u32 3988292384 (-((n % 2 : Nat) : Int) % 4294967296) = 0 := by rw [h0]; exact u32_and_nat 3988292384 0 (by omega) (by omega)
    rw [h2]
    have h3 := u32_xor_nat (n / 2) 0 (by omega) (by omega)
    rw [Nat.xor_zero] at h3
    unfold st1
    rw [if_neg (by omega)]
    exact h3
  · have h2 : bits .and .u32 3988292384 (-((n % 2 : Nat) : Int) % 4294967296) = 3988292384 := by rw [h0]; exact u32_and_nat 3988292384 4294967295 (by omega) (by omega)
    rw [h2]
    have h3 := u32_xor_nat (n / 2) 3988292384 (by omega) (by omega)
    unfold st1
    rw [if_pos h0]
    exact h3
/-- A register behind bytes. -/
def crcR (c : Nat) (l : List Int) : Nat := l.foldl (fun c b => stN 8 (c ^^^ b.toNat)) c
theorem crcR_append (c : Nat) (l m : List Int) : crcR c (l ++ m) = crcR (crcR c l) m := by simp [crcR]
theorem crcR_lt {c : Nat} (h : c < 4294967296) (l : List Int) (hl : ∀ b ∈ l, 0 ≤ b ∧ b < 256) : crcR c l < 4294967296 := by
  induction l generalizing c with
  | nil => exact h
  | cons b l ih =>
    refine ih (stN_lt 8 (Nat.xor_lt_two_pow (n := 32) h ?_)) (fun x hx => hl x (List.mem_cons_of_mem _ hx))
    have := hl b (List.mem_cons_self ..)
    omega
theorem crcR_take (c : Nat) (l : List Int) (k : Nat) (h : k < l.length) : crcR c (l.take (k + 1)) = stN 8 (crcR c (l.take k) ^^^ (l.getD k 0).toNat) := by
  unfold crcR
  rw [List.take_succ_eq_append_getElem h, List.foldl_append]
  simp [List.getElem?_eq_getElem h]
/-- A nibble, twice. -/
theorem nib_twice (x : Nat) : stN 8 x = (x / 16 ^^^ stN 4 (x % 16)) / 16 ^^^ stN 4 ((x / 16 ^^^ stN 4 (x % 16)) % 16) := by
  rw [show (8 : Nat) = 4 + 4 from rfl, stN_add, ← stN4, ← stN4]
open Go in
/-- A byte taken in, as the code spells it. -/
theorem nib_round (R q : Nat) (hR : R < 4294967296) (hq : q < 256) : ∃ X n1 Y n2 : Nat, bits .xor .u32 (R : Int) (q : Int) = (X : Int) ∧ bits .and .u32 (X : Int) 15 = (n1 : Int) ∧ n1 < 16 ∧
    bits .xor .u32 ((X : Int) / 16) ((stN 4 n1 : Nat) : Int) = (Y : Int) ∧ bits .and .u32 (Y : Int) 15 = (n2 : Int) ∧ n2 < 16 ∧ bits .xor .u32 ((Y : Int) / 16) ((stN 4 n2 : Nat) : Int) = ((stN 8 (R ^^^ q) : Nat) : Int) := by
  have hX : R ^^^ q < 4294967296 := Nat.xor_lt_two_pow (n := 32) hR (by omega)
  have ht1 := stN_lt 4 (show (R ^^^ q) % 16 < 4294967296 by omega)
  have hY : (R ^^^ q) / 16 ^^^ stN 4 ((R ^^^ q) % 16) < 4294967296 := Nat.xor_lt_two_pow (n := 32) (by omega) ht1
  have hnib := nib_twice (R ^^^ q)
  have e1 := u32_xor_nat R q hR (by omega)
  generalize R ^^^ q = X at *
  have e2 := u32_and_nat X 15 hX (by omega)
  rw [nat_mask4] at e2
  have e3 := u32_xor_nat (X / 16) (stN 4 (X % 16)) (by omega) ht1
  generalize X / 16 ^^^ stN 4 (X % 16) = Y at *
  have ht2 := stN_lt 4 (show Y % 16 < 4294967296 by omega)
  have e4 := u32_and_nat Y 15 hY (by omega)
  rw [nat_mask4] at e4
  have e5 := u32_xor_nat (Y / 16) (stN 4 (Y % 16)) (by omega) ht2
  rw [← hnib] at e5
  exact ⟨X, X % 16, Y, Y % 16, e1, e2, by omega, e3, e4, by omega, e5⟩
/-- What the document calls a sum, off a register. -/
def flip32 (c : Nat) : Nat := c ^^^ 4294967295
theorem flip32_lt {c : Nat} (h : c < 4294967296) : flip32 c < 4294967296 := by
  have := Nat.xor_lt_two_pow (n := 32) (x := c) (y := 4294967295) (by omega) (by omega)
  unfold flip32
  omega
theorem xor_twice (a c : Nat) : (c ^^^ a) ^^^ a = c := by rw [Nat.xor_assoc, Nat.xor_self, Nat.xor_zero]
theorem flip32_flip32 (c : Nat) : flip32 (flip32 c) = c := xor_twice 4294967295 c
open Go in
theorem bits_flip (m : Int) (k : Nat) (hm : m = k) (hk : k < 4294967296) (x : Nat) (h : x < 4294967296) : bits .xor .u32 m (x : Int) = ((x ^^^ k : Nat) : Int) := by
  rw [hm, u32_xor_nat k x hk h, Nat.xor_comm]
open Go in
theorem flip_bits (x : Nat) (h : x < 4294967296) : bits .xor .u32 IntKind.u32.max (x : Int) = ((flip32 x : Nat) : Int) :=
  bits_flip _ 4294967295 (by simp [IntKind.max, IntKind.bits, IntKind.signed]) (by omega) x h
def crcOf (l : List Int) : Nat := flip32 (crcR 4294967295 l)
end Go.Proofs.Ytfcddpbpfckjfaa

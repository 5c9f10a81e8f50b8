/- What is read is written as it was: plain laws. -/
import Derived.Test.YthbalmoafpggdaaOpD
import Derived.Test.YthbalmoafpggdaaRf4
import Derived.Test.YthbalmoafpggdaaPut
namespace Go.Proofs.Ythbalmoafpggdaa
open Go.RowKit
set_option linter.unusedVariables false
set_option linter.unusedSimpArgs false
theorem rdN_canon (l : List Int) (hl : Byt l) : ∀ f k n v j, rdN l f k n = some (v, j) → k ≤ j ∧ ∃ m, v = n + m * 2 ^ (7 * k) ∧ (l.drop k).take (j - k) = numF f m ∧ (0 < k → 0 < m)
  | 0, _, _, _, _, h => by simp [rdN] at h
  | f + 1, k, n, v, j, h => by
    unfold rdN at h
    split at h
    · cases h
    · next c hc =>
      have hk : k < l.length := by
        rcases Nat.lt_or_ge k l.length with h | h
        · exact h
        · rw [List.getElem?_eq_none h] at hc; cases hc
      have hcm : c ∈ l := List.mem_of_getElem? hc
      have hcb := hl c hcm
      have hd : l.drop k = c :: l.drop (k + 1) := by
        rw [List.drop_eq_getElem_cons hk]
        rw [List.getElem?_eq_getElem hk] at hc
        injection hc with hc
        rw [hc]
      split at h
      · next h1 =>
        split at h
        · cases h
        · next h2 =>
          simp only [Option.some.injEq, Prod.mk.injEq] at h
          obtain ⟨rfl, rfl⟩ := h
          refine ⟨by omega, c.toNat, by rw [Nat.mod_eq_of_lt h1], ?_, by omega⟩
          rw [hd, show k + 1 - k = 1 by omega, numF_small _ _ (by omega) (by omega)]
          simp
          omega
      · next h1 =>
        obtain ⟨hj, m, hm, ht, h0⟩ := rdN_canon l hl f (k + 1) _ v j h
        have h0 := h0 (by omega)
        have hp : 2 ^ (7 * (k + 1)) = 128 * 2 ^ (7 * k) := by rw [show 7 * (k + 1) = 7 + 7 * k by omega, Nat.pow_add]
        refine ⟨by omega, c.toNat % 128 + 128 * m, ?_, ?_, by omega⟩
        · rw [hm, hp, Nat.add_mul, Nat.mul_assoc, Nat.mul_left_comm, Nat.add_assoc]
        · rw [hd, numF_step _ _ (by omega), show j - k = (j - (k + 1)) + 1 by omega, List.take_succ_cons, ht]
          have e1 : (c.toNat % 128 + 128 * m) % 128 = c.toNat % 128 := by omega
          have e2 : (c.toNat % 128 + 128 * m) / 128 = m := by omega
          rw [e1, e2]
          congr 1
          omega
theorem Byt.drop {l : List Int} (h : Byt l) (k : Nat) : Byt (l.drop k) := fun q hq => h q (List.mem_of_mem_drop hq)
theorem numS_canon {l l' : List Int} {n : Nat} (hl : Byt l) (h : numS (some l) = (n, some l')) : l = numL n ++ l' ∧ Byt l' := by
  unfold numS at h
  simp only at h
  split at h
  · cases h
  · next n' k hk =>
    simp only [Prod.mk.injEq, Option.some.injEq] at h
    obtain ⟨rfl, rfl⟩ := h
    obtain ⟨_, m, hm, ht, _⟩ := rdN_canon l hl 9 0 0 _ _ hk
    simp at hm ht
    subst hm
    exact ⟨by rw [numL, ← ht, List.take_append_drop], hl.drop _⟩
theorem numS_some {s : RS} {n : Nat} {l' : List Int} (h : numS s = (n, some l')) : ∃ l, s = some l := by
  cases s with
  | none => cases h
  | some l => exact ⟨l, rfl⟩
theorem idS_canon {s : RS} {l' : List Int} {t n : Nat} (h : idS s = ((t, n), some l')) : ∃ l, s = some l ∧ (Byt l → l = (numL t ++ numL n) ++ l' ∧ Byt l') := by
  rw [idS_eq] at h
  rcases h1 : numS s with ⟨a, s1⟩
  rw [h1] at h
  simp only at h
  rcases h2 : numS s1 with ⟨b, _ | l2⟩
  · rw [h2] at h; cases h
  rw [h2] at h
  simp only at h
  split at h
  · cases h
  · simp only [Prod.mk.injEq, Option.some.injEq] at h
    obtain ⟨⟨rfl, rfl⟩, rfl⟩ := h
    obtain ⟨l1, rfl⟩ := numS_some h2
    obtain ⟨l, rfl⟩ := numS_some h1
    refine ⟨l, rfl, fun hl => ?_⟩
    obtain ⟨e1, b1⟩ := numS_canon hl h1
    obtain ⟨e2, b2⟩ := numS_canon b1 h2
    exact ⟨by rw [e1, e2, List.append_assoc], b2⟩
theorem bytesS_canon {s : RS} {l' x : List Int} (h : bytesS s = (x, some l')) : ∃ l, s = some l ∧ (Byt l → l = (numL x.length ++ x) ++ l' ∧ Byt l' ∧ Byt x) := by
  unfold bytesS at h
  rcases h1 : numS s with ⟨n, _ | l1⟩
  · rw [h1] at h; cases h
  rw [h1] at h
  simp only at h
  split at h
  · cases h
  · next hn =>
    simp only [Prod.mk.injEq, Option.some.injEq] at h
    obtain ⟨rfl, rfl⟩ := h
    obtain ⟨l, rfl⟩ := numS_some h1
    refine ⟨l, rfl, fun hl => ?_⟩
    obtain ⟨e1, b1⟩ := numS_canon hl h1
    have hlen : (l1.take n).length = n := by simp; omega
    exact ⟨by rw [hlen, List.append_assoc, List.take_append_drop]; exact e1, b1.drop _, fun q hq => b1 q (List.mem_of_mem_take hq)⟩
theorem numsL_snoc1 (v : List Int) (x : Int) : numsL (v ++ [x]) = numsL v ++ numL x.toNat := by simp [numsL]
theorem numsS_canon : ∀ (k : Nat) (s : RS) (v l' : List Int), numsS k s = (v, some l') → ∃ l, s = some l ∧ (Byt l → l = numsL v ++ l' ∧ Byt l')
  | 0, s, v, l', h => by
    simp only [numsS, Prod.mk.injEq] at h
    obtain ⟨rfl, rfl⟩ := h
    exact ⟨l', rfl, fun hl => ⟨by simp [numsL], hl⟩⟩
  | k + 1, s, v, l', h => by
    rcases h1 : numsS k s with ⟨v1, s1⟩
    rcases h2 : numS s1 with ⟨n, s2⟩
    simp only [numsS, h1, h2, Prod.mk.injEq] at h
    obtain ⟨rfl, rfl⟩ := h
    obtain ⟨l1, rfl⟩ := numS_some h2
    obtain ⟨l, e, hh⟩ := numsS_canon k s v1 l1 h1
    refine ⟨l, e, fun hl => ?_⟩
    obtain ⟨e1, b1⟩ := hh hl
    obtain ⟨e2, b2⟩ := numS_canon b1 h2
    exact ⟨by rw [numsL_snoc1, e1, e2, List.append_assoc]; simp, b2⟩
theorem vecS_canon {s : RS} {l' v : List Int} (h : vecS s = (v, some l')) : ∃ l, s = some l ∧ cutL v = v ∧ (Byt l → l = (numL v.length ++ numsL v) ++ l' ∧ Byt l') := by
  rw [vecS_eq] at h
  rcases h1 : numS s with ⟨n, _ | l1⟩
  · rw [h1] at h; cases h
  rw [h1] at h
  simp only at h
  split at h
  · cases h
  rcases h2 : numsS n (some l1) with ⟨v1, _ | l2⟩
  · rw [h2] at h; cases h
  rw [h2] at h
  simp only at h
  split at h
  · next hok =>
    simp only [Prod.mk.injEq, Option.some.injEq] at h
    obtain ⟨rfl, rfl⟩ := h
    obtain ⟨l, rfl⟩ := numS_some h1
    have hlen : v1.length = n := by have := numsS_len n (some l1); rw [h2] at this; exact this
    unfold vecOkB at hok
    rw [Bool.and_eq_true, decide_eq_true_eq] at hok
    refine ⟨l, rfl, cutL_all v1 hok.2, fun hl => ?_⟩
    obtain ⟨e1, b1⟩ := numS_canon hl h1
    obtain ⟨l3, e3, hh⟩ := numsS_canon n (some l1) v1 l2 h2
    injection e3 with e3
    subst e3
    obtain ⟨e2, b2⟩ := hh b1
    exact ⟨by rw [hlen, e1, e2]; simp [List.append_assoc], b2⟩
  · cases h
/-- What is read as an operation is its bytes. -/
theorem dec_canon {l : List Int} (hl : Byt l) (h : decB l = true) : opL (decO l) = l := by
  unfold decB at h
  rw [Bool.and_eq_true, decide_eq_true_eq] at h
  have h8 := h.1
  obtain ⟨n1, s1, q1⟩ : ∃ n s, numS (some l) = (n, s) := ⟨_, _, rfl⟩
  obtain ⟨t2, nd2, s2, q2⟩ : ∃ t n s, idS s1 = ((t, n), s) := ⟨_, _, _, rfl⟩
  obtain ⟨n3, s3, q3⟩ : ∃ n s, numS s2 = (n, s) := ⟨_, _, rfl⟩
  obtain ⟨t4, nd4, s4, q4⟩ : ∃ t n s, idS s3 = ((t, n), s) := ⟨_, _, _, rfl⟩
  obtain ⟨t5, nd5, s5, q5⟩ : ∃ t n s, idS s4 = ((t, n), s) := ⟨_, _, _, rfl⟩
  obtain ⟨b6, s6, q6⟩ : ∃ n s, bytesS s5 = (n, s) := ⟨_, _, rfl⟩
  obtain ⟨b7, s7, q7⟩ : ∃ n s, bytesS s6 = (n, s) := ⟨_, _, rfl⟩
  obtain ⟨b8, s8, q8⟩ : ∃ n s, vecS s7 = (n, s) := ⟨_, _, rfl⟩
  have hR : decR l = (n1, ⟨t2, nd2, n3, n1, t4, nd4, t5, nd5, strOfNums b6, b7, b8⟩, s8) := by unfold decR; simp only [q1, q2, q3, q4, q5, q6, q7, q8]
  unfold decO
  rw [hR] at h8 ⊢
  simp only at h8 ⊢
  subst h8
  obtain ⟨l7, rfl, c8, g8⟩ := vecS_canon q8
  obtain ⟨l6, rfl, g7⟩ := bytesS_canon q7
  obtain ⟨l5, rfl, g6⟩ := bytesS_canon q6
  obtain ⟨l4, rfl, g5⟩ := idS_canon q5
  obtain ⟨l3, rfl, g4⟩ := idS_canon q4
  obtain ⟨l2, rfl⟩ := numS_some q3
  obtain ⟨l1, rfl, g2⟩ := idS_canon q2
  obtain ⟨e1, y1⟩ := numS_canon hl q1
  obtain ⟨e2, y2⟩ := g2 y1
  obtain ⟨e3, y3⟩ := numS_canon y2 q3
  obtain ⟨e4, y4⟩ := g4 y3
  obtain ⟨e5, y5⟩ := g5 y4
  obtain ⟨e6, y6, z6⟩ := g6 y5
  obtain ⟨e7, y7, z7⟩ := g7 y6
  obtain ⟨e8, y8⟩ := g8 y7
  unfold opL
  simp only [Int.toNat_natCast]
  rw [strL_of b6 z6, c8, e1, e2, e3, e4, e5, e6, e7, e8]
  simp [List.append_assoc]
theorem dec_byt {l : List Int} (hl : Byt l) (h : decB l = true) : Byt (decO l).data := by
  unfold decB at h
  rw [Bool.and_eq_true, decide_eq_true_eq] at h
  have h8 := h.1
  obtain ⟨n1, s1, q1⟩ : ∃ n s, numS (some l) = (n, s) := ⟨_, _, rfl⟩
  obtain ⟨t2, nd2, s2, q2⟩ : ∃ t n s, idS s1 = ((t, n), s) := ⟨_, _, _, rfl⟩
  obtain ⟨n3, s3, q3⟩ : ∃ n s, numS s2 = (n, s) := ⟨_, _, rfl⟩
  obtain ⟨t4, nd4, s4, q4⟩ : ∃ t n s, idS s3 = ((t, n), s) := ⟨_, _, _, rfl⟩
  obtain ⟨t5, nd5, s5, q5⟩ : ∃ t n s, idS s4 = ((t, n), s) := ⟨_, _, _, rfl⟩
  obtain ⟨b6, s6, q6⟩ : ∃ n s, bytesS s5 = (n, s) := ⟨_, _, rfl⟩
  obtain ⟨b7, s7, q7⟩ : ∃ n s, bytesS s6 = (n, s) := ⟨_, _, rfl⟩
  obtain ⟨b8, s8, q8⟩ : ∃ n s, vecS s7 = (n, s) := ⟨_, _, rfl⟩
  have hR : decR l = (n1, ⟨t2, nd2, n3, n1, t4, nd4, t5, nd5, strOfNums b6, b7, b8⟩, s8) := by unfold decR; simp only [q1, q2, q3, q4, q5, q6, q7, q8]
  unfold decO
  rw [hR] at h8 ⊢
  simp only at h8 ⊢
  subst h8
  obtain ⟨l7, rfl, c8, g8⟩ := vecS_canon q8
  obtain ⟨l6, rfl, g7⟩ := bytesS_canon q7
  obtain ⟨l5, rfl, g6⟩ := bytesS_canon q6
  obtain ⟨l4, rfl, g5⟩ := idS_canon q5
  obtain ⟨l3, rfl, g4⟩ := idS_canon q4
  obtain ⟨l2, rfl⟩ := numS_some q3
  obtain ⟨l1, rfl, g2⟩ := idS_canon q2
  obtain ⟨e1, y1⟩ := numS_canon hl q1
  obtain ⟨e2, y2⟩ := g2 y1
  obtain ⟨e3, y3⟩ := numS_canon y2 q3
  obtain ⟨e4, y4⟩ := g4 y3
  obtain ⟨e5, y5⟩ := g5 y4
  obtain ⟨e6, y6, z6⟩ := g6 y5
  obtain ⟨e7, y7, z7⟩ := g7 y6
  exact z7
end Go.Proofs.Ythbalmoafpggdaa

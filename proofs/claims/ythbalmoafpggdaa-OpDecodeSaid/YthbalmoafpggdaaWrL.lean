/- What the codec wrote is read again: plain laws. -/
import Derived.Test.YthbalmoafpggdaaPut
namespace Go.Proofs.Ythbalmoafpggdaa
open Go.RowKit
set_option linter.unusedVariables false
set_option linter.unusedSimpArgs false
theorem numS_num (n0 : Nat) (rest : List Int) (h : n0 ≤ 4611686018427387904) : numS (some (numL n0 ++ rest)) = (n0, some rest) := by
  show (match numR (numL n0 ++ rest) with | none => (0, none) | some (n, k) => (n, some (List.drop k (numL n0 ++ rest)))) = _
  rw [numR_numL n0 rest h]
  simp
theorem numsL_drop (ys : List Int) (k : Nat) (h : k < ys.length) : numsL (ys.drop k) = numL (ys.getD k 0).toNat ++ numsL (ys.drop (k + 1)) := by
  rw [List.drop_eq_getElem_cons h, List.getD_eq_getElem?_getD, List.getElem?_eq_getElem h]
  rfl
theorem numsS_nums (ys : List Int) (rest : List Int) (hm : vecMayB ys = true) : ∀ k, k ≤ ys.length → numsS k (some (numsL ys ++ rest)) = (ys.take k, some (numsL (ys.drop k) ++ rest))
  | 0, _ => by simp [numsS]
  | k + 1, h => by
    have ih := numsS_nums ys rest hm k (by omega)
    have hk : k < ys.length := by omega
    have hq : 0 ≤ ys.getD k 0 ∧ ys.getD k 0 ≤ 1152921504606846976 := by
      by_cases hq : 0 ≤ ys.getD k 0 ∧ ys.getD k 0 ≤ 1152921504606846976
      · exact hq
      · have := vecMayB_false ys k hk hq
        rw [hm] at this; cases this
    unfold numsS
    rw [ih]
    simp only
    rw [numsL_drop ys k hk, List.append_assoc, numS_num _ _ (by omega)]
    rw [List.take_succ_eq_append_getElem hk]
    rw [List.getD_eq_getElem?_getD, List.getElem?_eq_getElem hk] at *
    simp only [Option.getD_some] at *
    rw [Int.toNat_of_nonneg hq.1]
theorem cutL_last (ys : List Int) : cutL ys = [] ∨ (cutL ys).getD ((cutL ys).length - 1) 0 ≠ 0 := by
  rcases Nat.eq_zero_or_pos (cutL ys).length with h | h
  · exact .inl (List.eq_nil_of_length_eq_zero h)
  · right
    rw [cutL_getD]
    have hl := cutL_len ys
    have : ∀ n, 0 < cutTo ys n → ys.getD (cutTo ys n - 1) 0 ≠ 0 := by
      intro n
      induction n with
      | zero => intro h; simp [cutTo] at h
      | succ n ih =>
        intro h0
        by_cases hz : ys.getD n 0 = 0
        · rw [cutTo_down ys n hz] at h0 ⊢; exact ih h0
        · rw [cutTo_stop ys n hz]; simpa using hz
    rw [hl]
    exact this _ (by omega)
theorem vecS_vec (ys : List Int) (rest : List Int) (hm : vecMayB ys = true) (hl : ys.length ≤ 64) (hz : ys = [] ∨ ys.getD (ys.length - 1) 0 ≠ 0) : vecS (some (numL ys.length ++ numsL ys ++ rest)) = (ys, some rest) := by
  unfold vecS
  rw [List.append_assoc, numS_num _ _ (by omega)]
  simp only
  rw [if_neg (by omega), numsS_nums ys rest hm _ (Nat.le_refl _)]
  simp only [List.take_length, List.drop_length]
  have hok : vecOkB ys = true := by unfold vecOkB; rw [hm, decide_eq_true hz]; rfl
  rw [if_pos hok]
  rfl
theorem takeS_item (k n : Int) (bs : List Int) (t nd : Int) (vs : List Int) (s rest : List Int) (h : itemW k n bs t nd vs = some s) : takeS k (some (s ++ rest)) = some rest := by
  unfold itemW at h
  unfold takeS
  by_cases h0 : k = 0
  · rw [if_pos h0] at h ⊢
    obtain ⟨h1, h2, rfl⟩ := numW_some h
    rw [numS_num _ _ (by omega)]
  rw [if_neg h0] at h ⊢
  by_cases h1 : k = 1 ∨ k = 2
  · rw [if_pos h1] at h ⊢
    unfold bytesW at h
    split at h
    · next hb =>
      injection h with h
      subst h
      unfold bytesS
      rw [List.append_assoc, numS_num _ _ (by omega)]
      simp only
      rw [if_neg (by simp; omega)]
      simp
    · cases h
  rw [if_neg h1] at h ⊢
  by_cases h3 : k = 3
  · rw [if_pos h3] at h ⊢
    injection h with h
    subst h
    have e : truthW (odd n) = numL (if odd n then 1 else 0) := by cases odd n <;> rfl
    unfold truthS
    rw [e, numS_num _ _ (by split <;> omega)]
    simp only
    rw [if_neg (by split <;> omega)]
  rw [if_neg h3] at h ⊢
  by_cases h4 : k = 4
  · rw [if_pos h4] at h ⊢
    unfold idW at h
    split at h
    · next hq =>
      injection h with h
      subst h
      unfold idOk at hq
      simp only [Bool.and_eq_true, decide_eq_true_eq] at hq
      unfold idS
      rw [List.append_assoc, numS_num _ _ (by omega)]
      simp only
      rw [numS_num _ _ (by omega)]
      simp only
      rw [if_neg (by omega)]
    · cases h
  rw [if_neg h4] at h ⊢
  unfold vecW at h
  split at h
  · next hq =>
    injection h with h
    subst h
    rw [vecS_vec _ rest hq.1 hq.2 (cutL_last vs)]
  · cases h
/-- The words of a list of items. -/
def wordsL (os : List (Option (List Int))) : List Int := os.flatMap fun o => o.getD []
def wordsB (os : List (Option (List Int))) : Bool := os.any fun o => o.isNone
def wrL (os : List (Option (List Int))) : List Int := (os.foldl (fun s o => (wadd s.1 s.2 o, wbad s.2 o)) (([] : List Int), false)).1
theorem fold_snd (os : List (Option (List Int))) : ∀ s : List Int × Bool, (os.foldl (fun s o => (wadd s.1 s.2 o, wbad s.2 o)) s).2 = (s.2 || wordsB os) := by
  induction os with
  | nil => intro s; simp [wordsB]
  | cons o os ih => intro s; rw [List.foldl_cons, ih]; simp [wordsB, wbad, Bool.or_assoc]
theorem fold_fst (os : List (Option (List Int))) : ∀ s : List Int × Bool, s.2 = false → wordsB os = false → (os.foldl (fun s o => (wadd s.1 s.2 o, wbad s.2 o)) s).1 = s.1 ++ wordsL os := by
  induction os with
  | nil => intro s _ _; simp [wordsL]
  | cons o os ih =>
    intro s hs hb
    simp only [wordsB, List.any_cons, Bool.or_eq_false_iff] at hb
    rw [List.foldl_cons, ih _ (by simp [wbad, hs, hb.1]) hb.2]
    simp [wadd, hs, wordsL, List.append_assoc]
theorem wrL_good (os : List (Option (List Int))) (h : wordsB os = false) : wrL os = wordsL os := by
  unfold wrL
  rw [fold_fst os _ rfl h]
  rfl
theorem wrL_snoc (os : List (Option (List Int))) (o : Option (List Int)) : wrL (os ++ [o]) = wadd (wrL os) (wordsB os) o := by
  unfold wrL
  rw [List.foldl_append]
  simp only [List.foldl_cons, List.foldl_nil]
  rw [fold_snd]
  rfl
theorem wordsB_snoc (os : List (Option (List Int))) (o : Option (List Int)) : wordsB (os ++ [o]) = wbad (wordsB os) o := by simp [wordsB, wbad]
theorem wordsL_snoc (os : List (Option (List Int))) (o : Option (List Int)) : wordsL (os ++ [o]) = wordsL os ++ o.getD [] := by simp [wordsL]
end Go.Proofs.Ythbalmoafpggdaa

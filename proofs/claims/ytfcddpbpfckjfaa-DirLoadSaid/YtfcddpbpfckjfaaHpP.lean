/- Heaps, in plain Lean: what up and down keep. No Go program in this text. -/
set_option linter.unusedVariables false
set_option linter.unusedSimpArgs false
set_option linter.unusedSectionVars false
namespace Go.Proofs.Ytfcddpbpfckjfaa
namespace Hq
variable {α : Type} [Inhabited α]
def sw (xs : Array α) (i j : Nat) : Array α := (xs.setIfInBounds i xs[j]!).setIfInBounds j xs[i]!
theorem sw_size (xs : Array α) (i j : Nat) : (sw xs i j).size = xs.size := by simp [sw]
theorem get_set (xs : Array α) (i : Nat) (a : α) (hi : i < xs.size) (k : Nat) : (xs.setIfInBounds i a)[k]! = if k = i then a else xs[k]! := by
  by_cases h : k = i
  · subst h; simp [hi]
  · rw [if_neg h]
    simp [getElem!_def, Array.getElem?_setIfInBounds_ne (Ne.symm h)]
theorem sw_get (xs : Array α) (i j : Nat) (hi : i < xs.size) (hj : j < xs.size) (k : Nat) : (sw xs i j)[k]! = if k = j then xs[i]! else if k = i then xs[j]! else xs[k]! := by
  unfold sw
  rw [get_set _ _ _ (by simpa using hj), get_set _ _ _ hi]
theorem sw_perm (xs : Array α) (i j : Nat) (hi : i < xs.size) (hj : j < xs.size) : (sw xs i j).toList.Perm xs.toList := by
  have e : sw xs i j = xs.swap i j hi hj := by
    apply Array.ext
    · simp [sw]
    · intro k h1 h2
      have a := sw_get xs i j hi hj k
      rw [getElem!_pos _ k h1] at a
      rw [a, Array.getElem_swap]
      by_cases e1 : k = j
      · subst e1
        by_cases e2 : k = i
        · subst e2; simp [hi]
        · simp [e2, hi]
      · by_cases e2 : k = i
        · subst e2; simp [e1, hj]
        · have hk : k < xs.size := by simpa [sw] using h1
          simp [e1, e2, hk]
  rw [e]
  exact Array.perm_iff_toList_perm.1 (Array.swap_perm hi hj)
/-- A strict order whose ties are a tie for all. -/
structure Ord (lt : α → α → Bool) : Prop where
  trans : ∀ a b c, lt b a = false → lt c b = false → lt c a = false
  asymm : ∀ a b, lt a b = true → lt b a = false
theorem Ord.irrefl {lt : α → α → Bool} (h : Ord lt) (a : α) : lt a a = false := by
  by_cases e : lt a a = true
  · exact h.asymm _ _ e
  · simpa using e
def IsHeap (lt : α → α → Bool) (xs : Array α) (n : Nat) : Prop := ∀ k, 0 < k → k < n → lt xs[k]! xs[(k - 1) / 2]! = false
def UpInv (lt : α → α → Bool) (xs : Array α) (j : Nat) : Prop :=
  (∀ k, 0 < k → k < xs.size → k ≠ j → lt xs[k]! xs[(k - 1) / 2]! = false) ∧ (∀ c, 0 < c → c < xs.size → (c - 1) / 2 = j → 0 < j → lt xs[c]! xs[(j - 1) / 2]! = false)
theorem up_begin {lt : α → α → Bool} {xs : Array α} (j : Nat) (hj : j + 1 = xs.size) (h : IsHeap lt xs j) : UpInv lt xs j :=
  ⟨fun k h0 h1 h2 => h k h0 (by omega), fun c h0 h1 h2 h3 => by omega⟩
theorem up_step {lt : α → α → Bool} (O : Ord lt) {xs : Array α} {i j : Nat} (hj : j < xs.size) (h0 : 0 < j) (hi : (j - 1) / 2 = i) (hl : lt xs[j]! xs[i]! = true) (h : UpInv lt xs j) : UpInv lt (sw xs i j) i := by
  have hi' : i < xs.size := by omega
  have hij : i < j := by omega
  have ha := O.asymm _ _ hl
  have g := sw_get xs i j hi' hj
  obtain ⟨h1, h2⟩ := h
  constructor
  · intro k k0 k1 k2
    rw [sw_size] at k1
    by_cases e1 : k = j
    · subst e1
      rw [hi, g, g, if_pos rfl, if_neg (by omega), if_pos rfl]
      exact ha
    · by_cases e2 : (k - 1) / 2 = j
      · rw [e2, g, g, if_neg e1, if_neg k2, if_pos rfl]
        have := h2 k k0 k1 e2 h0
        rwa [hi] at this
      · by_cases e3 : (k - 1) / 2 = i
        · rw [e3, g, g, if_neg e1, if_neg k2, if_neg (by omega), if_pos rfl]
          have h3 := h1 k k0 k1 e1
          rw [e3] at h3
          exact O.trans _ _ _ ha h3
        · rw [g, g, if_neg e1, if_neg k2, if_neg e2, if_neg e3]
          exact h1 k k0 k1 e1
  · intro c c0 c1 c2 i0
    rw [sw_size] at c1
    have hp : lt xs[i]! xs[(i - 1) / 2]! = false := h1 i i0 hi' (by omega)
    rw [g, g, if_neg (show ¬ (i - 1) / 2 = j by omega), if_neg (show ¬ (i - 1) / 2 = i by omega)]
    by_cases e1 : c = j
    · rw [if_pos e1]; exact hp
    · rw [if_neg e1, if_neg (by omega)]
      have h3 := h1 c c0 c1 e1
      rw [c2] at h3
      exact O.trans _ _ _ hp h3
theorem up_done {lt : α → α → Bool} {xs : Array α} {j : Nat} (h : UpInv lt xs j) (hd : j = 0 ∨ lt xs[j]! xs[(j - 1) / 2]! = false) : IsHeap lt xs xs.size := by
  intro k k0 k1
  by_cases e : k = j
  · subst e
    rcases hd with hd | hd
    · omega
    · exact hd
  · exact h.1 k k0 k1 e
def DnInv (lt : α → α → Bool) (xs : Array α) (n i : Nat) : Prop :=
  (∀ k, 0 < k → k < n → (k - 1) / 2 ≠ i → lt xs[k]! xs[(k - 1) / 2]! = false) ∧ (∀ c, 0 < c → c < n → (c - 1) / 2 = i → 0 < i → lt xs[c]! xs[(i - 1) / 2]! = false)
theorem dn_step {lt : α → α → Bool} (O : Ord lt) {xs : Array α} {n i j : Nat} (hn : n ≤ xs.size) (hj : j < n) (h0 : 0 < j) (hi : (j - 1) / 2 = i) (hl : lt xs[j]! xs[i]! = true) (hm : ∀ c, 0 < c → c < n → (c - 1) / 2 = i → lt xs[c]! xs[j]! = false) (h : DnInv lt xs n i) : DnInv lt (sw xs i j) n j := by
  have hi' : i < xs.size := by omega
  have hj' : j < xs.size := by omega
  have hij : i < j := by omega
  have ha := O.asymm _ _ hl
  have g := sw_get xs i j hi' hj'
  obtain ⟨h1, h2⟩ := h
  constructor
  · intro k k0 k1 k2
    by_cases e1 : (k - 1) / 2 = i
    · rw [e1, g, g, if_neg (show ¬ i = j by omega), if_pos rfl]
      by_cases e2 : k = j
      · rw [if_pos e2]; exact ha
      · rw [if_neg e2, if_neg (by omega)]; exact hm k k0 k1 e1
    · rw [g k, g ((k - 1) / 2), if_neg k2, if_neg e1, if_neg (show ¬ k = j by rintro rfl; exact e1 hi)]
      by_cases e3 : k = i
      · subst e3
        rw [if_pos rfl]
        exact h2 j h0 hj hi k0
      · rw [if_neg e3]; exact h1 k k0 k1 e1
  · intro c c0 c1 c2 _
    rw [hi, g, g, if_neg (by omega), if_neg (by omega), if_neg (show ¬ i = j by omega), if_pos rfl]
    have h3 := h1 c c0 c1 (by omega)
    rwa [c2] at h3
theorem dn_done {lt : α → α → Bool} {xs : Array α} {n i : Nat} (h : DnInv lt xs n i) (hd : ∀ c, 0 < c → c < n → (c - 1) / 2 = i → lt xs[c]! xs[i]! = false) : IsHeap lt xs n := by
  intro k k0 k1
  by_cases e : (k - 1) / 2 = i
  · rw [e]; exact hd k k0 k1 e
  · exact h.1 k k0 k1 e
theorem dn_begin {lt : α → α → Bool} {xs : Array α} (n : Nat) (hn : n + 1 = xs.size) (h : IsHeap lt xs xs.size) : DnInv lt (sw xs 0 n) n 0 := by
  have g := sw_get xs 0 n (by omega) (by omega)
  constructor
  · intro k k0 k1 k2
    rw [g, g, if_neg (by omega), if_neg (by omega), if_neg (by omega), if_neg k2]
    exact h k k0 (by omega)
  · intro c _ _ _ h0
    omega
theorem root {lt : α → α → Bool} (O : Ord lt) {xs : Array α} {n : Nat} (h : IsHeap lt xs n) : ∀ k, k < n → lt xs[k]! xs[0]! = false := by
  intro k
  induction k using Nat.strongRecOn with
  | ind k ih =>
    intro hk
    by_cases e : k = 0
    · subst e; exact O.irrefl _
    · exact O.trans _ _ _ (ih ((k - 1) / 2) (by omega) (by omega)) (h k (by omega) hk)
/-- The children of i ahead of n are 2 i + 1 and the one behind it. -/
theorem kids {c i : Nat} (h0 : 0 < c) (h : (c - 1) / 2 = i) : c = 2 * i + 1 ∨ c = 2 * i + 2 := by omega
theorem pop_list {xs : Array α} {n : Nat} (hn : n + 1 = xs.size) : xs.toList = xs.pop.toList ++ [xs[n]!] := by
  have hs : 0 < xs.size := by omega
  have : xs = xs.pop.push xs[n]! := by
    apply Array.ext
    · simp; omega
    · intro k h1 h2
      rw [Array.getElem_push]
      split
      · simp
      · have : k = n := by simp at *; omega
        subst this; simp [h1]
  conv => lhs; rw [this]
  simp
theorem heap_pop {lt : α → α → Bool} {xs : Array α} {n : Nat} (hn : n + 1 = xs.size) (h : IsHeap lt xs n) : IsHeap lt xs.pop xs.pop.size := by
  have g : ∀ k, k < n → xs.pop[k]! = xs[k]! := by
    intro k hk
    simp [getElem!_def, Array.getElem?_pop, show k < xs.size - 1 by omega, show k < xs.size by omega]
  intro k k0 k1
  simp at k1
  rw [g k (by omega), g ((k - 1) / 2) (by omega)]
  exact h k k0 (by omega)
theorem heap_push {lt : α → α → Bool} {xs : Array α} (x : α) (h : IsHeap lt xs xs.size) : IsHeap lt (xs.push x) xs.size := by
  have g : ∀ k, k < xs.size → (xs.push x)[k]! = xs[k]! := by
    intro k hk
    simp [getElem!_def, Array.getElem?_push, show k ≠ xs.size by omega]
  intro k k0 k1
  rw [g k k1, g ((k - 1) / 2) (by omega)]
  exact h k k0 k1
end Hq
end Go.Proofs.Ytfcddpbpfckjfaa

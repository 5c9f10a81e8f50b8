/- Descriptors, in plain Lean: the table with a heap of closed numbers against the reference's row of 32. -/
import Derived.Test.YtfcddpbpfckjfaaHpP
import Derived.Test.YtfcddpbpfckjfaaFg4
namespace Go.Proofs.Ytfcddpbpfckjfaa
set_option linter.unusedVariables false
set_option linter.unusedSimpArgs false
/-- The numbers that are closed, from n on. -/
def cl : Nat → List Fil → List Int
  | _, [] => []
  | n, f :: fs => if f.op then cl (n + 1) fs else (n : Int) :: cl (n + 1) fs
theorem cl_mem : ∀ (fs : List Fil) (n : Nat) (a : Int), a ∈ cl n fs ↔ ∃ k : Nat, ∃ h : k < fs.length, a = ((n + k : Nat) : Int) ∧ fs[k].op = false
  | [], n, a => by simp [cl]
  | f :: fs, n, a => by
    have ih := cl_mem fs (n + 1) a
    have key : (∃ k : Nat, ∃ h : k < (f :: fs).length, a = ((n + k : Nat) : Int) ∧ (f :: fs)[k].op = false) ↔ (a = (n : Int) ∧ f.op = false) ∨ ∃ k : Nat, ∃ h : k < fs.length, a = ((n + 1 + k : Nat) : Int) ∧ fs[k].op = false := by
      constructor
      · rintro ⟨k, h, h1, h2⟩
        rcases k with _ | k
        · exact .inl ⟨by simpa using h1, h2⟩
        · exact .inr ⟨k, by simpa using h, by rw [h1]; congr 1; omega, h2⟩
      · rintro (⟨h1, h2⟩ | ⟨k, h, h1, h2⟩)
        · exact ⟨0, by simp, by simpa using h1, h2⟩
        · exact ⟨k + 1, by simpa using h, by rw [h1]; congr 1; omega, h2⟩
    rw [key, ← ih, cl]
    cases hf : f.op <;> simp
theorem cl_close : ∀ (fs : List Fil) (n k : Nat) (f : Fil) (h : k < fs.length), fs[k].op = true → f.op = false → (cl n (fs.set k f)).Perm (((n + k : Nat) : Int) :: cl n fs)
  | x :: fs, n, 0, f, h, h1, h2 => by
    simp at h1
    simp [cl, h1, h2]
  | x :: fs, n, k + 1, f, h, h1, h2 => by
    have ih := cl_close fs (n + 1) k f (by simpa using h) (by simpa using h1) h2
    rw [List.set_cons_succ, cl, cl, show n + (k + 1) = n + 1 + k by omega]
    cases hf : x.op
    · simp only [Bool.false_eq_true, if_false]
      exact (List.Perm.cons _ ih).trans (List.Perm.swap _ _ _)
    · simpa using ih
theorem cl_open : ∀ (fs : List Fil) (n k : Nat) (f : Fil) (h : k < fs.length), fs[k].op = false → f.op = true → (cl n fs).Perm (((n + k : Nat) : Int) :: cl n (fs.set k f))
  | x :: fs, n, 0, f, h, h1, h2 => by
    simp at h1
    simp [cl, h1, h2]
  | x :: fs, n, k + 1, f, h, h1, h2 => by
    have ih := cl_open fs (n + 1) k f (by simpa using h) (by simpa using h1) h2
    rw [List.set_cons_succ, cl, cl, show n + (k + 1) = n + 1 + k by omega]
    cases hf : x.op
    · simp only [Bool.false_eq_true, if_false]
      exact (List.Perm.cons _ ih).trans (List.Perm.swap _ _ _)
    · simpa using ih
theorem cl_same : ∀ (fs : List Fil) (n k : Nat) (f : Fil) (h : k < fs.length), f.op = fs[k].op → cl n (fs.set k f) = cl n fs
  | x :: fs, n, 0, f, h, h1 => by
    simp at h1
    simp [cl, h1]
  | x :: fs, n, k + 1, f, h, h1 => by
    have ih := cl_same fs (n + 1) k f (by simpa using h) (by simpa using h1)
    rw [List.set_cons_succ, cl, cl, ih]
theorem cl_snoc : ∀ (fs : List Fil) (n : Nat) (f : Fil), f.op = true → cl n (fs ++ [f]) = cl n fs
  | [], n, f, h => by simp [cl, h]
  | x :: fs, n, f, h => by
    have ih := cl_snoc fs (n + 1) f h
    rw [List.cons_append, cl, cl, ih]
theorem cl_count : ∀ (fs : List Fil) (n : Nat), fs.countP (·.op) + (cl n fs).length = fs.length
  | [], n => rfl
  | x :: fs, n => by
    have ih := cl_count fs (n + 1)
    rw [cl]
    cases hf : x.op
    · simp [hf]; omega
    · simp [hf]; omega
/-- What stands in the table is what the reference says. -/
structure FRL (fs : List Fil) (xs : Array Int) (rs : List Fil) : Prop where
  len : rs.length = 32
  le : fs.length ≤ 32
  ops : ∀ k (h : k < fs.length), (rs.getD k zFil).op = fs[k].op
  far : ∀ k, fs.length ≤ k → (rs.getD k zFil).op = false
  same : ∀ k (h : k < fs.length), fs[k].op = true → rs.getD k zFil = fs[k]
  heap : Hq.IsHeap ilt xs xs.size
  perm : xs.toList.Perm (cl 0 fs)
theorem FRL.size {fs : List Fil} {xs : Array Int} {rs : List Fil} (h : FRL fs xs rs) : fs.countP (·.op) + xs.size = fs.length := by
  have h1 := cl_count fs 0
  have h2 := h.perm.length_eq
  simp at h2
  omega
theorem count_getD : ∀ (n : Nat) (rs fs : List Fil), rs.length = n → fs.length ≤ n → (∀ k (h : k < fs.length), (rs.getD k zFil).op = fs[k].op) → (∀ k, fs.length ≤ k → (rs.getD k zFil).op = false) → rs.countP (·.op) = fs.countP (·.op)
  | 0, rs, fs, h1, h2, _, _ => by
    have e1 : rs = [] := List.length_eq_zero_iff.1 h1
    have e2 : fs = [] := List.length_eq_zero_iff.1 (by omega)
    rw [e1, e2]
  | n + 1, [], fs, h1, _, _, _ => by cases h1
  | n + 1, r :: rs, [], h1, h2, h3, h4 => by
    have ih := count_getD n rs [] (by simpa using h1) (by simp) (fun k h => by simp at h) (fun k _ => by simpa using h4 (k + 1) (by simp))
    have h0 := h4 0 (by simp)
    simp at h0
    simp [h0]
    simpa using ih
  | n + 1, r :: rs, f :: fs, h1, h2, h3, h4 => by
    have ih := count_getD n rs fs (by simpa using h1) (by simpa using h2) (fun k h => h3 (k + 1) (by simpa using h)) (fun k h => by simpa using h4 (k + 1) (by simpa using h))
    have h0 := h3 0 (by simp)
    simp at h0
    simp [List.countP_cons, h0, ih]
theorem FRL.count {fs : List Fil} {xs : Array Int} {rs : List Fil} (h : FRL fs xs rs) : rs.countP (·.op) = fs.countP (·.op) :=
  count_getD 32 rs fs h.len h.le h.ops h.far
theorem getD_set (l : List Fil) (k i : Nat) (f : Fil) (hk : k < l.length) : (l.set k f).getD i zFil = if i = k then f else l.getD i zFil := by
  by_cases e : i = k
  · subst e; simp [hk]
  · rw [if_neg e]; simp [List.getD_eq_getElem?_getD, List.getElem?_set_ne (Ne.symm e)]
theorem FRL.open_ {fs : List Fil} {xs : Array Int} {rs : List Fil} (h : FRL fs xs rs) (k : Nat) (ho : (rs.getD k zFil).op = true) : ∃ hk : k < fs.length, fs[k].op = true ∧ rs.getD k zFil = fs[k] := by
  rcases Nat.lt_or_ge k fs.length with hk | hk
  · have h1 := h.ops k hk
    rw [ho] at h1
    exact ⟨hk, h1.symm, h.same k hk h1.symm⟩
  · rw [h.far k hk] at ho; cases ho
theorem FRL.close {fs : List Fil} {xs ys : Array Int} {rs : List Fil} (h : FRL fs xs rs) (k : Nat) (hk : k < fs.length) (ho : fs[k].op = true) (r : Fil) (hr : r.op = false) (hp : ys.toList.Perm (xs.push (k : Int)).toList) (hh : Hq.IsHeap ilt ys ys.size) : FRL (fs.set k zFil) ys (rs.set k r) := by
  have hl := h.len
  have hle := h.le
  refine ⟨by simpa using hl, by simpa using hle, ?_, ?_, ?_, hh, ?_⟩
  · intro i hi
    rw [List.length_set] at hi
    rw [getD_set _ _ _ _ (by omega), List.getElem_set]
    by_cases e : i = k
    · subst e; simp [hr, zFil]
    · rw [if_neg e, if_neg (Ne.symm e)]; exact h.ops i hi
  · intro i hi
    rw [List.length_set] at hi
    rw [getD_set _ _ _ _ (by omega), if_neg (by omega)]
    exact h.far i hi
  · intro i hi h1
    rw [List.length_set] at hi
    rw [List.getElem_set] at h1 ⊢
    rw [getD_set _ _ _ _ (by omega)]
    by_cases e : i = k
    · subst e; simp [zFil] at h1
    · rw [if_neg (Ne.symm e)] at h1 ⊢
      rw [if_neg e]
      exact h.same i hi h1
  · refine hp.trans (List.Perm.trans ?_ (cl_close fs 0 k zFil hk ho rfl).symm)
    rw [Array.toList_push, Nat.zero_add]
    exact (List.perm_append_comm).trans (List.Perm.cons _ h.perm)
theorem FRL.seek {fs : List Fil} {xs : Array Int} {rs : List Fil} (h : FRL fs xs rs) (k : Nat) (hk : k < fs.length) (ho : fs[k].op = true) (n : Int) : FRL (fs.set k {fs[k] with at_ := n}) xs (rs.set k {rs.getD k zFil with at_ := n}) := by
  have hl := h.len
  have hle := h.le
  have hs := h.same k hk ho
  refine ⟨by simpa using hl, by simpa using hle, ?_, ?_, ?_, h.heap, ?_⟩
  · intro i hi
    rw [List.length_set] at hi
    rw [getD_set _ _ _ _ (by omega), List.getElem_set]
    by_cases e : i = k
    · subst e; rw [if_pos rfl, if_pos rfl]; show (rs.getD i zFil).op = fs[i].op; rw [hs]
    · rw [if_neg e, if_neg (Ne.symm e)]; exact h.ops i hi
  · intro i hi
    rw [List.length_set] at hi
    rw [getD_set _ _ _ _ (by omega), if_neg (by omega)]
    exact h.far i hi
  · intro i hi h1
    rw [List.length_set] at hi
    rw [List.getElem_set] at h1 ⊢
    rw [getD_set _ _ _ _ (by omega)]
    by_cases e : i = k
    · subst e; rw [if_pos rfl, if_pos rfl, hs]
    · rw [if_neg (Ne.symm e)] at h1 ⊢
      rw [if_neg e]
      exact h.same i hi h1
  · rw [cl_same fs 0 k {fs[k] with at_ := n} hk rfl]; exact h.perm
theorem FRL.new_ {fs : List Fil} {xs : Array Int} {rs : List Fil} (h : FRL fs xs rs) (hx : xs.size = 0) (hl2 : fs.length < 32) (f : Fil) (hf : f.op = true) : FRL (fs ++ [f]) xs (rs.set fs.length f) ∧ (∀ i, i < fs.length → (rs.getD i zFil).op = true) ∧ (rs.getD fs.length zFil).op = false := by
  have hl := h.len
  have hc : cl 0 fs = [] := by
    have := h.perm.length_eq
    simp [hx] at this
    exact List.length_eq_zero_iff.1 this.symm
  refine ⟨⟨by simpa using hl, by simp; omega, ?_, ?_, ?_, h.heap, ?_⟩, ?_, h.far _ (Nat.le_refl _)⟩
  · intro i hi
    rw [getD_set _ _ _ _ (by omega)]
    by_cases e : i = fs.length
    · subst e; simp
    · simp at hi
      rw [if_neg e, List.getElem_append_left (by omega)]; exact h.ops i (by omega)
  · intro i hi
    simp at hi
    rw [getD_set _ _ _ _ (by omega), if_neg (by omega)]
    exact h.far i (by omega)
  · intro i hi h1
    rw [getD_set _ _ _ _ (by omega)]
    by_cases e : i = fs.length
    · subst e; simp
    · simp at hi
      rw [List.getElem_append_left (by omega)] at h1 ⊢
      rw [if_neg e]; exact h.same i (by omega) h1
  · rw [cl_snoc _ _ _ hf]; exact h.perm
  · intro i hi
    rw [h.ops i hi]
    cases e : fs[i].op
    · exfalso
      have := (cl_mem fs 0 (i : Int)).2 ⟨i, hi, by simp, e⟩
      rw [hc] at this
      cases this
    · rfl
theorem FRL.old {fs : List Fil} {xs : Array Int} {rs : List Fil} (h : FRL fs xs rs) (hx : 0 < xs.size) : ∃ k : Nat, ∃ hk : k < fs.length, xs[0]! = (k : Int) ∧ fs[k].op = false ∧ (∀ i, i < k → (rs.getD i zFil).op = true) := by
  have h0 : xs[0]! ∈ xs.toList := by
    rw [getElem!_pos xs 0 hx]; simp
  obtain ⟨k, hk, h1, h2⟩ := (cl_mem fs 0 _).1 (h.perm.mem_iff.1 h0)
  rw [Nat.zero_add] at h1
  refine ⟨k, hk, h1, h2, fun i hi => ?_⟩
  rw [h.ops i (by omega)]
  cases e : fs[i].op
  · exfalso
    have h3 := h.perm.mem_iff.2 ((cl_mem fs 0 (i : Int)).2 ⟨i, by omega, by simp, e⟩)
    rw [Array.mem_toList_iff] at h3
    obtain ⟨j, hj, h4⟩ := Array.mem_iff_getElem.1 h3
    have h5 := Hq.root ilt_ord h.heap j hj
    rw [getElem!_pos xs j hj, h4, h1] at h5
    simp [ilt] at h5
    omega
  · rfl
theorem FRL.reopen {fs : List Fil} {xs ys : Array Int} {rs : List Fil} (h : FRL fs xs rs) (k : Nat) (hk : k < fs.length) (ho : fs[k].op = false) (f : Fil) (hf : f.op = true) (hp : ((k : Int) :: ys.toList).Perm xs.toList) (hh : Hq.IsHeap ilt ys ys.size) : FRL (fs.set k f) ys (rs.set k f) := by
  have hl := h.len
  have hle := h.le
  refine ⟨by simpa using hl, by simpa using hle, ?_, ?_, ?_, hh, ?_⟩
  · intro i hi
    rw [List.length_set] at hi
    rw [getD_set _ _ _ _ (by omega), List.getElem_set]
    by_cases e : i = k
    · subst e; simp
    · rw [if_neg e, if_neg (Ne.symm e)]; exact h.ops i hi
  · intro i hi
    rw [List.length_set] at hi
    rw [getD_set _ _ _ _ (by omega), if_neg (by omega)]
    exact h.far i hi
  · intro i hi h1
    rw [List.length_set] at hi
    rw [List.getElem_set] at h1 ⊢
    rw [getD_set _ _ _ _ (by omega)]
    by_cases e : i = k
    · subst e; simp
    · rw [if_neg (Ne.symm e)] at h1 ⊢
      rw [if_neg e]
      exact h.same i hi h1
  · have h1 := (hp.trans h.perm).trans (cl_open fs 0 k f hk ho hf)
    rw [Nat.zero_add] at h1
    exact List.Perm.cons_inv h1
theorem FRL.full {fs : List Fil} {xs : Array Int} {rs : List Fil} (h : FRL fs xs rs) (hf : 32 ≤ fs.countP (·.op)) : ∀ i, i < 32 → (rs.getD i zFil).op = true := by
  have h1 := h.size
  have h2 := h.le
  have hc : cl 0 fs = [] := by
    have := h.perm.length_eq
    simp at this
    exact List.length_eq_zero_iff.1 (by omega)
  intro i hi
  have hi2 : i < fs.length := by omega
  rw [h.ops i hi2]
  cases e : fs[i].op
  · exfalso
    have := (cl_mem fs 0 (i : Int)).2 ⟨i, hi2, by simp, e⟩
    rw [hc] at this
    cases this
  · rfl
theorem FRL.zero : FRL [] #[] (List.replicate 32 zFil) := by
  refine ⟨by simp, by simp, fun k h => by simp at h, fun k _ => ?_, fun k h => by simp at h, fun k _ h => by simp at h, by simp [cl]⟩
  rw [List.getD_eq_getElem?_getD, List.getElem?_replicate]
  split <;> rfl
end Go.Proofs.Ytfcddpbpfckjfaa

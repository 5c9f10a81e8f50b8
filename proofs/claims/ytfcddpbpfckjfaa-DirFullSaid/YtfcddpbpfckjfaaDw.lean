/- Laws of the directory of names: 2,048 names, in plain words. -/
import Derived.Test.YtfcddpbpfckjfaaChecked
import Derived.WalkKit
import Derived.Outline
import Derived.WalkSpells
import Derived.WalkLawsBesides
import Derived.Deep.QuietTactic
import Derived.Deep.RegionWith
import Derived.Deep.DeepMust
import Derived.BigQuiet
import Derived.Test.YtfcddpbpfckjfaaDu
namespace Go.Proofs.Ytfcddpbpfckjfaa
open Go.RowKit
set_option linter.unusedVariables false
set_option linter.unusedSimpArgs false
theorem del_keep {L : List Ent} {p : Ent} {s : ByteArray} (h : p ∈ L) (hn : p.1 ≠ s) : p ∈ delL L s := by
  unfold delL
  rw [List.mem_filter]
  exact ⟨h, by simpa using hn⟩
theorem del_len : ∀ {L : List Ent} {p : Ent}, SortL L → p ∈ L → (delL L p.1).length + 1 = L.length
  | [], p, _, hp => by cases hp
  | q :: r, p, hs, hp => by
    have ha := List.pairwise_cons.1 hs.apart
    have hr : SortL r := (List.pairwise_cons.1 hs).2
    unfold delL
    rw [List.filter_cons]
    by_cases e : q.1 = p.1
    · have : (r.filter fun x => !decide (x.1 = p.1)) = r := by
        rw [List.filter_eq_self]
        intro x hx
        have := ha.1 x hx
        rw [e] at this
        simpa using fun e' : x.1 = p.1 => this e'.symm
      simp [e, this]
    · have hp' : p ∈ r := by
        rcases List.mem_cons.1 hp with rfl | h
        · exact absurd rfl e
        · exact h
      have ih := del_len hr hp'
      unfold delL at ih
      simp only [e, decide_false, Bool.not_false, if_true, List.length_cons]
      omega
theorem look_mem {L : List Ent} (hs : SortL L) {p : Ent} (hp : p ∈ L) : lookL L p.1 = some p.2 := by
  obtain ⟨i, hi, rfl⟩ := List.getElem_of_mem hp
  exact lookL_at hs i hi
theorem put_there {L : List Ent} (h : OkL L) {s : ByteArray} {n : Nat} (hl : (lookL L s).isSome = true) (hn : 1 ≤ n ∧ n ≤ 2147483647) : putE L s n = 0 := by
  have hf : localE s.data.toList = 0 := by
    unfold lookL at hl
    rw [Option.isSome_map, List.isSome_find?] at hl
    obtain ⟨p, hp, e⟩ := List.any_eq_true.1 hl
    have e : p.1 = s := by simpa using e
    rw [← e]
    exact h.fine p hp
  unfold putE
  rw [if_neg (by simpa using hf), if_neg (by omega), if_neg (by rw [hl]; simp)]
def nlF (i : Nat) : List Int := [110, 48 + (i : Int) / 1000, 48 + (i : Int) / 100 % 10, 48 + (i : Int) / 10 % 10, 48 + (i : Int) % 10]
def nmF (i : Nat) : ByteArray := strOfNums (nlF i)
theorem nlF_byt {i : Nat} (h : i < 2048) : Byt (nlF i) := by
  intro q hq
  unfold nlF at hq
  simp only [List.mem_cons, List.not_mem_nil, or_false] at hq
  omega
theorem nmF_inj {i j : Nat} (hi : i < 2048) (hj : j < 2048) (h : nmF i = nmF j) : i = j := by
  have e : nlF i = nlF j := by rw [← strL_of (nlF_byt hi), ← strL_of (nlF_byt hj)]; exact congrArg strL h
  unfold nlF at e
  simp only [List.cons.injEq, and_true] at e
  omega
theorem nmF_size (i : Nat) (h : i < 2048) : (nmF i).size = 5 := by
  rw [← strL_len]
  show (strL (strOfNums (nlF i))).length = 5
  rw [strL_of (nlF_byt h)]
  rfl
theorem nmF_fine : ∀ i < 2048, localE (nmF i).data.toList = 0 := by decide +kernel
def fullL (i : Nat) : List Ent := allP [] ((List.range i).map fun j => (nmF j, 1 + j))
theorem fullL_succ (i : Nat) : fullL (i + 1) = putL (fullL i) (nmF i) (1 + i) := by
  unfold fullL allP
  rw [List.range_succ, List.map_append, List.foldl_append]
  rfl
theorem full_spec (i : Nat) (hi : i ≤ 2048) : SortL (fullL i) ∧ (fullL i).Perm ((List.range i).map fun j => (nmF j, 1 + j)) := by
  have := allP_spec ((List.range i).map fun j => (nmF j, 1 + j)) (S := []) List.Pairwise.nil (by
    rw [List.nil_append, List.pairwise_map]
    refine List.pairwise_lt_range.imp_of_mem fun {a b} ha hb h e => ?_
    have ha := List.mem_range.1 ha
    have hb := List.mem_range.1 hb
    have := nmF_inj (by omega) (by omega) e
    omega)
  rwa [List.nil_append] at this
theorem full_len (i : Nat) (hi : i ≤ 2048) : (fullL i).length = i := by
  rw [(full_spec i hi).2.length_eq]
  simp
theorem full_ok (i : Nat) (hi : i ≤ 2048) : OkL (fullL i) := by
  have h := (full_spec i hi).2
  refine ⟨fun p hp => ?_, fun p hp => ?_, by rw [full_len i hi]; exact hi⟩
  · obtain ⟨j, hj, rfl⟩ := List.mem_map.1 (h.mem_iff.1 hp)
    exact nmF_fine j (by have := List.mem_range.1 hj; omega)
  · obtain ⟨j, hj, rfl⟩ := List.mem_map.1 (h.mem_iff.1 hp)
    have := List.mem_range.1 hj
    simp only
    omega
theorem full_put (i : Nat) (hi : i < 2048) : putE (fullL i) (nmF i) ((1 + i : Nat) : Int) = 0 :=
  put_fits (p := (nmF i, 1 + i)) (nmF_fine i hi) (by simp only; omega) (by rw [full_len i (by omega)]; exact hi)
theorem full_mem' (j k : Nat) (s : ByteArray) (hj : j < 2048) (hk : 1 + j = k) (hs : nmF j = s) : (s, k) ∈ fullL 2048 := by
  subst hk hs
  exact (full_spec 2048 (Nat.le_refl _)).2.mem_iff.2 (List.mem_map.2 ⟨j, List.mem_range.2 hj, rfl⟩)
theorem full_mem (j : Nat) (hj : j < 2048) : (nmF j, 1 + j) ∈ fullL 2048 :=
  (full_spec 2048 (Nat.le_refl _)).2.mem_iff.2 (List.mem_map.2 ⟨j, List.mem_range.2 hj, rfl⟩)
def nmMore : ByteArray := ⟨#[109, 111, 114, 101]⟩
def nm7 : ByteArray := ⟨#[110, 48, 48, 48, 55]⟩
def nm2047 : ByteArray := ⟨#[110, 50, 48, 52, 55]⟩
theorem nm7_is : nmF 7 = nm7 := by decide +kernel
theorem nm2047_is : nmF 2047 = nm2047 := by decide +kernel
theorem full_more : putE (fullL 2048) nmMore 5 = 28 := by
  have h1 : localE nmMore.data.toList = 0 := by decide +kernel
  have h2 : (lookL (fullL 2048) nmMore).isSome = false := look_none fun p hp e => by
    obtain ⟨j, hj, rfl⟩ := List.mem_map.1 ((full_spec 2048 (Nat.le_refl _)).2.mem_iff.1 hp)
    have h3 := nmF_size j (List.mem_range.1 hj)
    rw [show nmF j = nmMore from e] at h3
    revert h3
    decide
  unfold putE
  rw [if_neg (by simpa using h1), if_neg (by omega), if_pos ⟨h2, by rw [full_len _ (Nat.le_refl _)]; exact Nat.le_refl _⟩]
theorem full_mem7 : (nm7, 8) ∈ fullL 2048 := full_mem' 7 8 nm7 (by omega) (by omega) nm7_is
theorem full_mem47 : (nm2047, 2048) ∈ fullL 2048 := full_mem' 2047 2048 nm2047 (by omega) (by omega) nm2047_is
theorem full_look7 : lookL (fullL 2048) nm7 = some 8 := look_mem (p := (nm7, 8)) (full_spec 2048 (Nat.le_refl _)).1 full_mem7
theorem full_same : putE (fullL 2048) nm7 9 = 0 := put_there (n := 9) (full_ok 2048 (Nat.le_refl _)) (by rw [full_look7]; rfl) (by omega)
theorem end_gen {L0 L : List Ent} {s t : ByteArray} {a b m : Nat} (ho : OkL L0) (h0 : SortL L0) (h1 : (s, a) ∈ L0) (h2 : (t, b) ∈ L0) (hst : t ≠ s) (hl : L0.length = m) (hp : putE L0 s (9 : Int) = 0) (hL : L = putL L0 s 9) (hs : SortL L) :
    OkL L ∧ lookL L s = some 9 ∧ lookL L t = some b ∧ L.length = m := by
  subst hL
  refine ⟨ho.put (n := 9) hp, look_mem hs (p := (s, 9)) (mem_ins.2 (.inl rfl)), look_mem hs (p := (t, b)) (mem_ins.2 (.inr (del_keep h2 hst))), ?_⟩
  unfold putL
  rw [len_ins]
  have := del_len h0 h1
  rw [hl] at this
  exact this
theorem nm_apart : nm2047 ≠ nm7 := by decide +kernel
theorem full_end {L : List Ent} (hL : L = putL (fullL 2048) nm7 9) (hs : SortL L) : OkL L ∧ lookL L nm7 = some 9 ∧ lookL L nm2047 = some 2048 ∧ L.length = 2048 :=
  end_gen (full_ok 2048 (Nat.le_refl _)) (full_spec 2048 (Nat.le_refl _)).1 full_mem7 full_mem47 nm_apart (full_len 2048 (Nat.le_refl _)) full_same hL hs
end Go.Proofs.Ytfcddpbpfckjfaa

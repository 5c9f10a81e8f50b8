/- A directory of names: how bytes are loaded, in plain words. -/
import Derived.Test.YtfcddpbpfckjfaaChecked
import Derived.WalkKit
import Derived.Outline
import Derived.WalkSpells
import Derived.WalkLawsBesides
import Derived.Deep.QuietTactic
import Derived.Deep.RegionWith
import Derived.Deep.DeepMust
import Derived.BigQuiet
import Derived.Test.YtfcddpbpfckjfaaDq
import Derived.Test.YtfcddpbpfckjfaaBts
namespace Go.Proofs.Ytfcddpbpfckjfaa
open Go.RowKit
set_option linter.unusedVariables false
set_option linter.unusedSimpArgs false
theorem mem_ins {x p : Ent} : ∀ {L : List Ent}, p ∈ insL x L ↔ p = x ∨ p ∈ L
  | [] => by simp [insL]
  | y :: r => by
    unfold insL
    split
    · simp
    · rw [List.mem_cons, mem_ins, List.mem_cons]
      constructor
      · rintro (h | h | h)
        · exact .inr (.inl h)
        · exact .inl h
        · exact .inr (.inr h)
      · rintro (h | h | h)
        · exact .inr (.inl h)
        · exact .inl h
        · exact .inr (.inr h)
theorem len_ins (x : Ent) : ∀ L : List Ent, (insL x L).length = L.length + 1
  | [] => rfl
  | y :: r => by
    unfold insL
    split
    · simp
    · simp [len_ins x r]
theorem del_less {L : List Ent} {s : ByteArray} (h : (lookL L s).isSome = true) : (delL L s).length < L.length := by
  unfold lookL at h
  rw [Option.isSome_map, List.isSome_find?] at h
  obtain ⟨p, hp, e⟩ := List.any_eq_true.1 h
  exact List.length_filter_lt_length_iff_exists.2 ⟨p, hp, by simpa using e⟩
theorem del_none {L : List Ent} {s : ByteArray} (ht : (lookL L s).isSome = false) : delL L s = L := by
  unfold delL
  unfold lookL at ht
  rw [Option.isSome_map, List.isSome_find?] at ht
  rw [List.filter_eq_self]
  intro p hp
  rw [List.any_eq_false] at ht
  have := ht p hp
  simpa using this
theorem OkL.del {L : List Ent} (h : OkL L) (s : ByteArray) : OkL (delL L s) :=
  ⟨fun p hp => h.fine p ((List.mem_filter.1 hp).1), fun p hp => h.num p ((List.mem_filter.1 hp).1), Nat.le_trans (List.length_filter_le _ _) h.len⟩
theorem OkL.put {L : List Ent} (h : OkL L) {s : ByteArray} {n : Int} (he : putE L s n = 0) : OkL (putL L s n.toNat) := by
  unfold putE at he
  by_cases h1 : localE s.data.toList = 0
  · rw [if_neg (by simpa using h1)] at he
    by_cases h2 : n < 1 ∨ n > 2147483647
    · rw [if_pos h2] at he; cases he
    · rw [if_neg h2] at he
      have hd := h.del s
      refine ⟨fun p hp => ?_, fun p hp => ?_, ?_⟩
      · rcases mem_ins.1 hp with e | e
        · rw [e]; exact h1
        · exact hd.fine p e
      · rcases mem_ins.1 hp with e | e
        · rw [e]; simp only; omega
        · exact hd.num p e
      · unfold putL
        rw [len_ins]
        have hl := h.len
        by_cases h3 : (lookL L s).isSome = true
        · have := del_less h3; omega
        · have h3 : (lookL L s).isSome = false := by simpa using h3
          rw [del_none h3]
          by_cases h4 : 2048 ≤ L.length
          · rw [if_pos ⟨h3, h4⟩] at he; cases he
          · omega
  · rw [if_pos (by simpa using h1)] at he
    exact absurd he h1
theorem OkL.nil : OkL [] := ⟨(fun p hp => nomatch hp), (fun p hp => nomatch hp), Nat.zero_le _⟩
theorem entB_byt {p : Ent} (hp : p.1.size ≤ 255) (hn : p.2 < 4294967296) : Byt (entB p) := by
  unfold entB
  intro q hq
  simp only [List.mem_append, List.mem_cons] at hq
  rcases hq with (h | h) | h
  · rw [h]; omega
  · exact strL_byt _ q h
  · unfold le4 at h
    simp only [List.mem_cons, List.not_mem_nil, or_false] at h
    omega
theorem put_mem {xss : List (List Int)} {p : Ent} {x : List Int} (h : x ∈ putB xss p) : x ∈ xss ∨ ∃ y, (y ∈ xss ∨ y = []) ∧ x = y ++ entB p := by
  unfold putB at h
  simp only at h
  rcases List.mem_or_eq_of_mem_set h with h | h
  · exact .inl h
  · refine .inr ⟨_, ?_, h⟩
    rw [List.getD_eq_getElem?_getD]
    cases hq : xss[slotB xss (entB p).length (crcOf (strL p.1) % xss.length)]? with
    | none => exact .inr rfl
    | some y => exact .inl (List.mem_of_getElem? hq)
theorem fill_byt {L : List Ent} (h : OkL L) : ∀ k, k ≤ L.length → ∀ x ∈ fillB L k, Byt x
  | 0, _ => fun x hx q hq => by
    unfold fillB at hx
    simp at hx
    rw [hx.2] at hq
    cases hq
  | k + 1, hk => fun x hx => by
    rw [fill_succ L k hk] at hx
    have ih := fill_byt h k (by omega)
    have hm := List.getElem_mem hk
    have he : Byt (entB L[k]) := entB_byt (by have := (h.size hm).2; omega) (by have := (h.num _ hm).2; omega)
    rcases put_mem hx with e | ⟨y, e | e, rfl⟩
    · exact ih x e
    · exact (ih y e).append he
    · rw [e]; exact he
theorem dirB_byt {L : List Ent} (h : OkL L) : ∀ q ∈ dirB L, 0 ≤ q ∧ q < 256 := by
  intro q hq
  unfold dirB at hq
  rw [List.mem_flatten] at hq
  obtain ⟨y, hy, hq⟩ := hq
  rw [List.mem_map] at hy
  obtain ⟨x, hx, rfl⟩ := hy
  unfold padB at hq
  rcases List.mem_append.1 hq with e | e
  · exact fill_byt h _ (Nat.le_refl _) x hx q e
  · have := (List.mem_replicate.1 e).2
    omega
/-- Where the number of the entry stands with which bytes begin. -/
def nextN (r : List Int) : Nat := 1 + (r.getD 0 0).toNat
def nameR (r : List Int) : ByteArray := strOfNums ((r.drop 1).take (nextN r - 1))
def entR (r : List Int) (L : List Ent) : Option (List Ent) :=
  if r.length < nextN r + 4 then none else if putE L (nameR r) (get4 (r.drop (nextN r)) : Nat) = 0 then some (putL L (nameR r) (get4 (r.drop (nextN r)))) else none
def blkR : Nat → List Int → List Ent → Option (List Ent)
  | 0, _, L => some L
  | f + 1, r, L => if r = [] ∨ r.getD 0 0 = 0 then some L else (entR r L).bind (blkR f (r.drop (nextN r + 4)))
def chunkR (b : List Int) (i : Nat) : List Int := (b.drop (512 * i)).take 512
def loadR (b : List Int) : Nat → Option (List Ent)
  | 0 => some []
  | i + 1 => (loadR b i).bind (blkR 512 (chunkR b i))
def dirR (b : List Int) : Option (List Ent) :=
  if b.length % 512 ≠ 0 then none else match loadR b (b.length / 512) with
    | none => none
    | some L => if dirB L = b then some L else none
theorem entR_ok {r : List Int} {L L' : List Ent} (h : OkL L) (he : entR r L = some L') : OkL L' := by
  unfold entR at he
  split at he
  · cases he
  · split at he
    · next h2 =>
      injection he with he
      subst he
      exact h.put h2
    · cases he
theorem blk_end (f : Nat) (r : List Int) (L : List Ent) (h : r = [] ∨ r.getD 0 0 = 0) : blkR f r L = some L := by
  cases f with
  | zero => rfl
  | succ f => rw [blkR, if_pos h]
theorem load_none {b : List Int} {i : Nat} (h : loadR b i = none) : ∀ m, i ≤ m → loadR b m = none
  | 0, hm => by
    obtain rfl : i = 0 := by omega
    exact h
  | m + 1, hm => by
    by_cases e : i = m + 1
    · rw [← e]; exact h
    · rw [loadR, load_none h m (by omega)]
      rfl
end Go.Proofs.Ytfcddpbpfckjfaa

/- A directory of names: what is written is loaded, in plain words. -/
import Derived.Test.YtfcddpbpfckjfaaChecked
import Derived.WalkKit
import Derived.Outline
import Derived.WalkSpells
import Derived.WalkLawsBesides
import Derived.Deep.QuietTactic
import Derived.Deep.RegionWith
import Derived.Deep.DeepMust
import Derived.BigQuiet
import Derived.Test.YtfcddpbpfckjfaaDf
import Derived.Test.YtfcddpbpfckjfaaDs
namespace Go.Proofs.Ytfcddpbpfckjfaa
open Go.RowKit
set_option linter.unusedVariables false
set_option linter.unusedSimpArgs false
theorem slt_total {a b : ByteArray} (h : slt a b = false) (hn : a ≠ b) : slt b a = true := by
  cases h2 : slt b a with
  | true => rfl
  | false => exact absurd (slt_anti h h2) hn
theorem slt_trans {a b c : ByteArray} (h1 : slt a b = true) (h2 : slt b c = true) : slt a c = true := by
  unfold slt at *
  rw [bytesLess_eq, decide_eq_true_eq] at *
  exact List.lt_trans h1 h2
theorem ins_perm (x : Ent) : ∀ L : List Ent, (insL x L).Perm (x :: L)
  | [] => List.Perm.refl _
  | y :: r => by
    unfold insL
    split
    · exact List.Perm.refl _
    · exact ((ins_perm x r).cons y).trans (List.Perm.swap _ _ _)
theorem ins_sort {x : Ent} : ∀ {L : List Ent}, SortL L → (∀ p ∈ L, p.1 ≠ x.1) → SortL (insL x L)
  | [], _, _ => List.pairwise_singleton _ _
  | y :: r, h, hn => by
    have hy := List.pairwise_cons.1 h
    unfold insL
    split
    · next e =>
      refine List.pairwise_cons.2 ⟨fun q hq => ?_, h⟩
      rcases List.mem_cons.1 hq with rfl | hq
      · exact e
      · exact slt_trans e (hy.1 q hq)
    · next e =>
      have e : slt x.1 y.1 = false := by simpa using e
      refine List.pairwise_cons.2 ⟨fun q hq => ?_, ins_sort hy.2 fun p hp => hn p (List.mem_cons_of_mem _ hp)⟩
      rcases mem_ins.1 hq with rfl | hq
      · exact slt_total e (fun e' => hn y List.mem_cons_self e'.symm)
      · exact hy.1 q hq
theorem sort_uniq {L L' : List Ent} (h : SortL L) (h' : SortL L') (hp : L.Perm L') : L = L' :=
  hp.eq_of_pairwise (fun a b _ _ h1 h2 => by
    have := slt_ord.asymm _ _ h1
    rw [h2] at this
    cases this) h h'
theorem look_none {L : List Ent} {s : ByteArray} (h : ∀ p ∈ L, p.1 ≠ s) : (lookL L s).isSome = false := by
  unfold lookL
  rw [Option.isSome_map, List.isSome_find?, List.any_eq_false]
  intro p hp
  simpa using h p hp
theorem put_new {L : List Ent} {s : ByteArray} {n : Nat} (h : ∀ p ∈ L, p.1 ≠ s) : putL L s n = insL (s, n) L := by
  unfold putL
  rw [del_none (look_none h)]
/-- What comes of entries that are put, the one behind the other. -/
def allP (L : List Ent) (q : List Ent) : List Ent := q.foldl (fun S p => putL S p.1 p.2) L
theorem allP_spec : ∀ (q : List Ent) {S : List Ent}, SortL S → (S ++ q).Pairwise (fun a b => a.1 ≠ b.1) → SortL (allP S q) ∧ (allP S q).Perm (S ++ q)
  | [], S, hS, _ => by
    refine ⟨hS, ?_⟩
    rw [List.append_nil]
    exact List.Perm.refl _
  | p :: r, S, hS, hn => by
    have hn' := List.pairwise_append.1 hn
    have hp : ∀ x ∈ S, x.1 ≠ p.1 := fun x hx => hn'.2.2 x hx p List.mem_cons_self
    have e : allP S (p :: r) = allP (insL p S) r := by
      unfold allP
      rw [List.foldl_cons, put_new hp]
    have hpm : (insL p S ++ r).Perm (S ++ p :: r) := by
      refine ((ins_perm p S).append_right r).trans ?_
      rw [List.cons_append]
      exact List.perm_middle.symm
    have := allP_spec r (S := insL p S) (ins_sort hS hp) ((hpm.pairwise_iff fun {a b} h e => h e.symm).2 hn)
    rw [e]
    exact ⟨this.1, this.2.trans hpm⟩
def rowB (es : List Ent) : List Int := (es.map entB).flatten
theorem row_snoc (es : List Ent) (p : Ent) : rowB (es ++ [p]) = rowB es ++ entB p := by unfold rowB; simp
theorem map_set_getD {ess : List (List Ent)} {k : Nat} {p : Ent} (hk : k < ess.length) : (ess.map rowB).set k ((ess.map rowB).getD k [] ++ entB p) = (ess.set k (ess.getD k [] ++ [p])).map rowB := by
  rw [List.map_set, row_snoc]
  congr 2
  simp [List.getD_eq_getElem?_getD, hk]
theorem flat_set {α : Type} (p : α) : ∀ (ess : List (List α)) (k : Nat), k < ess.length → ((ess.set k (ess.getD k [] ++ [p])).flatten).Perm (ess.flatten ++ [p])
  | [], _, h => by simp at h
  | es :: r, 0, _ => by
    simp only [List.set_cons_zero, List.getD_cons_zero, List.flatten_cons, List.append_assoc]
    exact List.Perm.append_left _ List.perm_append_comm
  | es :: r, k + 1, h => by
    simp only [List.set_cons_succ, List.getD_cons_succ, List.flatten_cons, List.append_assoc]
    exact List.Perm.append_left _ (flat_set p r k (by simpa using h))
theorem fill_rows {L : List Ent} (h : OkL L) : ∀ k, k ≤ L.length → ∃ ess : List (List Ent), fillB L k = ess.map rowB ∧ ess.flatten.Perm (L.take k)
  | 0, _ => ⟨List.replicate (rowsB L) [], by unfold fillB rowB; simp, by simp⟩
  | k + 1, hk => by
    obtain ⟨ess, h1, h2⟩ := fill_rows h k (by omega)
    have I := inv_fill h k (by omega)
    have hl : ess.length = rowsB L := by rw [← I.len, h1]; simp
    have hm : 0 < (fillB L k).length := by rw [I.len]; unfold rowsB; omega
    rw [fill_succ L k hk]
    unfold putB
    simp only
    have hs : slotB (fillB L k) (entB L[k]).length (crcOf (strL L[k].1) % (fillB L k).length) < ess.length := by
      have := slot_lt (xss := fillB L k) (entB L[k]).length (i0 := crcOf (strL L[k].1) % (fillB L k).length) hm
      rw [hl, ← I.len]
      exact this
    generalize slotB (fillB L k) (entB L[k]).length (crcOf (strL L[k].1) % (fillB L k).length) = t at *
    refine ⟨ess.set t (ess.getD t [] ++ [L[k]]), by rw [h1, map_set_getD hs], (flat_set _ ess t hs).trans ?_⟩
    rw [List.take_succ_eq_append_getElem hk]
    exact h2.append_right _
theorem get4_le4' (x : Nat) (hx : x < 4294967296) (r : List Int) : get4 (le4 x ++ r) = x := by
  have h0 : (le4 x ++ r).getD 0 0 = ((x % 256 : Nat) : Int) := rfl
  have h1 : (le4 x ++ r).getD 1 0 = ((x / 256 % 256 : Nat) : Int) := rfl
  have h2 : (le4 x ++ r).getD 2 0 = ((x / 65536 % 256 : Nat) : Int) := rfl
  have h3 : (le4 x ++ r).getD 3 0 = ((x / 16777216 % 256 : Nat) : Int) := rfl
  rw [get4_of h0 h1 h2 h3]
  exact v4_le4 x hx
theorem ent_next (p : Ent) (r : List Int) : nextN (entB p ++ r) = 1 + p.1.size := by
  unfold nextN entB
  simp
theorem ent_name (p : Ent) (r : List Int) : nameR (entB p ++ r) = p.1 := by
  have e : ((entB p ++ r).drop 1).take (nextN (entB p ++ r) - 1) = strL p.1 := by
    rw [ent_next, Nat.add_sub_cancel_left]
    unfold entB
    simp only [List.cons_append, List.drop_succ_cons, List.drop_zero, List.append_assoc]
    rw [← strL_len p.1]
    exact List.take_left
  unfold nameR
  rw [e, strOf_strL]
theorem ent_num (p : Ent) (hn : p.2 < 4294967296) (r : List Int) : get4 ((entB p ++ r).drop (nextN (entB p ++ r))) = p.2 := by
  have e : (entB p ++ r).drop (nextN (entB p ++ r)) = le4 p.2 ++ r := by
    rw [ent_next]
    unfold entB
    rw [Nat.add_comm, ← strL_len p.1]
    simp
  rw [e, get4_le4' _ hn]
theorem ent_rest (p : Ent) (r : List Int) : (entB p ++ r).drop (nextN (entB p ++ r) + 4) = r := by
  rw [ent_next, show 1 + p.1.size + 4 = (entB p).length by rw [entB_len]; omega]
  exact List.drop_left
theorem ent_step {p : Ent} {S : List Ent} (hn : p.2 < 4294967296) (r : List Int) (h : putE S p.1 (p.2 : Nat) = 0) : entR (entB p ++ r) S = some (putL S p.1 p.2) := by
  unfold entR
  rw [if_neg (by rw [ent_next, List.length_append, entB_len]; omega), ent_name, ent_num p hn, if_pos h]
theorem ent_head (p : Ent) (h : 1 ≤ p.1.size) (r : List Int) : ¬ (entB p ++ r = [] ∨ (entB p ++ r).getD 0 0 = 0) := by
  unfold entB
  rintro (e | e)
  · simp at e
  · simp only [List.cons_append, List.getD_cons_zero] at e
    omega
theorem zeros_stop (f n : Nat) (L : List Ent) : blkR f (List.replicate n 0) L = some L := by
  refine blk_end f _ L ?_
  cases n with
  | zero => exact .inl rfl
  | succ n => exact .inr (by simp [List.replicate_succ])
theorem put_fits {S : List Ent} {p : Ent} (h1 : localE p.1.data.toList = 0) (h2 : 1 ≤ p.2 ∧ p.2 ≤ 2147483647) (h3 : S.length < 2048) : putE S p.1 (p.2 : Nat) = 0 := by
  unfold putE
  rw [if_neg (by simpa using h1), if_neg (by omega), if_neg (by omega)]
theorem blk_rows : ∀ (es : List Ent) (f : Nat) (S : List Ent) (n : Nat), (∀ p ∈ es, localE p.1.data.toList = 0 ∧ (1 ≤ p.2 ∧ p.2 ≤ 2147483647)) → SortL S → (S ++ es).Pairwise (fun a b => a.1 ≠ b.1) → (S ++ es).length ≤ 2048 → (rowB es ++ List.replicate n 0).length ≤ f →
    blkR f (rowB es ++ List.replicate n 0) S = some (allP S es)
  | [], f, S, n, _, _, _, _, _ => by
    show blkR f (List.replicate n 0) S = _
    rw [zeros_stop]
    rfl
  | p :: es, f, S, n, hp, hs, hn, hl, hf => by
    have hpp := hp p List.mem_cons_self
    have hsz : 1 ≤ p.1.size := (localE_len hpp.1).1
    have e : rowB (p :: es) ++ List.replicate n 0 = entB p ++ (rowB es ++ List.replicate n 0) := by unfold rowB; simp
    rw [e] at hf ⊢
    rw [List.length_append, entB_len] at hf
    obtain ⟨f, rfl⟩ : ∃ f', f = f' + 1 := ⟨f - 1, by omega⟩
    have hl' : (S ++ p :: es).length = S.length + es.length + 1 := by simp; omega
    rw [blkR, if_neg (ent_head p hsz _), ent_step (by omega) _ (put_fits hpp.1 hpp.2 (by omega)), ent_rest]
    have hn' := List.pairwise_append.1 hn
    have hx : ∀ x ∈ S, x.1 ≠ p.1 := fun x hx => hn'.2.2 x hx p List.mem_cons_self
    have hpm : (insL p S ++ es).Perm (S ++ p :: es) := by
      refine ((ins_perm p S).append_right es).trans ?_
      rw [List.cons_append]
      exact List.perm_middle.symm
    have ih := blk_rows es f (insL p S) n (fun q hq => hp q (List.mem_cons_of_mem _ hq)) (ins_sort hs hx) ((hpm.pairwise_iff fun {a b} h e => h e.symm).2 hn) (by rw [hpm.length_eq]; exact hl) (by omega)
    show blkR f _ (putL S p.1 p.2) = _
    rw [put_new hx, ih]
    unfold allP
    rw [List.foldl_cons, put_new hx]
theorem chunk_flat : ∀ (xss : List (List Int)) (i : Nat) (hi : i < xss.length), (∀ x ∈ xss, x.length ≤ 512) → chunkR ((xss.map padB).flatten) i = padB xss[i]
  | [], i, hi, _ => by simp at hi
  | x :: r, 0, _, h => by
    unfold chunkR
    simp only [List.map_cons, List.flatten_cons, Nat.mul_zero, List.drop_zero, List.getElem_cons_zero]
    rw [← pad_len (h x List.mem_cons_self)]
    exact List.take_left
  | x :: r, i + 1, hi, h => by
    have ih := chunk_flat r i (by simpa using hi) (fun y hy => h y (List.mem_cons_of_mem _ hy))
    unfold chunkR at *
    simp only [List.map_cons, List.flatten_cons, List.getElem_cons_succ]
    rw [← ih, show 512 * (i + 1) = (padB x).length + 512 * i by rw [pad_len (h x List.mem_cons_self)]; omega, List.drop_append, List.drop_eq_nil_of_le (by omega), List.nil_append, Nat.add_sub_cancel_left]
theorem dirB_len {L : List Ent} (h : OkL L) : (dirB L).length = 512 * rowsB L := by
  have I := inv_fill h L.length (Nat.le_refl _)
  unfold dirB
  rw [flat_len, I.len]
  intro x hx
  obtain ⟨i, hi, rfl⟩ := List.getElem_of_mem hx
  have := I.each i (by rw [← I.len]; exact hi)
  rw [List.getD_eq_getElem?_getD, List.getElem?_eq_getElem hi] at this
  exact this
theorem load_dir {L : List Ent} (h : OkL L) (hs : SortL L) : dirR (dirB L) = some L := by
  obtain ⟨ess, h1, h2⟩ := fill_rows h L.length (Nat.le_refl _)
  rw [List.take_length] at h2
  have I := inv_fill h L.length (Nat.le_refl _)
  have hl : ess.length = rowsB L := by rw [← I.len, h1]; simp
  have h5 : ∀ x ∈ fillB L L.length, x.length ≤ 512 := fun x hx => by
    obtain ⟨i, hi, rfl⟩ := List.getElem_of_mem hx
    have := I.each i (by rw [← I.len]; exact hi)
    rw [List.getD_eq_getElem?_getD, List.getElem?_eq_getElem hi] at this
    exact this
  have hap : ess.flatten.Pairwise (fun a b => a.1 ≠ b.1) := (h2.pairwise_iff fun {a b} h e => h e.symm).2 hs.apart
  have key : ∀ i, i ≤ ess.length → loadR (dirB L) i = some (allP [] (ess.take i).flatten) := by
    intro i
    induction i with
    | zero => intro _; rfl
    | succ i ih =>
      intro hi
      have hi' : i < (fillB L L.length).length := by rw [I.len]; omega
      have hck : chunkR (dirB L) i = padB (rowB ess[i]) := by
        unfold dirB
        rw [chunk_flat _ i hi' h5]
        congr 1
        simp only [h1, List.getElem_map]
      have hsub : ∃ R, ess.flatten = (ess.take i).flatten ++ ess[i] ++ R := by
        refine ⟨(ess.drop (i + 1)).flatten, ?_⟩
        conv => lhs; rw [← List.take_append_drop (i + 1) ess]
        rw [List.flatten_append, List.take_succ_eq_append_getElem (by omega), List.flatten_append]
        simp
      obtain ⟨R, hR⟩ := hsub
      have hap2 : ((ess.take i).flatten ++ ess[i]).Pairwise (fun a b => a.1 ≠ b.1) := by
        rw [hR] at hap
        exact (List.pairwise_append.1 hap).1
      have hlen : ((ess.take i).flatten ++ ess[i]).length ≤ 2048 := by
        have e := h2.length_eq
        rw [hR, List.length_append] at e
        have := h.len
        omega
      have hsp := allP_spec (ess.take i).flatten (S := []) List.Pairwise.nil (by simpa using (List.pairwise_append.1 hap2).1)
      rw [List.nil_append] at hsp
      have hpm : (allP [] (ess.take i).flatten ++ ess[i]).Perm ((ess.take i).flatten ++ ess[i]) := hsp.2.append_right _
      have hmem : ∀ p ∈ ess[i], p ∈ L := fun p hp => h2.mem_iff.1 (List.mem_flatten.2 ⟨_, List.getElem_mem _, hp⟩)
      have hrl : (rowB ess[i]).length ≤ 512 := by
        have := h5 _ (List.getElem_mem hi')
        simp only [h1, List.getElem_map] at this
        exact this
      have hb := blk_rows ess[i] 512 (allP [] (ess.take i).flatten) (512 - (rowB ess[i]).length) (fun p hp => ⟨h.fine p (hmem p hp), h.num p (hmem p hp)⟩) hsp.1 ((hpm.pairwise_iff fun {a b} h e => h e.symm).2 hap2) (by rw [hpm.length_eq]; exact hlen) (by rw [← padB, pad_len hrl]; exact Nat.le_refl _)
      rw [loadR, ih (by omega), hck]
      show blkR 512 (padB (rowB ess[i])) _ = _
      unfold padB
      rw [hb, List.take_succ_eq_append_getElem (by omega), List.flatten_append]
      simp only [List.flatten_cons, List.flatten_nil, List.append_nil]
      unfold allP
      rw [List.foldl_append]
  have hfin := key ess.length (Nat.le_refl _)
  rw [List.take_length] at hfin
  have hsp := allP_spec ess.flatten (S := []) List.Pairwise.nil (by simpa using hap)
  rw [List.nil_append] at hsp
  have e : allP [] ess.flatten = L := sort_uniq hsp.1 hs (hsp.2.trans h2)
  rw [e] at hfin
  unfold dirR
  rw [dirB_len h, if_neg (by omega), show 512 * rowsB L / 512 = ess.length by rw [hl]; omega, hfin]
  simp
end Go.Proofs.Ytfcddpbpfckjfaa

/- MergeSorted, the words. -/
import Derived.Test.YthbalmoafpggdaaChecked
import Derived.WalkKit
import Derived.Outline
import Derived.WalkSpells
import Derived.WalkLawsBesides
import Derived.Deep.QuietTactic
import Derived.Deep.RegionWith
import Derived.Deep.DeepMust
import Derived.BigQuiet
import Derived.Test.YthbalmoafpggdaaMem
import Derived.RegionTactic
import Derived.ChangeAlike
import Derived.StillTailTactics
import Derived.BigRegion
import Derived.Deep.RegionHeld3
import Derived.Deep.RegionLaw
import Derived.Deep.AppendLies
import Derived.Deep.DeepCutAuto
import Derived.Deep.CutBlock
import Derived.IntWalk
import Derived.Test.YthbalmoafpggdaaMr2
namespace Go.Proofs.Ythbalmoafpggdaa
open Go.RowKit
set_option linter.unusedVariables false
set_option linter.unusedSimpArgs false
def prow (ps : List P3) : List Value := ps.flatMap p3C
theorem prow_len : ∀ ps : List P3, (prow ps).length = ps.length * 11
  | [] => rfl
  | y :: ys => by
    have := prow_len ys
    rw [prow, List.flatMap_cons, List.length_append]
    show 11 + (prow ys).length = _
    rw [this, List.length_cons]
    omega
theorem prow_snoc (ps : List P3) (p : P3) : prow (ps ++ [p]) = prow ps ++ [.int .i64 p.time, .int .i64 p.node, .int .i64 0, .int .i64 p.mark, .int .i64 0, .int .i64 0, .int .i64 0, .int .i64 0, .string ByteArray.empty, .slice none 0 0, .slice none 0 0] := by simp [prow, p3C]
theorem prow_app (a b : List P3) : prow (a ++ b) = prow a ++ prow b := by simp [prow]
theorem prow_at : ∀ (fs : List P3) (k j : Nat) (hk : k < fs.length), j < 11 → (prow fs)[k * 11 + j]? = (p3C fs[k])[j]?
  | f :: fs, 0, j, _, hj => by
    rw [prow, List.flatMap_cons, List.getElem?_append_left (by simp [p3C]; omega)]
    simp
  | f :: fs, k + 1, j, hk, hj => by
    have := prow_at fs k j (by simpa using hk) hj
    rw [prow, List.flatMap_cons, List.getElem?_append_right (by simp [p3C]; omega)]
    rw [show (k + 1) * 11 + j - (p3C f).length = k * 11 + j by simp [p3C]; omega]
    exact this
theorem prow_rd {w : World} {B : Nat} {v : Value} {ps : List P3} (h : w.ownsRow B 58 11 v ps.length (prow ps)) : OpsRd w v ps := by
  rcases h.2 with ⟨rfl, h0⟩ | ⟨g, c, cur, rfl, h1, h2, h3, h4, h5, h6⟩
  · rw [List.length_eq_zero_iff.1 h0]
    exact ⟨none, 0, rfl, Nat.le_refl _, Nat.zero_le _, .inl rfl⟩
  · refine ⟨_, c, rfl, h3, h4, .inr ⟨g, 0, rfl, fun i p hp => ?_⟩⟩
    have hi : i < ps.length := by
      rcases Nat.lt_or_ge i ps.length with h | h
      · exact h
      · rw [List.getElem?_eq_none h] at hp; cases hp
    have e : p = ps[i] := by
      rw [List.getElem?_eq_getElem hi] at hp
      injection hp with hp
      exact hp.symm
    subst e
    have hB : Blk w g cur 58 := h2
    have K : ∀ j u, j < 11 → (p3C ps[i])[j]? = some u → cur[i * 11 + j]? = some u := by
      intro j u hj hu
      rw [← prow_at ps i j hi hj, ← h6, List.getElem?_take_of_lt (by omega)] at hu
      simpa using hu
    rw [Nat.zero_add]
    exact ⟨hB.cell (K 0 _ (by omega) rfl), hB.cell (K 1 _ (by omega) rfl), hB.cell (K 2 _ (by omega) rfl), hB.cell (K 3 _ (by omega) rfl), hB.cell (K 4 _ (by omega) rfl), hB.cell (K 5 _ (by omega) rfl), hB.cell (K 6 _ (by omega) rfl), hB.cell (K 7 _ (by omega) rfl), hB.cell (K 8 _ (by omega) rfl), hB.cell (K 9 _ (by omega) rfl), hB.cell (K 10 _ (by omega) rfl)⟩
theorem own_mono {w : World} {B B' e s n : Nat} {v : Value} {xs : List Value} (h : w.ownsRow B e s v n xs) (hB : B' ≤ B) : w.ownsRow B' e s v n xs := by
  refine ⟨h.1, ?_⟩
  rcases h.2 with h2 | ⟨g, c, cur, h1, h2, r⟩
  · exact .inl h2
  · exact .inr ⟨g, c, cur, h1, by omega, r⟩
theorem own_lt {w : World} {B e s n : Nat} {v : Value} {xs : List Value} (h : w.ownsRow B e s v n xs) {g : Nat} (hg : v.ownBlock = some g) : g < w.heap.size := by
  obtain ⟨_, cur, h1⟩ := own_type h hg
  exact lt_of_block h1
structure Iid where
  time : Int
  node : Int
def IdsRd (w : World) (v : Value) (ids : List Iid) : Prop := ∃ a c, v = .slice a ids.length c ∧ ids.length ≤ c ∧ c ≤ maxLen ∧ ∀ i x, ids[i]? = some x → ∃ g o, a = some ⟨g, o, none⟩ ∧ w.cell? ⟨g, o + i * 2, none⟩ = some (.int .i64 x.time) ∧ w.cell? ⟨g, o + i * 2 + 1, none⟩ = some (.int .i64 x.node)
theorem IdsRd.of_cells {w w' : World} {v : Value} {ids : List Iid} (h : IdsRd w v ids) (hc : ∀ a u, w.cell? a = some u → w'.cell? a = some u) : IdsRd w' v ids := by
  obtain ⟨a, c, h1, h2, h3, h4⟩ := h
  refine ⟨a, c, h1, h2, h3, fun i x hx => ?_⟩
  obtain ⟨g, o, h5, h6, h7⟩ := h4 i x hx
  exact ⟨g, o, h5, hc _ _ h6, hc _ _ h7⟩
def LidRd (w : World) (v : Value) (ls : List (List Iid)) : Prop := ∃ a c, v = .slice a ls.length c ∧ ls.length ≤ c ∧ c ≤ maxLen ∧ ∀ i l, ls[i]? = some l → ∃ g o u, a = some ⟨g, o, none⟩ ∧ w.cell? ⟨g, o + i, none⟩ = some u ∧ IdsRd w u l
/-- The operations of the i-th list, the first k of them. -/
def rowk (i : Nat) (l : List Iid) (k : Nat) : List P3 := (l.take k).zipIdx.map fun q => ⟨q.1.time, q.1.node, ((100 * i + q.2 : Nat) : Int)⟩
theorem rowk_zero (i : Nat) (l : List Iid) : rowk i l 0 = [] := by simp [rowk]
theorem rowk_len (i : Nat) (l : List Iid) (k : Nat) (h : k ≤ l.length) : (rowk i l k).length = k := by simp [rowk]; omega
theorem rowk_succ (i : Nat) (l : List Iid) (k : Nat) (x : Iid) (h : l[k]? = some x) : rowk i l (k + 1) = rowk i l k ++ [⟨x.time, x.node, ((100 * i + k : Nat) : Int)⟩] := by
  have hk : k < l.length := by
    rcases Nat.lt_or_ge k l.length with h' | h'
    · exact h'
    · rw [List.getElem?_eq_none h'] at h; cases h
  have e : l.take (k + 1) = l.take k ++ [x] := by
    rw [List.getElem?_eq_getElem hk] at h
    injection h with h
    rw [List.take_succ_eq_append_getElem hk, h]
  unfold rowk
  rw [e, List.zipIdx_append]
  simp
  omega
def rowsk (ls : List (List Iid)) (n : Nat) : List (List P3) := (ls.take n).zipIdx.map fun q => rowk q.2 q.1 (min 20 q.1.length)
theorem rowsk_succ (ls : List (List Iid)) (i : Nat) (l : List Iid) (h : ls[i]? = some l) : rowsk ls (i + 1) = rowsk ls i ++ [rowk i l (min 20 l.length)] := by
  have hk : i < ls.length := by
    rcases Nat.lt_or_ge i ls.length with h' | h'
    · exact h'
    · rw [List.getElem?_eq_none h'] at h; cases h
  have e : ls.take (i + 1) = ls.take i ++ [l] := by
    rw [List.getElem?_eq_getElem hk] at h
    injection h with h
    rw [List.take_succ_eq_append_getElem hk, h]
  unfold rowsk
  rw [e, List.zipIdx_append]
  simp
  congr 1
  omega
theorem rowsk_len (ls : List (List Iid)) (i : Nat) (h : i ≤ ls.length) : (rowsk ls i).length = i := by simp [rowsk]; omega
theorem rowsk_flat : ∀ (ls : List (List Iid)) (i : Nat), i ≤ ls.length → (rowsk ls i).flatten.length ≤ 20 * i
  | ls, 0, _ => by simp [rowsk]
  | ls, i + 1, h => by
    have ih := rowsk_flat ls i (by omega)
    rw [rowsk_succ ls i ls[i] (List.getElem?_eq_getElem (by omega)), List.flatten_append, List.length_append]
    have := rowk_len i ls[i] (min 20 ls[i].length) (by omega)
    simp only [List.flatten_cons, List.flatten_nil, List.append_nil]
    omega
def allk (ls : List (List Iid)) (i : Nat) : List P3 := (rowsk ls i).flatten
theorem allk_flat (ls : List (List Iid)) (i : Nat) (h : i ≤ ls.length) : (allk ls i).length ≤ 20 * i := rowsk_flat ls i h
/-- The lists that are being built. -/
structure BSt (w : World) (ls : List (List Iid)) (i : Nat) (s4 s5 : Value) (us : List Value) (wr : World) : Prop where
  l : wr.ownsRow w.heap.size 55 1 s4 us.length us
  all : wr.ownsRow w.heap.size 58 11 s5 (allk ls i).length (prow (allk ls i))
  len : us.length = (rowsk ls i).length
  each : ∀ (j : Nat) (u : Value), us[j]? = some u → ∃ ps, (rowsk ls i)[j]? = some ps ∧ wr.ownsRow w.heap.size 58 11 u ps.length (prow ps) ∧ (u.ownBlock = none ∨ u.ownBlock ≠ s5.ownBlock)
  bel : Below w.heap.size w wr
theorem BSt.below {w wr w' : World} {ls : List (List Iid)} {i : Nat} {s4 s5 : Value} {us : List Value} (h : BSt w ls i s4 s5 us wr) (g : Below wr.heap.size wr w') : BSt w ls i s4 s5 us w' :=
  ⟨ownsRow_below h.l g, ownsRow_below h.all g, h.len, fun j u hu => by
    obtain ⟨ps, h1, h2, h3⟩ := h.each j u hu
    exact ⟨ps, h1, ownsRow_below h2 g, h3⟩, h.bel.trans (g.mono h.bel.size)⟩
theorem BSt.lst {w wr : World} {ls : List (List Iid)} {i : Nat} {s4 s5 : Value} {us : List Value} (h : BSt w ls i s4 s5 us wr) : LstRd wr s4 (rowsk ls i) := by
  have hl := h.len
  rcases h.l.2 with ⟨rfl, h0⟩ | ⟨g, c, cur, rfl, h1, h2, h3, h4, h5, h6⟩
  · have e : rowsk ls i = [] := List.length_eq_zero_iff.1 (by omega)
    rw [e]
    exact ⟨none, 0, rfl, Nat.le_refl _, Nat.zero_le _, .inl rfl⟩
  · refine ⟨_, c, by rw [hl], by omega, h4, .inr ⟨g, 0, rfl, fun j ps hps => ?_⟩⟩
    have hj : j < us.length := by
      rcases Nat.lt_or_ge j us.length with h' | h'
      · exact h'
      · rw [List.getElem?_eq_none (by omega)] at hps; cases hps
    obtain ⟨ps2, e1, e2, _⟩ := h.each j us[j] (List.getElem?_eq_getElem hj)
    rw [hps] at e1
    injection e1 with e1
    subst e1
    refine ⟨us[j], ?_, prow_rd e2⟩
    have hB : Blk wr g cur 55 := h2
    rw [Nat.zero_add]
    refine hB.cell ?_
    have : (cur.toList.take (us.length * 1))[j]? = us[j]? := by rw [h6]
    rw [List.getElem?_take_of_lt (by omega), List.getElem?_eq_getElem hj] at this
    simpa using this
end Go.Proofs.Ythbalmoafpggdaa

/- merge.Sorted: the queue is emptied. -/
import Derived.Test.YthbalmoafpggdaaChecked
import Derived.WalkKit
import Derived.Outline
import Derived.WalkSpells
import Derived.WalkLawsBesides
import Derived.Deep.QuietTactic
import Derived.Deep.RegionWith
import Derived.Deep.DeepMust
import Derived.BigQuiet
import Derived.Test.YthbalmoafpggdaaMem
import Derived.RegionTactic
import Derived.ChangeAlike
import Derived.StillTailTactics
import Derived.BigRegion
import Derived.Deep.RegionHeld3
import Derived.Deep.RegionLaw
import Derived.Deep.AppendLies
import Derived.Deep.DeepCutAuto
import Derived.Deep.CutBlock
import Derived.Test.YthbalmoafpggdaaMq5
namespace Go.Proofs.Ythbalmoafpggdaa
open Go.RowKit
set_option linter.unusedVariables false
set_option linter.unusedSimpArgs false
theorem Op.info : (Try.prog.info? 58).map (fun i => (i.zero, i.size, i.bytes)) = some (some (.agg #[.int .i64 0, .int .i64 0, .int .i64 0, .int .i64 0, .int .i64 0, .int .i64 0, .int .i64 0, .int .i64 0, .string ByteArray.empty, .slice none 0 0, .slice none 0 0]), 11, 128) := by kernel_rfl
def toP (y : Mit) : P3 := ⟨y.time, y.node, y.mark⟩
def orow (ys : List Mit) : List Value := ys.flatMap fun y => p3C (toP y)
theorem orow_len : ∀ ys : List Mit, (orow ys).length = ys.length * 11
  | [] => rfl
  | y :: ys => by
    have := orow_len ys
    rw [orow, List.flatMap_cons, List.length_append]
    show 11 + (orow ys).length = _
    rw [this, List.length_cons]
    omega
theorem orow_snoc (ys : List Mit) (x : Mit) : orow (ys ++ [x]) = orow ys ++ [.int .i64 x.time, .int .i64 x.node, .int .i64 0, .int .i64 x.mark, .int .i64 0, .int .i64 0, .int .i64 0, .int .i64 0, .string ByteArray.empty, .slice none 0 0, .slice none 0 0] := by simp [orow, p3C, toP]
theorem orow_at : ∀ (fs : List Mit) (k j : Nat) (hk : k < fs.length), j < 11 → (orow fs)[k * 11 + j]? = (p3C (toP fs[k]))[j]?
  | f :: fs, 0, j, _, hj => by
    rw [orow, List.flatMap_cons, List.getElem?_append_left (by simp [p3C]; omega)]
    simp
  | f :: fs, k + 1, j, hk, hj => by
    have := orow_at fs k j (by simpa using hk) hj
    rw [orow, List.flatMap_cons, List.getElem?_append_right (by simp [p3C]; omega)]
    rw [show (k + 1) * 11 + j - (p3C (toP f)).length = k * 11 + j by simp [p3C]; omega]
    exact this
theorem orow_rd {w : World} {B : Nat} {v : Value} {ys : List Mit} (h : w.ownsRow B 58 11 v ys.length (orow ys)) : OpsRd w v (ys.map toP) := by
  rcases h.2 with ⟨rfl, h0⟩ | ⟨g, c, cur, rfl, h1, h2, h3, h4, h5, h6⟩
  · rw [List.length_eq_zero_iff.1 h0]
    exact ⟨none, 0, rfl, Nat.le_refl _, Nat.zero_le _, .inl rfl⟩
  · refine ⟨_, c, by simp, by simpa using h3, h4, .inr ⟨g, 0, rfl, fun i p hp => ?_⟩⟩
    have hi : i < ys.length := by
      rcases Nat.lt_or_ge i ys.length with h | h
      · exact h
      · rw [List.getElem?_eq_none (by simpa using h)] at hp; cases hp
    have e : p = toP ys[i] := by
      rw [List.getElem?_map, List.getElem?_eq_getElem hi] at hp
      injection hp with hp
      exact hp.symm
    subst e
    have hB : Blk w g cur 58 := h2
    have K : ∀ j u, j < 11 → (p3C (toP ys[i]))[j]? = some u → cur[i * 11 + j]? = some u := by
      intro j u hj hu
      rw [← orow_at ys i j hi hj, ← h6, List.getElem?_take_of_lt (by omega)] at hu
      simpa using hu
    rw [Nat.zero_add]
    exact ⟨hB.cell (K 0 _ (by omega) rfl), hB.cell (K 1 _ (by omega) rfl), hB.cell (K 2 _ (by omega) rfl), hB.cell (K 3 _ (by omega) rfl), hB.cell (K 4 _ (by omega) rfl), hB.cell (K 5 _ (by omega) rfl), hB.cell (K 6 _ (by omega) rfl), hB.cell (K 7 _ (by omega) rfl), hB.cell (K 8 _ (by omega) rfl), hB.cell (K 9 _ (by omega) rfl), hB.cell (K 10 _ (by omega) rfl)⟩
/-- Nothing but the queue's own has been changed. -/
def Kept (w w' : World) : Prop := ∀ g cs T, Blk w g cs T → T ≠ 114 → T ≠ 118 → Blk w' g cs T
structure DSt (back : Bool) (F : Value) (w : World) (b n : Nat) (all : List P3) (popped : List Mit) (rest : Nat) (wr : World) : Prop where
  q : ∃ v xs, QAt wr b F n v xs ∧ Hq.IsHeap (mlt back) xs xs.size ∧ xs.size = rest ∧ (popped ++ xs.toList).Perm (num 0 all) ∧ popped.Pairwise (fun a b => mlt back b a = false) ∧ ∀ x ∈ popped, ∀ y ∈ xs.toList, mlt back y x = false
  bel : Below w.heap.size w wr
theorem DSt.below {back : Bool} {F : Value} {w wr w' : World} {b n : Nat} {all : List P3} {popped : List Mit} {rest : Nat} (h : DSt back F w b n all popped rest wr) (g : Below wr.heap.size wr w') : DSt back F w b n all popped rest w' := by
  obtain ⟨v, xs, h1, h2⟩ := h.q
  exact ⟨⟨v, xs, h1.below g, h2⟩, h.bel.trans (g.mono h.bel.size)⟩
theorem DSt.chg {back : Bool} {F : Value} {w wr w' : World} {b n : Nat} {all : List P3} {popped : List Mit} {rest : Nat} (h : DSt back F w b n all popped rest wr) {g : Nat} {cs : Array Value} {T : TypeId} (hB : Blk wr g cs T) (hT : T ≠ 114) (hT2 : T ≠ 118) (hg : w.heap.size ≤ g) (hc : Chg (· = g) wr w') : DSt back F w b n all popped rest w' := by
  obtain ⟨v, xs, h1, h2⟩ := h.q
  refine ⟨⟨v, xs, h1.chg hc ?_ ?_, h2⟩, h.bel.trans (hc.below h.bel.size (fun i hi e => by omega))⟩
  · rintro rfl; exact hT (type_ne hB h1.blk)
  · intro k e e'
    subst e'
    obtain ⟨_, cur, h3⟩ := own_type h1.own e
    exact hT2 (type_ne hB h3)
theorem Kept.of_chg {w w' : World} {b : Nat} {F : Value} {came : Int} {v : Value} {xs : Array Mit} (h : QAt w b F came v xs) (hc : Chg (MqS b v) w w') : Kept w w' := by
  intro g cs T hB h1 h2
  refine hc.blk hB ?_
  rintro (rfl | e)
  · exact h1 (type_ne hB h.blk)
  · obtain ⟨_, cur, h3⟩ := own_type h.own e
    exact h2 (type_ne hB h3)
def PopS (back : Bool) (F : Value) (w : World) (b n : Nat) (all : List P3) (popped : List Mit) (x : Mit) (rest : Nat) (wr : World) (e : Ending) (w' : World) : Prop := e = .returned (.tuple #[.agg #[.int .i64 x.time, .int .i64 x.node, .int .i64 0, .int .i64 x.mark, .int .i64 0, .int .i64 0, .int .i64 0, .int .i64 0, .string ByteArray.empty, .slice none 0 0, .slice none 0 0], .bool true]) ∧ DSt back F w b n all (popped ++ [x]) rest w' ∧ Kept wr w' ∧ Below b wr w'
theorem sPop {back : Bool} {F : Value} (hF : LessOk back F) {w wr : World} {b n : Nat} {all : List P3} {popped : List Mit} {rest : Nat} (hb : w.heap.size ≤ b) (h : DSt back F w b n all popped (rest + 1) wr) (hz : rest + 1 ≤ 900) :
    ∃ x, Calls Try.prog 35 #[.pointer (some ⟨b, 0, none⟩)] wr (PopS back F w b n all popped x rest wr) := by
  obtain ⟨v, xs, h1, h2, h3, h4, h5, h6⟩ := h.q
  refine ⟨xs[0]!, ?_⟩
  refine (qPop hF b n v xs wr h1 h2 (by omega) (by omega) _ rfl).mono ?_
  rintro e w' ⟨he, v', ys, k1, k2, k3, k4, k5⟩
  have hm : xs[0]! ∈ xs.toList := by rw [getElem!_pos xs 0 (by omega)]; simp
  have hroot := Hq.root (mlt_ord back) h2
  refine ⟨he, ⟨⟨v', ys, k1, k4, by omega, ?_, ?_, ?_⟩, ?_⟩, Kept.of_chg h1 k5, k5.below (Nat.le_of_lt h1.blk.lt) (fun i hi e => by have := h1.sle e; omega)⟩
  · rw [List.append_assoc]
    exact (List.Perm.append_left _ k3).trans h4
  · rw [List.pairwise_append]
    refine ⟨h5, by simp, fun a ha b hb => ?_⟩
    rw [List.mem_singleton.1 hb]
    exact h6 a ha _ hm
  · intro a ha y hy
    have hy2 : y ∈ xs.toList := k3.mem_iff.1 (List.mem_cons_of_mem _ hy)
    rcases List.mem_append.1 ha with ha | ha
    · exact h6 a ha y hy2
    · rw [List.mem_singleton.1 ha]
      rw [Array.mem_toList_iff] at hy2
      obtain ⟨j, hj, e⟩ := Array.mem_iff_getElem.1 hy2
      have := hroot j hj
      rwa [getElem!_pos xs j hj, e] at this
  · exact h.bel.trans (k5.below h.bel.size (fun i hi e => by have := h1.sle e; omega))
theorem sPop0 {back : Bool} {F : Value} {w wr : World} {b n : Nat} {all : List P3} {popped : List Mit} (h : DSt back F w b n all popped 0 wr) :
    Calls Try.prog 35 #[.pointer (some ⟨b, 0, none⟩)] wr fun e w' => e = .returned (.tuple #[.agg #[.int .i64 0, .int .i64 0, .int .i64 0, .int .i64 0, .int .i64 0, .int .i64 0, .int .i64 0, .int .i64 0, .string ByteArray.empty, .slice none 0 0, .slice none 0 0], .bool false]) ∧ DSt back F w b n all popped 0 w' ∧ Kept wr w' := by
  obtain ⟨v, xs, h1, h2, h3, _⟩ := h.q
  exact (qPop0 b F n v xs wr h1 h3).mono fun e w' ⟨he, k⟩ => ⟨he, h.below k, fun g cs T hB _ _ => blkBelow k hB hB.lt⟩
theorem SSt.d {back : Bool} {F : Value} {w wr : World} {b : Nat} {done : List P3} (h : SSt back F w b done wr) : DSt back F w b done.length done [] done.length wr := by
  obtain ⟨v, xs, h1, h2, h3⟩ := h.q
  have hl := h3.length_eq
  rw [num_len] at hl
  exact ⟨⟨v, xs, h1, h2, by simpa using hl, by simpa using h3, List.Pairwise.nil, fun x hx => by cases hx⟩, h.bel⟩
end Go.Proofs.Ythbalmoafpggdaa

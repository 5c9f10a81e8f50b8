/- Contracts of package device. -/
import Derived.Test.YtfcddpbpfckjfaaChecked
import Derived.WalkKit
import Derived.Outline
import Derived.WalkSpells
import Derived.WalkLawsBesides
import Derived.Deep.QuietTactic
import Derived.Deep.RegionWith
import Derived.Deep.DeepMust
import Derived.BigQuiet
import Derived.Test.YtfcddpbpfckjfaaMem
import Derived.RegionTactic
import Derived.ChangeAlike
import Derived.StillTailTactics
import Derived.BigRegion
import Derived.Laws.NewBlocks
import Derived.Deep.RegionHeld
import Derived.Test.YtfcddpbpfckjfaaCln
namespace Go.Proofs.Ytfcddpbpfckjfaa
open Go.RowKit
set_option linter.unusedVariables false
set_option linter.unusedSimpArgs false
theorem Dev.infoBlock : (Try.prog.info? 200).map (fun i => (i.zero, i.size, i.bytes)) = some (some (.agg #[.slice none 0 0, .slice none 0 0, .bool false]), 3, 56) := by kernel_rfl
/-- A block: as it was written last, as it was kept, loose. -/
abbrev DBlk := Value × Value × Bool
def drow (ds : List DBlk) : List Value := ds.flatMap fun d => [d.1, d.2.1, .bool d.2.2]
theorem drow_len : ∀ ds : List DBlk, (drow ds).length = ds.length * 3
  | [] => rfl
  | d :: ds => by have := drow_len ds; unfold drow at this; simp [drow, this]; omega
theorem drow_cons (d : DBlk) (ds : List DBlk) : drow (d :: ds) = d.1 :: d.2.1 :: .bool d.2.2 :: drow ds := by simp [drow]
theorem drow_get : ∀ (ds : List DBlk) (i : Nat) (d : DBlk), ds[i]? = some d → (drow ds)[i * 3]? = some d.1 ∧ (drow ds)[i * 3 + 1]? = some d.2.1 ∧ (drow ds)[i * 3 + 2]? = some (.bool d.2.2)
  | [], i, d, h => by simp at h
  | e :: ds, 0, d, h => by simp at h; subst h; simp [drow_cons]
  | e :: ds, i + 1, d, h => by
    have := drow_get ds i d (by simpa using h)
    rw [drow_cons, show (i + 1) * 3 = i * 3 + 3 by omega]
    exact this
theorem drow_set : ∀ (ds : List DBlk) (i : Nat) (a b : Value) (c : Bool), i < ds.length → drow (ds.set i (a, b, c)) = (((drow ds).set (i * 3) a).set (i * 3 + 1) b).set (i * 3 + 2) (.bool c)
  | [], i, a, b, c, h => by simp at h
  | e :: ds, 0, a, b, c, h => by simp [drow_cons]
  | e :: ds, i + 1, a, b, c, h => by
    have := drow_set ds i a b c (by simpa using h)
    rw [List.set_cons_succ, drow_cons, drow_cons, this, show (i + 1) * 3 = i * 3 + 3 by omega]
    rfl
def DevAt (w : World) (b u : Nat) (ds : List DBlk) (fused : Bool) (left : Int) (dead : Bool) (count : Int) : Prop :=
  Blk w b #[.slice (some ⟨u, 0, none⟩) ds.length ds.length, .bool fused, .int .i64 left, .bool dead, .int .i64 count] 182 ∧ Blk w u (drow ds).toArray 200 ∧ ds.length ≤ 65536 ∧ u ≠ b
theorem DevAt.of_below {w w' : World} {b u : Nat} {ds : List DBlk} {fused : Bool} {left : Int} {dead : Bool} {count : Int} (h : DevAt w b u ds fused left dead count) (hb : Below w.heap.size w w') : DevAt w' b u ds fused left dead count :=
  ⟨blkBelow hb h.1 h.1.lt, blkBelow hb h.2.1 h.2.1.lt, h.2.2.1, h.2.2.2⟩
theorem devNew_bad (n : Int) (w : World) (h : n < 1 ∨ 65536 < n) : Calls Try.prog 81 #[.int .i64 n] w fun e w' => e = .returned (.pointer none) ∧ w = w' := by
  by_cases h1 : n < 1
  all_goals
    go_enter Try.func81, Try.ntmps81
    go_wp2
    go_ret
    exact ⟨rfl, rfl⟩
def nilD : DBlk := (.slice none 0 0, .slice none 0 0, false)
def DevNewPost (n : Nat) (w : World) (e : Ending) (w' : World) : Prop :=
  ∃ b u : Nat, e = .returned (.pointer (some ⟨b, 0, none⟩)) ∧ w.heap.size ≤ b ∧ w.heap.size ≤ u ∧ DevAt w' b u (List.replicate n nilD) false 0 false 0 ∧ Below w.heap.size w w'
theorem made_rows (n : Nat) : (madeCells #[.slice none 0 0, .slice none 0 0, .bool false] (n * 3)).toList = drow (List.replicate n nilD) := by
  apply List.ext_getElem?
  intro j
  by_cases hj : j < n * 3
  · have h1 : (List.replicate n nilD)[j / 3]? = some nilD := by rw [List.getElem?_replicate, if_pos (by omega)]
    obtain ⟨g0, g1, g2⟩ := drow_get _ _ _ h1
    have h3 : j % 3 = 0 ∨ j % 3 = 1 ∨ j % 3 = 2 := by omega
    simp only [madeCells, Array.toList_map, List.getElem?_map, Array.toList_range, List.getElem?_range hj, Option.map_some]
    rcases h3 with h3 | h3 | h3
    · rw [show j / 3 * 3 = j by omega] at g0
      rw [g0]; simp [h3, nilD]
    · rw [show j / 3 * 3 + 1 = j by omega] at g1
      rw [g1]; simp [h3, nilD]
    · rw [show j / 3 * 3 + 2 = j by omega] at g2
      rw [g2]; simp [h3, nilD]
  · rw [List.getElem?_eq_none (by simp [madeCells]; omega), List.getElem?_eq_none (by rw [drow_len]; simp; omega)]
theorem owns_blkS {w : World} {B e size : Nat} {g n : Nat} {xs : List Value} (h : w.ownsRow B e size (.slice (some ⟨g, 0, none⟩) n n) n xs) : Blk w g xs.toArray e ∧ B ≤ g := by
  rcases h.2 with ⟨h0, _⟩ | ⟨g', cap, cur, e1, hB, hh, h1, h2, h3, h4⟩
  · cases h0
  · rw [Value.slice.injEq] at e1
    obtain ⟨e1, _, rfl⟩ := e1
    injection e1 with e1
    injection e1 with e1 _
    subst e1
    refine ⟨?_, hB⟩
    have : cur = xs.toArray := by
      rw [← h4, List.take_of_length_le (by simp; omega)]
    rw [← this]; exact hh
set_option maxRecDepth 100000 in
theorem devNew_ok (n : Nat) (w : World) (h0 : 1 ≤ n) (h : n ≤ 65536) : Calls Try.prog 81 #[.int .i64 n] w (DevNewPost n w) := by
  obtain ⟨i0, hi, hz0, hz1, hz2⟩ := info_parts Dev.infoBlock
  have hm : i0.bytes * n ≤ 281474976710656 := by rw [hz2]; omega
  have h0i : (1 : Int) ≤ n := by omega
  have hi' : (n : Int) ≤ 65536 := by omega
  go_enter Try.func81, Try.ntmps81
  go_wp2_with (at_make; refine wpList_make_full _ rfl _ _ 180 rfl w.heap.size 200 i0 (.agg #[.slice none 0 0, .slice none 0 0, .bool false]) 3 Try.underlying180 hi hz0 hz1 .i64 .i64 n n n rfl rfl rfl rfl hm (by unfold maxLen; omega) (Nat.le_refl _) ?_)
  intro w1 o1 g1
  have hb0 := (owns_blkS o1).1
  rw [made_rows] at hb0
  have hb : Blk w1 w.heap.size (drow (List.replicate n nilD)).toArray 200 := hb0
  have b1 : Below w.heap.size w w1 := (Below.refl _ w).grown g1 (Nat.le_refl _) (fun k hk => by cases hk)
  have z1 := b1.size
  have hlt := hb.lt
  clear o1 g1 hb0
  go_wp2
  go_ret
  exact ⟨w1.heap.size, w.heap.size, rfl, z1, Nat.le_refl _, ⟨by have := Blk.new w1 #[.slice (some ⟨w.heap.size, 0, none⟩) n n, .bool false, .int .i64 0, .bool false, .int .i64 0] 182; simpa using this, hb.alloc _, by simpa using h, by omega⟩, b1.alloc z1 _⟩
theorem devBlocks (b u : Nat) (ds : List DBlk) (fu : Bool) (le : Int) (de : Bool) (co : Int) (w : World) (h : DevAt w b u ds fu le de co) : Calls Try.prog 123 #[.pointer (some ⟨b, 0, none⟩)] w fun e w' => e = .returned (.int .i64 ds.length) ∧ w = w' := by
  have c0 : w.cell? ⟨b, 0, none⟩ = some (.slice (some ⟨u, 0, none⟩) ds.length ds.length) := h.1.cell (o := 0) rfl
  have c1 := h.1.cell (o := 1) rfl
  have c2 := h.1.cell (o := 2) rfl
  have c3 := h.1.cell (o := 3) rfl
  have c4 := h.1.cell (o := 4) rfl
  have hz := h.1.lt
  have hzu := h.2.1.lt
  have hl := h.2.2.1
  clear h
  go_enter Try.func123, Try.ntmps123
  go_wp2
  go_ret
  exact ⟨rfl, rfl⟩
theorem devDead (b u : Nat) (ds : List DBlk) (fu : Bool) (le : Int) (de : Bool) (co : Int) (w : World) (h : DevAt w b u ds fu le de co) : Calls Try.prog 125 #[.pointer (some ⟨b, 0, none⟩)] w fun e w' => e = .returned (.bool de) ∧ w = w' := by
  have c0 : w.cell? ⟨b, 0, none⟩ = some (.slice (some ⟨u, 0, none⟩) ds.length ds.length) := h.1.cell (o := 0) rfl
  have c1 := h.1.cell (o := 1) rfl
  have c2 := h.1.cell (o := 2) rfl
  have c3 := h.1.cell (o := 3) rfl
  have c4 := h.1.cell (o := 4) rfl
  have hz := h.1.lt
  have hzu := h.2.1.lt
  have hl := h.2.2.1
  clear h
  go_enter Try.func125, Try.ntmps125
  go_wp2
  go_ret
  exact ⟨rfl, rfl⟩
theorem DevAt.set {w : World} {b u : Nat} {ds : List DBlk} {fu : Bool} {le : Int} {de : Bool} {co : Int} (h : DevAt w b u ds fu le de co) (fu' : Bool) (le' : Int) (de' : Bool) (co' : Int) (w' : World) (hb : Blk w' b #[.slice (some ⟨u, 0, none⟩) ds.length ds.length, .bool fu', .int .i64 le', .bool de', .int .i64 co'] 182) (hu : w'.heap[u]? = w.heap[u]?) : DevAt w' b u ds fu' le' de' co' :=
  ⟨hb, h.2.1.of_eq hu, h.2.2.1, h.2.2.2⟩
def DonePost (b u : Nat) (ds : List DBlk) (le : Int) (de : Bool) (co : Int) (w : World) (e : Ending) (w' : World) : Prop := e = .returned (.int .i64 0) ∧ DevAt w' b u ds false le de (co + 1) ∧ Chg (· = b) w w'
theorem devDone (b u : Nat) (ds : List DBlk) (le : Int) (de : Bool) (co : Int) (w : World) (h : DevAt w b u ds false le de co) (hco : 0 ≤ co ∧ co < 9000000000000000000) : Calls Try.prog 126 #[.pointer (some ⟨b, 0, none⟩)] w (DonePost b u ds le de co w) := by
  have c0 : w.cell? ⟨b, 0, none⟩ = some (.slice (some ⟨u, 0, none⟩) ds.length ds.length) := h.1.cell (o := 0) rfl
  have c1 := h.1.cell (o := 1) rfl
  have c2 := h.1.cell (o := 2) rfl
  have c3 := h.1.cell (o := 3) rfl
  have c4 := h.1.cell (o := 4) rfl
  have hz := h.1.lt
  have hzu := h.2.1.lt
  have hl := h.2.2.1
  have f4 := h.1.free 4
  have H := Lib.hid h
  clear h
  go_enter Try.func126, Try.ntmps126
  go_wp2
  go_ret
  refine ⟨rfl, H.out.set _ _ _ _ _ ?_ ?_, Chg.set (S := (· = b)) (Chg.refl _ _) (p := ⟨b, 4, none⟩) (fun _ => rfl) _⟩
  · have := H.out.1.set 4 (.int .i64 (co + 1))
    simpa using this
  · exact Below.heap_setCell _ _ _ _ (by have := H.out.2.2.2; simpa using this)
/-- n of the bytes l, over and over. -/
def fullL (l : List Int) (n : Nat) : List Int := (List.range n).map fun i => l.getD (i % l.length) 0
def fullTo (l : List Int) (n k : Nat) : List Int := (List.range n).map fun i => if i < k then l.getD (i % l.length) 0 else 0
theorem fullL_len (l : List Int) (n : Nat) : (fullL l n).length = n := by simp [fullL]
theorem fullTo_len (l : List Int) (n k : Nat) : (fullTo l n k).length = n := by simp [fullTo]
theorem fullTo_all (l : List Int) (n : Nat) : fullTo l n n = fullL l n := List.map_congr_left fun i hi => by rw [if_pos (by simpa using hi)]
theorem fullTo_zero (l : List Int) (n : Nat) : fullTo l n 0 = List.replicate n 0 := by
  unfold fullTo
  rw [List.map_congr_left (g := fun _ => (0 : Int)) (fun i _ => if_neg (by omega)), List.map_const', List.length_range]
theorem fullL_nil (n : Nat) : fullL [] n = List.replicate n 0 := by
  unfold fullL
  rw [List.map_congr_left (g := fun _ => (0 : Int)) (fun i _ => by simp), List.map_const', List.length_range]
theorem fullTo_step (l : List Int) (n k : Nat) : fullTo l n (k + 1) = (fullTo l n k).set k (l.getD (k % l.length) 0) := by
  apply List.ext_getElem?
  intro i
  rw [List.getElem?_set, fullTo_len]
  unfold fullTo
  by_cases hi : i < n
  · simp only [List.getElem?_map, List.getElem?_range hi, Option.map_some]
    by_cases e : k = i
    · subst e
      rw [if_pos rfl, if_pos hi, if_pos (by omega)]
    · rw [if_neg e]
      by_cases h1 : i < k
      · rw [if_pos h1, if_pos (by omega)]
      · rw [if_neg h1, if_neg (by omega)]
  · simp only [List.getElem?_map]
    rw [List.getElem?_eq_none (by simpa using hi)]
    by_cases e : k = i
    · rw [if_pos e, if_neg (by omega)]; rfl
    · rw [if_neg e]; rfl
theorem fullL_byt (l : List Int) (n : Nat) (hl : ∀ q ∈ l, 0 ≤ q ∧ q < 256) : ∀ q ∈ fullL l n, 0 ≤ q ∧ q < 256 := by
  intro q hq
  simp only [fullL, List.mem_map] at hq
  obtain ⟨i, _, rfl⟩ := hq
  rw [List.getD_eq_getElem?_getD]
  rcases Nat.lt_or_ge (i % l.length) l.length with h | h
  · rw [List.getElem?_eq_getElem h]; exact hl _ (List.getElem_mem h)
  · rw [List.getElem?_eq_none h]; simp
def FullPost (l : List Int) (n : Nat) (w : World) (e : Ending) (w' : World) : Prop := ∃ B : Nat, w.heap.size ≤ B ∧ e = .returned (.slice (some ⟨B, 0, none⟩) n n) ∧ Blk w' B ((fullL l n).map u8v).toArray 5 ∧ Below w.heap.size w w'
theorem made_u8 {w w1 : World} {n : Nat} (o1 : w1.ownsRow w.heap.size 5 1 (.slice (some ⟨w.heap.size, 0, none⟩) n n) n (madeCells #[Value.int .u8 0] n).toList) : Blk w1 w.heap.size ((List.replicate n 0).map u8v).toArray 5 := by
  have := (owns_blkS o1).1
  rw [toList_madeCells_one] at this
  simpa using this
end Go.Proofs.Ytfcddpbpfckjfaa

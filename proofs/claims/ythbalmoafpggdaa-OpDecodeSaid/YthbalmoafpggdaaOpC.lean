/- The laws of layer 12: Cut; a byte of a row turned. -/
import Derived.Test.YthbalmoafpggdaaChecked
import Derived.WalkKit
import Derived.Outline
import Derived.WalkSpells
import Derived.WalkLawsBesides
import Derived.Deep.QuietTactic
import Derived.Deep.RegionWith
import Derived.Deep.DeepMust
import Derived.BigQuiet
import Derived.Test.YthbalmoafpggdaaMem
import Derived.RegionTactic
import Derived.ChangeAlike
import Derived.StillTailTactics
import Derived.Deep.LoopGhost
import Derived.Laws.BitsAllLaws
import Derived.Laws.Strings3
import Derived.Test.YthbalmoafpggdaaOpB
import Derived.Test.YthbalmoafpggdaaSho
namespace Go.Proofs.Ythbalmoafpggdaa
open Go.RowKit
set_option linter.unusedVariables false
set_option linter.unusedSimpArgs false
theorem Byt.take {l : List Int} (h : Byt l) (k : Nat) : Byt (l.take k) := fun q hq => h q (List.mem_of_mem_take hq)
theorem Byt.append {l m : List Int} (h : Byt l) (k : Byt m) : Byt (l ++ m) := fun q hq => by
  rcases List.mem_append.1 hq with hq | hq
  · exact h q hq
  · exact k q hq
theorem lawCut (v : Value) (xs : List Int) (w : World) (h : Rdv i64v w v xs) : Calls Try.prog 97 #[v] w fun e w' => (∃ v', e = .returned v' ∧ Rdv i64v w v' (xs.take 80)) ∧ w = w' := by
  obtain ⟨a, n, c, rfl⟩ := h.shape
  have hT := h.take
  have h0 := h
  obtain ⟨a', c', e, h1, h2, h3⟩ := h
  rw [Value.slice.injEq] at e
  obtain ⟨rfl, rfl, rfl⟩ := e
  unfold maxLen at h2
  clear h3
  have HT := Lib.hid hT
  have H0 := Lib.hid h0
  clear hT h0
  by_cases hc : 80 < xs.length
  · go_enter Try.func97, Try.ntmps97
    go_wp2
    have hT := HT.out 80 c (by omega) (by omega) (by omega)
    go_ret
    exact ⟨⟨_, rfl, hT⟩, rfl⟩
  · have e : Hid (xs.take 80 = xs) := List.take_of_length_le (by omega)
    go_enter Try.func97, Try.ntmps97
    go_wp2
    go_ret
    exact ⟨⟨_, rfl, by rw [e.out]; exact H0.out⟩, rfl⟩
theorem own_store {w : World} {B n : Nat} {v : Value} {l : List Int} (h : w.ownsRow B 5 1 v n (l.map u8v)) (i : Nat) (hi : i < l.length) : ∃ g c, v = .slice (some ⟨g, 0, none⟩) l.length c ∧ l.length ≤ c ∧ c ≤ maxLen ∧ B ≤ g ∧ g < w.heap.size ∧ w.cell? ⟨g, i, none⟩ = some (.int .u8 (l.getD i 0)) ∧ w.frozen? ⟨g, i, none⟩ = false ∧
    ∀ y, Rdv u8v (w.setCell ⟨g, i, none⟩ (.int .u8 y)) (.slice (some ⟨g, 0, none⟩) l.length c) (l.set i y) := by
  have hr := Rdv.of_owns h
  have hn : n = l.length := by have := h.1; simp at this; omega
  subst hn
  rcases h.2 with ⟨_, h0⟩ | ⟨g, c, cur, rfl, hB, hh, h1, h2, h3, h4⟩
  · omega
  have hb : Blk w g cur 5 := hh
  obtain ⟨a', c', e, _, _, h5⟩ := hr
  rw [Value.slice.injEq] at e
  obtain ⟨rfl, _, rfl⟩ := e
  rcases h5 with rfl | ⟨b', o', e, h5⟩
  · simp at hi
  injection e with e
  injection e with e1 e2
  subst e1; subst e2
  refine ⟨g, c, rfl, h1, h2, hB, hb.lt, by have := h5 i hi; rw [Nat.zero_add] at this; exact this, hb.free i, fun y => ⟨_, _, by simp, by simpa using h1, h2, .inr ⟨g, 0, rfl, fun j hj => ?_⟩⟩⟩
  simp at hj
  have hj' := h5 j hj
  rw [Nat.zero_add] at hj' ⊢
  by_cases hij : i = j
  · subst hij
    rw [show (l.set i y).getD i 0 = y from by simp [List.getD_eq_getElem?_getD, hj]]
    exact (hb.set i (.int .u8 y)).cell (by rw [Array.getElem?_setIfInBounds, if_pos rfl, if_pos (by omega)])
  · rw [World.cell?_setCell_other _ _ _ _ (by intro e; injection e with _ e _; omega), hj']
    simp [List.getD_eq_getElem?_getD, hij]

theorem xor_byt (a b : Nat) (ha : a < 256) (hb : b < 256) : ∃ c : Nat, bits .xor .u8 (a : Int) (b : Int) = c ∧ c < 256 :=
  ⟨a ^^^ b, u8_xor_nat a b ha hb, Nat.xor_lt_two_pow (n := 8) ha hb⟩
theorem Byt.set {l : List Int} (h : Byt l) (i : Nat) (y : Nat) (hy : y < 256) : Byt (l.set i y) := by
  intro q hq
  rcases List.mem_or_eq_of_mem_set hq with h' | h'
  · exact h q h'
  · omega
theorem own_store2 {w : World} {B n : Nat} {v : Value} {l : List Int} (h : w.ownsRow B 5 1 v n (l.map u8v)) (i : Nat) (hi : i < l.length) : ∃ g c, v = .slice (some ⟨g, 0, none⟩) l.length c ∧ l.length ≤ c ∧ c ≤ maxLen ∧ B ≤ g ∧ g < w.heap.size ∧ w.cell? ⟨g, i, none⟩ = some (.int .u8 (l.getD i 0)) ∧ w.frozen? ⟨g, i, none⟩ = false ∧
    ∀ y, (w.setCell ⟨g, i, none⟩ (.int .u8 y)).ownsRow B 5 1 (.slice (some ⟨g, 0, none⟩) l.length c) l.length ((l.set i y).map u8v) := by
  obtain ⟨g, c, rfl, h1, h2, h3, h4, h5, h6, _⟩ := own_store h i hi
  refine ⟨g, c, rfl, h1, h2, h3, h4, h5, h6, fun y => ?_⟩
  obtain ⟨e1, e2⟩ := h
  have hn : n = l.length := by simp at e1; omega
  subst hn
  refine ⟨by simp, ?_⟩
  rcases e2 with ⟨e, _⟩ | ⟨g', cap, cur, e, hg, hh, hn, hc, hs, ht⟩
  · rw [Value.slice.injEq] at e; cases e.1
  · rw [Value.slice.injEq] at e
    obtain ⟨e1, _, rfl⟩ := e
    injection e1 with e1
    injection e1 with e1 _
    subst e1
    have hb : Blk w g cur 5 := hh
    refine .inr ⟨g, c, cur.setIfInBounds i (.int .u8 y), rfl, hg, hb.set i _, hn, hc, by simpa using hs, ?_⟩
    rw [Array.toList_setIfInBounds, List.take_set, ht, List.map_set]
/-- What the law looks at. -/
def cutO (o : Opr) : Opr := { o with name := if 100 < o.name.size then o.name.extract 0 100 else o.name, data := o.data.take 3000, seen := o.seen.take 80 }
theorem cutO_name (o : Opr) : (cutO o).name.size ≤ 100 := by
  unfold cutO
  simp only
  split
  · rw [ByteArray.size_extract]; omega
  · omega
def CutPost (o : Opr) (w : World) (e : Ending) (w' : World) : Prop := ∃ d s, e = .returned (.agg #[.int .i64 ((cutO o)).time, .int .i64 ((cutO o)).node, .int .i64 ((cutO o)).seq, .int .i64 ((cutO o)).kind, .int .i64 ((cutO o)).ot, .int .i64 ((cutO o)).on, .int .i64 ((cutO o)).pt, .int .i64 ((cutO o)).pn, .string ((cutO o)).name, d, s]) ∧ Rdv u8v w d (cutO o).data ∧ Rdv i64v w s (cutO o).seen ∧ Below w.heap.size w w'
theorem lawCut3 (a : Option Addr) (l : List Int) (c : Nat) (w : World) (h1 : l.length ≤ c) (h2 : c ≤ 9223372036854775807) :
    Calls Try.prog 97 #[.slice a l.length c] w fun e w' => (∃ n' c', e = .returned (.slice a n' c') ∧ ∀ w0, Rdv i64v w0 (.slice a l.length c) l → Rdv i64v w0 (.slice a n' c') (l.take 80)) ∧ w = w' := by
  by_cases hc : 80 < l.length
  · have HT : Hid (∀ w0, Rdv i64v w0 (.slice a l.length c) l → Rdv i64v w0 (.slice a 80 c) (l.take 80)) := fun w0 h => h.take 80 c (by omega) (by omega) (by omega)
    go_enter Try.func97, Try.ntmps97
    go_wp2
    have hT := HT.out
    go_ret
    exact ⟨⟨_, _, rfl, hT⟩, rfl⟩
  · have e : Hid (l.take 80 = l) := List.take_of_length_le (by omega)
    go_enter Try.func97, Try.ntmps97
    go_wp2
    go_ret
    exact ⟨⟨_, _, rfl, fun w0 h => by rw [e.out]; exact h⟩, rfl⟩
theorem shortC4 (a : Option Addr) (l : List Int) (c n : Nat) (w : World) (hn : n ≤ 1000000) (h1 : l.length ≤ c) (h2 : c ≤ 9223372036854775807) :
    Calls Try.prog 19 #[.slice a l.length c, .int .i64 n] w fun e w' => (∃ n' c', e = .returned (.slice a n' c') ∧ ∀ w0, Rdv u8v w0 (.slice a l.length c) l → Rdv u8v w0 (.slice a n' c') (l.take n)) ∧ w = w' := by
  by_cases hc : n < l.length
  · have HT : Hid (∀ w0, Rdv u8v w0 (.slice a l.length c) l → Rdv u8v w0 (.slice a n c) (l.take n)) := fun w0 h => h.take n c (by omega) (by omega) (by omega)
    go_enter Try.func19, Try.ntmps19
    go_wp2
    have hT := HT.out
    go_ret
    exact ⟨⟨_, _, rfl, hT⟩, rfl⟩
  · have e : Hid (l.take n = l) := List.take_of_length_le (by omega)
    go_enter Try.func19, Try.ntmps19
    go_wp2
    go_ret
    exact ⟨⟨_, _, rfl, fun w0 h => by rw [e.out]; exact h⟩, rfl⟩
set_option maxHeartbeats 2000000 in
set_option maxRecDepth 100000 in
theorem opCut (o : Opr) (d s : Value) (w : World) (hd : Rdv u8v w d o.data) (hs : Rdv i64v w s o.seen) :
    Calls Try.prog 49 #[.agg #[.int .i64 (o).time, .int .i64 (o).node, .int .i64 (o).seq, .int .i64 (o).kind, .int .i64 (o).ot, .int .i64 (o).on, .int .i64 (o).pt, .int .i64 (o).pn, .string (o).name, d, s]] w (CutPost o w) := by
  obtain ⟨time, node, seq, kind, ot, on, pt, pn, name, data, xs⟩ := o
  simp only at *
  have HD := Lib.hid hd
  have HS := Lib.hid hs
  obtain ⟨da, dn, dc, rfl⟩ := hd.shape
  obtain ⟨rfl, d1, d2, _⟩ := hd.cap
  obtain ⟨sa, sn, sc, rfl⟩ := hs.shape
  obtain ⟨rfl, s1, s2, _⟩ := hs.cap
  unfold maxLen at d2 s2
  have KS := Lib.hid (fun w' => shortC4 da data dc 3000 w' (by omega) d1 (by omega))
  have KV := Lib.hid (fun w' => lawCut3 sa xs sc w' s1 (by omega))
  clear hd hs
  unfold CutPost cutO
  simp only
  by_cases hn : 100 < name.size
  · have hn1 : (100 : Int) < name.size := by omega
    have hn2 : (100 : Int) ≤ name.size := by omega
    have HN : Hid ((if 100 < name.size then name.extract 0 100 else name) = name.extract 0 100) := Lib.hid (if_pos hn)
    go_enter Try.func49, Try.ntmps49
    go_wp2_with fail
    refine (KS.out _).mono ?_
    rintro e w1 ⟨⟨n1, c1, rfl, hd1⟩, rfl⟩
    have HD1 := Lib.hid hd1
    clear hd1
    go_wp2_with fail
    refine (KV.out _).mono ?_
    rintro e w2 ⟨⟨n2, c2, rfl, hs2⟩, rfl⟩
    have HS2 := Lib.hid hs2
    clear hs2
    go_wp2
    refine bodyPost_ret (v := .agg #[.int .i64 time, .int .i64 node, .int .i64 seq, .int .i64 kind, .int .i64 ot, .int .i64 on, .int .i64 pt, .int .i64 pn, .string (name.extract 0 100), .slice da n1 c1, .slice sa n2 c2]) (by simp [results, Try.results49, go_sem, *] <;> rfl) rfl ⟨_, _, rfl, HD1.out _ HD.out, HS2.out _ HS.out, by (repeat (first | exact Below.refl _ _ | (with_reducible assumption) | apply Below.drew | (refine Below.alloc ?_ (by first | exact Nat.le_refl _ | omega | (simp; done) | (simp; omega)) _) | (refine Below.setCell ?_ (by first | exact Nat.le_refl _ | omega | (simp; done) | (simp; omega)) _) | (refine Below.trans ?_ (Below.mono (by with_reducible assumption) (by first | omega | (simp; done) | (simp; omega))))))⟩
  · have hn1 : ¬ ((100 : Int) < name.size) := by omega
    have HN : Hid ((if 100 < name.size then name.extract 0 100 else name) = name) := Lib.hid (if_neg hn)
    go_enter Try.func49, Try.ntmps49
    go_wp2_with fail
    refine (KS.out _).mono ?_
    rintro e w1 ⟨⟨n1, c1, rfl, hd1⟩, rfl⟩
    have HD1 := Lib.hid hd1
    clear hd1
    go_wp2_with fail
    refine (KV.out _).mono ?_
    rintro e w2 ⟨⟨n2, c2, rfl, hs2⟩, rfl⟩
    have HS2 := Lib.hid hs2
    clear hs2
    go_wp2
    refine bodyPost_ret (v := .agg #[.int .i64 time, .int .i64 node, .int .i64 seq, .int .i64 kind, .int .i64 ot, .int .i64 on, .int .i64 pt, .int .i64 pn, .string name, .slice da n1 c1, .slice sa n2 c2]) (by simp [results, Try.results49, go_sem, *] <;> rfl) rfl ⟨_, _, rfl, HD1.out _ HD.out, HS2.out _ HS.out, by (repeat (first | exact Below.refl _ _ | (with_reducible assumption) | apply Below.drew | (refine Below.alloc ?_ (by first | exact Nat.le_refl _ | omega | (simp; done) | (simp; omega)) _) | (refine Below.setCell ?_ (by first | exact Nat.le_refl _ | omega | (simp; done) | (simp; omega)) _) | (refine Below.trans ?_ (Below.mono (by with_reducible assumption) (by first | omega | (simp; done) | (simp; omega))))))⟩
end Go.Proofs.Ythbalmoafpggdaa

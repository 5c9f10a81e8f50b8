/- The laws of layer 12: Cut; a byte of a row turned. What is read is written as it was: plain laws. The law OpDecode: its walk. An operation, as an argument reads. The laws of package codec: begun, CodecNone. Frames: what they are, which may be. -/
import Derived.Test.YthbalmoafpggdaaGreatChecked
import Derived.WalkKit
import Derived.Outline
import Derived.WalkSpells
import Derived.WalkLawsBesides
import Derived.Deep.QuietTactic
import Derived.Deep.RegionWith
import Derived.Deep.DeepMust
import Derived.BigQuiet
import Derived.RegionTactic
import Derived.ChangeAlike
import Derived.StillTailTactics
import Derived.Deep.LoopGhost
import Derived.Laws.BitsAllLaws
import Derived.Laws.Strings3
import Derived.Deep.Slices
import Derived.ChangeSame
import Derived.OpenShut
import Derived.ChangeMaps
import Derived.Deep.OwnRows
import Derived.Test.YthbalmoafpggdaaGreatM1
import Derived.Test.YthbalmoafpggdaaGreatM13
import Derived.Test.YthbalmoafpggdaaGreatM12
import Derived.Test.YthbalmoafpggdaaGreatM4
import Derived.Test.YthbalmoafpggdaaGreatM8
import Derived.Test.YthbalmoafpggdaaGreatM3
namespace Go.Proofs.YthbalmoafpggdaaGreat
open Go.RowKit
set_option linter.unusedVariables false
set_option linter.unusedSimpArgs false
theorem lawCut (v : Value) (xs : List Int) (w : World) (h : Rdv i64v w v xs) : Calls Tryz.prog 15 #[v] w fun e w' => (∃ v', e = .returned v' ∧ Rdv i64v w v' (xs.take 80)) ∧ w = w' := by
  obtain ⟨a, n, c, rfl⟩ := h.shape
  have hT := h.take
  have h0 := h
  obtain ⟨a', c', e, h1, h2, h3⟩ := h
  rw [Value.slice.injEq] at e
  obtain ⟨rfl, rfl, rfl⟩ := e
  unfold maxLen at h2
  clear h3
  have HT := Lib.hid hT
  have H0 := Lib.hid h0
  clear hT h0
  by_cases hc : 80 < xs.length
  · go_enter Tryz.func15, Tryz.ntmps15
    go_wp2
    have hT := HT.out 80 c (by omega) (by omega) (by omega)
    go_ret
    exact ⟨⟨_, rfl, hT⟩, rfl⟩
  · have e : Hid (xs.take 80 = xs) := List.take_of_length_le (by omega)
    go_enter Tryz.func15, Tryz.ntmps15
    go_wp2
    go_ret
    exact ⟨⟨_, rfl, by rw [e.out]; exact H0.out⟩, rfl⟩
theorem own_store {w : World} {B n : Nat} {v : Value} {l : List Int} (h : w.ownsRow B 5 1 v n (l.map u8v)) (i : Nat) (hi : i < l.length) : ∃ g c, v = .slice (some ⟨g, 0, none⟩) l.length c ∧ l.length ≤ c ∧ c ≤ maxLen ∧ B ≤ g ∧ g < w.heap.size ∧ w.cell? ⟨g, i, none⟩ = some (.int .u8 (l.getD i 0)) ∧ w.frozen? ⟨g, i, none⟩ = false ∧
    ∀ y, Rdv u8v (w.setCell ⟨g, i, none⟩ (.int .u8 y)) (.slice (some ⟨g, 0, none⟩) l.length c) (l.set i y) := by
  have hr := Rdv.of_owns h
  have hn : n = l.length := by have := h.1; simp at this; omega
  subst hn
  rcases h.2 with ⟨_, h0⟩ | ⟨g, c, cur, rfl, hB, hh, h1, h2, h3, h4⟩
  · omega
  have hb : Blk w g cur 5 := hh
  obtain ⟨a', c', e, _, _, h5⟩ := hr
  rw [Value.slice.injEq] at e
  obtain ⟨rfl, _, rfl⟩ := e
  rcases h5 with rfl | ⟨b', o', e, h5⟩
  · simp at hi
  injection e with e
  injection e with e1 e2
  subst e1; subst e2
  refine ⟨g, c, rfl, h1, h2, hB, hb.lt, by have := h5 i hi; rw [Nat.zero_add] at this; exact this, hb.free i, fun y => ⟨_, _, by simp, by simpa using h1, h2, .inr ⟨g, 0, rfl, fun j hj => ?_⟩⟩⟩
  simp at hj
  have hj' := h5 j hj
  rw [Nat.zero_add] at hj' ⊢
  by_cases hij : i = j
  · subst hij
    rw [show (l.set i y).getD i 0 = y from by simp [List.getD_eq_getElem?_getD, hj]]
    exact (hb.set i (.int .u8 y)).cell (by rw [Array.getElem?_setIfInBounds, if_pos rfl, if_pos (by omega)])
  · rw [World.cell?_setCell_other _ _ _ _ (by intro e; injection e with _ e _; omega), hj']
    simp [List.getD_eq_getElem?_getD, hij]

theorem xor_byt (a b : Nat) (ha : a < 256) (hb : b < 256) : ∃ c : Nat, bits .xor .u8 (a : Int) (b : Int) = c ∧ c < 256 :=
  ⟨a ^^^ b, u8_xor_nat a b ha hb, Nat.xor_lt_two_pow (n := 8) ha hb⟩
theorem Byt.set {l : List Int} (h : Byt l) (i : Nat) (y : Nat) (hy : y < 256) : Byt (l.set i y) := by
  intro q hq
  rcases List.mem_or_eq_of_mem_set hq with h' | h'
  · exact h q h'
  · omega
theorem own_store2 {w : World} {B n : Nat} {v : Value} {l : List Int} (h : w.ownsRow B 5 1 v n (l.map u8v)) (i : Nat) (hi : i < l.length) : ∃ g c, v = .slice (some ⟨g, 0, none⟩) l.length c ∧ l.length ≤ c ∧ c ≤ maxLen ∧ B ≤ g ∧ g < w.heap.size ∧ w.cell? ⟨g, i, none⟩ = some (.int .u8 (l.getD i 0)) ∧ w.frozen? ⟨g, i, none⟩ = false ∧
    ∀ y, (w.setCell ⟨g, i, none⟩ (.int .u8 y)).ownsRow B 5 1 (.slice (some ⟨g, 0, none⟩) l.length c) l.length ((l.set i y).map u8v) := by
  obtain ⟨g, c, rfl, h1, h2, h3, h4, h5, h6, _⟩ := own_store h i hi
  refine ⟨g, c, rfl, h1, h2, h3, h4, h5, h6, fun y => ?_⟩
  obtain ⟨e1, e2⟩ := h
  have hn : n = l.length := by simp at e1; omega
  subst hn
  refine ⟨by simp, ?_⟩
  rcases e2 with ⟨e, _⟩ | ⟨g', cap, cur, e, hg, hh, hn, hc, hs, ht⟩
  · rw [Value.slice.injEq] at e; cases e.1
  · rw [Value.slice.injEq] at e
    obtain ⟨e1, _, rfl⟩ := e
    injection e1 with e1
    injection e1 with e1 _
    subst e1
    have hb : Blk w g cur 5 := hh
    refine .inr ⟨g, c, cur.setIfInBounds i (.int .u8 y), rfl, hg, hb.set i _, hn, hc, by simpa using hs, ?_⟩
    rw [Array.toList_setIfInBounds, List.take_set, ht, List.map_set]
/-- What the law looks at. -/
def cutO (o : Opr) : Opr := { o with name := if 100 < o.name.size then o.name.extract 0 100 else o.name, data := o.data.take 3000, seen := o.seen.take 80 }
theorem cutO_name (o : Opr) : (cutO o).name.size ≤ 100 := by
  unfold cutO
  simp only
  split
  · rw [ByteArray.size_extract]; omega
  · omega
def CutPost (o : Opr) (w : World) (e : Ending) (w' : World) : Prop := ∃ d s, e = .returned (.agg #[.int .i64 ((cutO o)).time, .int .i64 ((cutO o)).node, .int .i64 ((cutO o)).seq, .int .i64 ((cutO o)).kind, .int .i64 ((cutO o)).ot, .int .i64 ((cutO o)).on, .int .i64 ((cutO o)).pt, .int .i64 ((cutO o)).pn, .string ((cutO o)).name, d, s]) ∧ Rdv u8v w d (cutO o).data ∧ Rdv i64v w s (cutO o).seen ∧ Below w.heap.size w w'
theorem lawCut3 (a : Option Addr) (l : List Int) (c : Nat) (w : World) (h1 : l.length ≤ c) (h2 : c ≤ 9223372036854775807) :
    Calls Tryz.prog 15 #[.slice a l.length c] w fun e w' => (∃ n' c', e = .returned (.slice a n' c') ∧ ∀ w0, Rdv i64v w0 (.slice a l.length c) l → Rdv i64v w0 (.slice a n' c') (l.take 80)) ∧ w = w' := by
  by_cases hc : 80 < l.length
  · have HT : Hid (∀ w0, Rdv i64v w0 (.slice a l.length c) l → Rdv i64v w0 (.slice a 80 c) (l.take 80)) := fun w0 h => h.take 80 c (by omega) (by omega) (by omega)
    go_enter Tryz.func15, Tryz.ntmps15
    go_wp2
    have hT := HT.out
    go_ret
    exact ⟨⟨_, _, rfl, hT⟩, rfl⟩
  · have e : Hid (l.take 80 = l) := List.take_of_length_le (by omega)
    go_enter Tryz.func15, Tryz.ntmps15
    go_wp2
    go_ret
    exact ⟨⟨_, _, rfl, fun w0 h => by rw [e.out]; exact h⟩, rfl⟩
theorem shortC4 (a : Option Addr) (l : List Int) (c n : Nat) (w : World) (hn : n ≤ 1000000) (h1 : l.length ≤ c) (h2 : c ≤ 9223372036854775807) :
    Calls Tryz.prog 13 #[.slice a l.length c, .int .i64 n] w fun e w' => (∃ n' c', e = .returned (.slice a n' c') ∧ ∀ w0, Rdv u8v w0 (.slice a l.length c) l → Rdv u8v w0 (.slice a n' c') (l.take n)) ∧ w = w' := by
  by_cases hc : n < l.length
  · have HT : Hid (∀ w0, Rdv u8v w0 (.slice a l.length c) l → Rdv u8v w0 (.slice a n c) (l.take n)) := fun w0 h => h.take n c (by omega) (by omega) (by omega)
    go_enter Tryz.func13, Tryz.ntmps13
    go_wp2
    have hT := HT.out
    go_ret
    exact ⟨⟨_, _, rfl, hT⟩, rfl⟩
  · have e : Hid (l.take n = l) := List.take_of_length_le (by omega)
    go_enter Tryz.func13, Tryz.ntmps13
    go_wp2
    go_ret
    exact ⟨⟨_, _, rfl, fun w0 h => by rw [e.out]; exact h⟩, rfl⟩
set_option maxHeartbeats 2000000 in
set_option maxRecDepth 100000 in
theorem opCut (o : Opr) (d s : Value) (w : World) (hd : Rdv u8v w d o.data) (hs : Rdv i64v w s o.seen) :
    Calls Tryz.prog 16 #[.agg #[.int .i64 (o).time, .int .i64 (o).node, .int .i64 (o).seq, .int .i64 (o).kind, .int .i64 (o).ot, .int .i64 (o).on, .int .i64 (o).pt, .int .i64 (o).pn, .string (o).name, d, s]] w (CutPost o w) := by
  obtain ⟨time, node, seq, kind, ot, on, pt, pn, name, data, xs⟩ := o
  simp only at *
  have HD := Lib.hid hd
  have HS := Lib.hid hs
  obtain ⟨da, dn, dc, rfl⟩ := hd.shape
  obtain ⟨rfl, d1, d2, _⟩ := hd.cap
  obtain ⟨sa, sn, sc, rfl⟩ := hs.shape
  obtain ⟨rfl, s1, s2, _⟩ := hs.cap
  unfold maxLen at d2 s2
  have KS := Lib.hid (fun w' => shortC4 da data dc 3000 w' (by omega) d1 (by omega))
  have KV := Lib.hid (fun w' => lawCut3 sa xs sc w' s1 (by omega))
  clear hd hs
  unfold CutPost cutO
  simp only
  by_cases hn : 100 < name.size
  · have hn1 : (100 : Int) < name.size := by omega
    have hn2 : (100 : Int) ≤ name.size := by omega
    have HN : Hid ((if 100 < name.size then name.extract 0 100 else name) = name.extract 0 100) := Lib.hid (if_pos hn)
    go_enter Tryz.func16, Tryz.ntmps16
    go_wp2_with fail
    refine (KS.out _).mono ?_
    rintro e w1 ⟨⟨n1, c1, rfl, hd1⟩, rfl⟩
    have HD1 := Lib.hid hd1
    clear hd1
    go_wp2_with fail
    refine (KV.out _).mono ?_
    rintro e w2 ⟨⟨n2, c2, rfl, hs2⟩, rfl⟩
    have HS2 := Lib.hid hs2
    clear hs2
    go_wp2
    refine bodyPost_ret (v := .agg #[.int .i64 time, .int .i64 node, .int .i64 seq, .int .i64 kind, .int .i64 ot, .int .i64 on, .int .i64 pt, .int .i64 pn, .string (name.extract 0 100), .slice da n1 c1, .slice sa n2 c2]) (by simp [results, Tryz.results16, go_sem, *] <;> rfl) rfl ⟨_, _, rfl, HD1.out _ HD.out, HS2.out _ HS.out, by (repeat (first | exact Below.refl _ _ | (with_reducible assumption) | apply Below.drew | (refine Below.alloc ?_ (by first | exact Nat.le_refl _ | omega | (simp; done) | (simp; omega)) _) | (refine Below.setCell ?_ (by first | exact Nat.le_refl _ | omega | (simp; done) | (simp; omega)) _) | (refine Below.trans ?_ (Below.mono (by with_reducible assumption) (by first | omega | (simp; done) | (simp; omega))))))⟩
  · have hn1 : ¬ ((100 : Int) < name.size) := by omega
    have HN : Hid ((if 100 < name.size then name.extract 0 100 else name) = name) := Lib.hid (if_neg hn)
    go_enter Tryz.func16, Tryz.ntmps16
    go_wp2_with fail
    refine (KS.out _).mono ?_
    rintro e w1 ⟨⟨n1, c1, rfl, hd1⟩, rfl⟩
    have HD1 := Lib.hid hd1
    clear hd1
    go_wp2_with fail
    refine (KV.out _).mono ?_
    rintro e w2 ⟨⟨n2, c2, rfl, hs2⟩, rfl⟩
    have HS2 := Lib.hid hs2
    clear hs2
    go_wp2
    refine bodyPost_ret (v := .agg #[.int .i64 time, .int .i64 node, .int .i64 seq, .int .i64 kind, .int .i64 ot, .int .i64 on, .int .i64 pt, .int .i64 pn, .string name, .slice da n1 c1, .slice sa n2 c2]) (by simp [results, Tryz.results16, go_sem, *] <;> rfl) rfl ⟨_, _, rfl, HD1.out _ HD.out, HS2.out _ HS.out, by (repeat (first | exact Below.refl _ _ | (with_reducible assumption) | apply Below.drew | (refine Below.alloc ?_ (by first | exact Nat.le_refl _ | omega | (simp; done) | (simp; omega)) _) | (refine Below.setCell ?_ (by first | exact Nat.le_refl _ | omega | (simp; done) | (simp; omega)) _) | (refine Below.trans ?_ (Below.mono (by with_reducible assumption) (by first | omega | (simp; done) | (simp; omega))))))⟩
end Go.Proofs.YthbalmoafpggdaaGreat
namespace Go.Proofs.YthbalmoafpggdaaGreat
open Go.RowKit
set_option linter.unusedVariables false
set_option linter.unusedSimpArgs false
theorem rdN_canon (l : List Int) (hl : Byt l) : ∀ f k n v j, rdN l f k n = some (v, j) → k ≤ j ∧ ∃ m, v = n + m * 2 ^ (7 * k) ∧ (l.drop k).take (j - k) = numF f m ∧ (0 < k → 0 < m)
  | 0, _, _, _, _, h => by simp [rdN] at h
  | f + 1, k, n, v, j, h => by
    unfold rdN at h
    split at h
    · cases h
    · next c hc =>
      have hk : k < l.length := by
        rcases Nat.lt_or_ge k l.length with h | h
        · exact h
        · rw [List.getElem?_eq_none h] at hc; cases hc
      have hcm : c ∈ l := List.mem_of_getElem? hc
      have hcb := hl c hcm
      have hd : l.drop k = c :: l.drop (k + 1) := by
        rw [List.drop_eq_getElem_cons hk]
        rw [List.getElem?_eq_getElem hk] at hc
        injection hc with hc
        rw [hc]
      split at h
      · next h1 =>
        split at h
        · cases h
        · next h2 =>
          simp only [Option.some.injEq, Prod.mk.injEq] at h
          obtain ⟨rfl, rfl⟩ := h
          refine ⟨by omega, c.toNat, by rw [Nat.mod_eq_of_lt h1], ?_, by omega⟩
          rw [hd, show k + 1 - k = 1 by omega, numF_small _ _ (by omega) (by omega)]
          simp
          omega
      · next h1 =>
        obtain ⟨hj, m, hm, ht, h0⟩ := rdN_canon l hl f (k + 1) _ v j h
        have h0 := h0 (by omega)
        have hp : 2 ^ (7 * (k + 1)) = 128 * 2 ^ (7 * k) := by rw [show 7 * (k + 1) = 7 + 7 * k by omega, Nat.pow_add]
        refine ⟨by omega, c.toNat % 128 + 128 * m, ?_, ?_, by omega⟩
        · rw [hm, hp, Nat.add_mul, Nat.mul_assoc, Nat.mul_left_comm, Nat.add_assoc]
        · rw [hd, numF_step _ _ (by omega), show j - k = (j - (k + 1)) + 1 by omega, List.take_succ_cons, ht]
          have e1 : (c.toNat % 128 + 128 * m) % 128 = c.toNat % 128 := by omega
          have e2 : (c.toNat % 128 + 128 * m) / 128 = m := by omega
          rw [e1, e2]
          congr 1
          omega
theorem numS_canon {l l' : List Int} {n : Nat} (hl : Byt l) (h : numS (some l) = (n, some l')) : l = numL n ++ l' ∧ Byt l' := by
  unfold numS at h
  simp only at h
  split at h
  · cases h
  · next n' k hk =>
    simp only [Prod.mk.injEq, Option.some.injEq] at h
    obtain ⟨rfl, rfl⟩ := h
    obtain ⟨_, m, hm, ht, _⟩ := rdN_canon l hl 9 0 0 _ _ hk
    simp at hm ht
    subst hm
    exact ⟨by rw [numL, ← ht, List.take_append_drop], hl.drop _⟩
theorem numS_some {s : RS} {n : Nat} {l' : List Int} (h : numS s = (n, some l')) : ∃ l, s = some l := by
  cases s with
  | none => cases h
  | some l => exact ⟨l, rfl⟩
theorem idS_canon {s : RS} {l' : List Int} {t n : Nat} (h : idS s = ((t, n), some l')) : ∃ l, s = some l ∧ (Byt l → l = (numL t ++ numL n) ++ l' ∧ Byt l') := by
  rw [idS_eq] at h
  rcases h1 : numS s with ⟨a, s1⟩
  rw [h1] at h
  simp only at h
  rcases h2 : numS s1 with ⟨b, _ | l2⟩
  · rw [h2] at h; cases h
  rw [h2] at h
  simp only at h
  split at h
  · cases h
  · simp only [Prod.mk.injEq, Option.some.injEq] at h
    obtain ⟨⟨rfl, rfl⟩, rfl⟩ := h
    obtain ⟨l1, rfl⟩ := numS_some h2
    obtain ⟨l, rfl⟩ := numS_some h1
    refine ⟨l, rfl, fun hl => ?_⟩
    obtain ⟨e1, b1⟩ := numS_canon hl h1
    obtain ⟨e2, b2⟩ := numS_canon b1 h2
    exact ⟨by rw [e1, e2, List.append_assoc], b2⟩
theorem bytesS_canon {s : RS} {l' x : List Int} (h : bytesS s = (x, some l')) : ∃ l, s = some l ∧ (Byt l → l = (numL x.length ++ x) ++ l' ∧ Byt l' ∧ Byt x) := by
  unfold bytesS at h
  rcases h1 : numS s with ⟨n, _ | l1⟩
  · rw [h1] at h; cases h
  rw [h1] at h
  simp only at h
  split at h
  · cases h
  · next hn =>
    simp only [Prod.mk.injEq, Option.some.injEq] at h
    obtain ⟨rfl, rfl⟩ := h
    obtain ⟨l, rfl⟩ := numS_some h1
    refine ⟨l, rfl, fun hl => ?_⟩
    obtain ⟨e1, b1⟩ := numS_canon hl h1
    have hlen : (l1.take n).length = n := by simp; omega
    exact ⟨by rw [hlen, List.append_assoc, List.take_append_drop]; exact e1, b1.drop _, fun q hq => b1 q (List.mem_of_mem_take hq)⟩
theorem numsL_snoc1 (v : List Int) (x : Int) : numsL (v ++ [x]) = numsL v ++ numL x.toNat := by simp [numsL]
theorem numsS_canon : ∀ (k : Nat) (s : RS) (v l' : List Int), numsS k s = (v, some l') → ∃ l, s = some l ∧ (Byt l → l = numsL v ++ l' ∧ Byt l')
  | 0, s, v, l', h => by
    simp only [numsS, Prod.mk.injEq] at h
    obtain ⟨rfl, rfl⟩ := h
    exact ⟨l', rfl, fun hl => ⟨by simp [numsL], hl⟩⟩
  | k + 1, s, v, l', h => by
    rcases h1 : numsS k s with ⟨v1, s1⟩
    rcases h2 : numS s1 with ⟨n, s2⟩
    simp only [numsS, h1, h2, Prod.mk.injEq] at h
    obtain ⟨rfl, rfl⟩ := h
    obtain ⟨l1, rfl⟩ := numS_some h2
    obtain ⟨l, e, hh⟩ := numsS_canon k s v1 l1 h1
    refine ⟨l, e, fun hl => ?_⟩
    obtain ⟨e1, b1⟩ := hh hl
    obtain ⟨e2, b2⟩ := numS_canon b1 h2
    exact ⟨by rw [numsL_snoc1, e1, e2, List.append_assoc]; simp, b2⟩
theorem vecS_canon {s : RS} {l' v : List Int} (h : vecS s = (v, some l')) : ∃ l, s = some l ∧ cutL v = v ∧ (Byt l → l = (numL v.length ++ numsL v) ++ l' ∧ Byt l') := by
  rw [vecS_eq] at h
  rcases h1 : numS s with ⟨n, _ | l1⟩
  · rw [h1] at h; cases h
  rw [h1] at h
  simp only at h
  split at h
  · cases h
  rcases h2 : numsS n (some l1) with ⟨v1, _ | l2⟩
  · rw [h2] at h; cases h
  rw [h2] at h
  simp only at h
  split at h
  · next hok =>
    simp only [Prod.mk.injEq, Option.some.injEq] at h
    obtain ⟨rfl, rfl⟩ := h
    obtain ⟨l, rfl⟩ := numS_some h1
    have hlen : v1.length = n := by have := numsS_len n (some l1); rw [h2] at this; exact this
    unfold vecOkB at hok
    rw [Bool.and_eq_true, decide_eq_true_eq] at hok
    refine ⟨l, rfl, cutL_all v1 hok.2, fun hl => ?_⟩
    obtain ⟨e1, b1⟩ := numS_canon hl h1
    obtain ⟨l3, e3, hh⟩ := numsS_canon n (some l1) v1 l2 h2
    injection e3 with e3
    subst e3
    obtain ⟨e2, b2⟩ := hh b1
    exact ⟨by rw [hlen, e1, e2]; simp [List.append_assoc], b2⟩
  · cases h
/-- What is read as an operation is its bytes. -/
theorem dec_canon {l : List Int} (hl : Byt l) (h : decB l = true) : opL (decO l) = l := by
  unfold decB at h
  rw [Bool.and_eq_true, decide_eq_true_eq] at h
  have h8 := h.1
  obtain ⟨n1, s1, q1⟩ : ∃ n s, numS (some l) = (n, s) := ⟨_, _, rfl⟩
  obtain ⟨t2, nd2, s2, q2⟩ : ∃ t n s, idS s1 = ((t, n), s) := ⟨_, _, _, rfl⟩
  obtain ⟨n3, s3, q3⟩ : ∃ n s, numS s2 = (n, s) := ⟨_, _, rfl⟩
  obtain ⟨t4, nd4, s4, q4⟩ : ∃ t n s, idS s3 = ((t, n), s) := ⟨_, _, _, rfl⟩
  obtain ⟨t5, nd5, s5, q5⟩ : ∃ t n s, idS s4 = ((t, n), s) := ⟨_, _, _, rfl⟩
  obtain ⟨b6, s6, q6⟩ : ∃ n s, bytesS s5 = (n, s) := ⟨_, _, rfl⟩
  obtain ⟨b7, s7, q7⟩ : ∃ n s, bytesS s6 = (n, s) := ⟨_, _, rfl⟩
  obtain ⟨b8, s8, q8⟩ : ∃ n s, vecS s7 = (n, s) := ⟨_, _, rfl⟩
  have hR : decR l = (n1, ⟨t2, nd2, n3, n1, t4, nd4, t5, nd5, strOfNums b6, b7, b8⟩, s8) := by unfold decR; simp only [q1, q2, q3, q4, q5, q6, q7, q8]
  unfold decO
  rw [hR] at h8 ⊢
  simp only at h8 ⊢
  subst h8
  obtain ⟨l7, rfl, c8, g8⟩ := vecS_canon q8
  obtain ⟨l6, rfl, g7⟩ := bytesS_canon q7
  obtain ⟨l5, rfl, g6⟩ := bytesS_canon q6
  obtain ⟨l4, rfl, g5⟩ := idS_canon q5
  obtain ⟨l3, rfl, g4⟩ := idS_canon q4
  obtain ⟨l2, rfl⟩ := numS_some q3
  obtain ⟨l1, rfl, g2⟩ := idS_canon q2
  obtain ⟨e1, y1⟩ := numS_canon hl q1
  obtain ⟨e2, y2⟩ := g2 y1
  obtain ⟨e3, y3⟩ := numS_canon y2 q3
  obtain ⟨e4, y4⟩ := g4 y3
  obtain ⟨e5, y5⟩ := g5 y4
  obtain ⟨e6, y6, z6⟩ := g6 y5
  obtain ⟨e7, y7, z7⟩ := g7 y6
  obtain ⟨e8, y8⟩ := g8 y7
  unfold opL
  simp only [Int.toNat_natCast]
  rw [strL_of b6 z6, c8, e1, e2, e3, e4, e5, e6, e7, e8]
  simp [List.append_assoc]
theorem dec_byt {l : List Int} (hl : Byt l) (h : decB l = true) : Byt (decO l).data := by
  unfold decB at h
  rw [Bool.and_eq_true, decide_eq_true_eq] at h
  have h8 := h.1
  obtain ⟨n1, s1, q1⟩ : ∃ n s, numS (some l) = (n, s) := ⟨_, _, rfl⟩
  obtain ⟨t2, nd2, s2, q2⟩ : ∃ t n s, idS s1 = ((t, n), s) := ⟨_, _, _, rfl⟩
  obtain ⟨n3, s3, q3⟩ : ∃ n s, numS s2 = (n, s) := ⟨_, _, rfl⟩
  obtain ⟨t4, nd4, s4, q4⟩ : ∃ t n s, idS s3 = ((t, n), s) := ⟨_, _, _, rfl⟩
  obtain ⟨t5, nd5, s5, q5⟩ : ∃ t n s, idS s4 = ((t, n), s) := ⟨_, _, _, rfl⟩
  obtain ⟨b6, s6, q6⟩ : ∃ n s, bytesS s5 = (n, s) := ⟨_, _, rfl⟩
  obtain ⟨b7, s7, q7⟩ : ∃ n s, bytesS s6 = (n, s) := ⟨_, _, rfl⟩
  obtain ⟨b8, s8, q8⟩ : ∃ n s, vecS s7 = (n, s) := ⟨_, _, rfl⟩
  have hR : decR l = (n1, ⟨t2, nd2, n3, n1, t4, nd4, t5, nd5, strOfNums b6, b7, b8⟩, s8) := by unfold decR; simp only [q1, q2, q3, q4, q5, q6, q7, q8]
  unfold decO
  rw [hR] at h8 ⊢
  simp only at h8 ⊢
  subst h8
  obtain ⟨l7, rfl, c8, g8⟩ := vecS_canon q8
  obtain ⟨l6, rfl, g7⟩ := bytesS_canon q7
  obtain ⟨l5, rfl, g6⟩ := bytesS_canon q6
  obtain ⟨l4, rfl, g5⟩ := idS_canon q5
  obtain ⟨l3, rfl, g4⟩ := idS_canon q4
  obtain ⟨l2, rfl⟩ := numS_some q3
  obtain ⟨l1, rfl, g2⟩ := idS_canon q2
  obtain ⟨e1, y1⟩ := numS_canon hl q1
  obtain ⟨e2, y2⟩ := g2 y1
  obtain ⟨e3, y3⟩ := numS_canon y2 q3
  obtain ⟨e4, y4⟩ := g4 y3
  obtain ⟨e5, y5⟩ := g5 y4
  obtain ⟨e6, y6, z6⟩ := g6 y5
  obtain ⟨e7, y7, z7⟩ := g7 y6
  exact z7
end Go.Proofs.YthbalmoafpggdaaGreat
namespace Go.Proofs.YthbalmoafpggdaaGreat
open Go.RowKit
set_option linter.unusedVariables false
set_option linter.unusedSimpArgs false
def outL (o : Opr) : List Int := if mayB o = true then opL o else []
theorem outL_fine (o : Opr) (hd : Byt o.data) : Byt (outL o) ∧ (outL o).length ≤ 200000 := by
  unfold outL
  split
  · next hm =>
    have F := may_fine hm
    have l12 := F.name
    have l13 := F.data
    have l14 := numsL_len (cutL o.seen)
    have l15 := F.seen.2
    have l1 := numL_len o.kind.toNat
    have l2 := numL_len o.time.toNat
    have l3 := numL_len o.node.toNat
    have l4 := numL_len o.seq.toNat
    have l5 := numL_len o.ot.toNat
    have l6 := numL_len o.on.toNat
    have l7 := numL_len o.pt.toNat
    have l8 := numL_len o.pn.toNat
    have l9 := numL_len (strL o.name).length
    have l10 := numL_len o.data.length
    have l11 := numL_len (cutL o.seen).length
    unfold opL
    constructor
    · have nb : ∀ n, Byt (numL n) := fun n => numL_byt n
      have sb : Byt (strL o.name) := strL_byt _
      have vb : Byt (numsL (cutL o.seen)) := numsL_byt _
      repeat' apply Byt.append
      all_goals first | exact nb _ | exact sb | exact vb | exact hd
    · simp only [List.length_append]
      omega
  · exact ⟨fun q h => by simp at h, by simp⟩
theorem own_hin {w : World} {B e s n : Nat} {v : Value} {xs : List Value} (h : w.ownsRow B e s v n xs) : v = .slice none 0 0 ∨ ∃ B o n c, v = .slice (some ⟨B, o, none⟩) n c ∧ B < w.heap.size := by
  rcases h.2 with ⟨rfl, rfl⟩ | ⟨g, c, cur, rfl, _, hh, _⟩
  · exact .inl rfl
  · have hb : Blk w g cur e := hh
    exact .inr ⟨g, 0, n, c, rfl, hb.lt⟩
theorem decB_may {l : List Int} (h : decB l = true) : mayB (decO l) = true := by
  unfold decB at h
  rw [Bool.and_eq_true] at h
  exact h.2
theorem may_size {o : Opr} (h : mayB o = true) : o.name.size < 4294967281 := by
  have := (may_fine h).name
  rw [strL_len] at this
  have e := Lib.size_eq o.name
  omega
def z0 : Opr := ⟨0, 0, 0, 0, 0, 0, 0, 0, ByteArray.empty, [], []⟩
end Go.Proofs.YthbalmoafpggdaaGreat
namespace Go.Proofs.YthbalmoafpggdaaGreat
open Go.RowKit Go.ChangeShapes Go.WideShapes Go.Deep
set_option linter.unusedVariables false
set_option linter.unusedSimpArgs false
section
variable {H : Type} {enc : TypeId × Value → H} {w : World}
theorem row_of_trod {ts te : TypeId} {k : IntKind} (hs : Tryz.prog.underlying ts = some (.slice te)) (he : Tryz.prog.underlying te = some (.int k)) (hc : Tryz.prog.cellsOf te = 1) {fuel : Nat} {c : Value} {x : DataW H × List MemPlace} (hf : DataW.trod enc Tryz.prog w 0 (fun _ => true) true fuel ts [c] = some x) :
    ∃ a n cap zs, c = .slice a n cap ∧ IsRow k w a n cap zs := by
  rcases open_ints hs he hc hf with ⟨hcs, _⟩ | ⟨x, l, c, zs, hcs, _, hl, hm, hz, _, hcell, hwz⟩
  · simp at hcs
    exact ⟨none, 0, 0, [], hcs, .inl ⟨rfl, rfl, rfl, rfl⟩⟩
  · simp at hcs
    exact ⟨_, _, _, zs, hcs, .inr ⟨_, rfl, hl, hm, by simpa using hz, hcell, hwz⟩⟩
theorem byt_of_row9 {w : World} {a : Option Addr} {len cap : Nat} {zs : List Int} (h : IsRow .u8 w a len cap zs) : Byt (zs.take len) := fun q hq => by
  have := bounds_u8 (h.wf q hq)
  omega
theorem lt_of_u8 {x : Int} (h : (Lit.int .u8 x).wf = true) : 0 ≤ x ∧ x < 256 := by
  have := bounds_u8 h
  omega
set_option maxRecDepth 100000 in
theorem two_of_trod {fuel : Nat} {cs : List Value} {x : DataW H × List MemPlace} (h : DataW.trod enc Tryz.prog w 0 (fun _ => true) true fuel 44 cs = some x) : ∃ t n : Int, cs = [.int .i64 t, .int .i64 n] := by
  obtain ⟨xs, n, _, _, hl, hxl, hf⟩ := DataW.trod_struct Tryz.underlying44 h
  have hC : Tryz.prog.cellsOf 44 = 2 := by kernel_rfl
  have k3 : Tryz.prog.cellsOf 3 = 1 := by kernel_rfl
  have k2 : Tryz.prog.cellsOf 2 = 1 := by kernel_rfl
  rw [hC] at hl
  match cs, hl with
  | [c0, c1], _ =>
    match xs, hxl with
    | [y0, y1], _ =>
      have g0 : DataW.trod enc Tryz.prog w 0 (fun _ => true) true n 2 [c0] = some y0 := by have := hf 0 _ rfl; simpa [k2] using this
      have g1 : DataW.trod enc Tryz.prog w 0 (fun _ => true) true n 3 [c1] = some y1 := by have := hf 1 _ rfl; simpa [k3] using this
      obtain ⟨t, e3, _, _⟩ := DataW.trod_int Tryz.underlying2 g0
      obtain ⟨nd, e4, _, _⟩ := DataW.trod_int Tryz.underlying3 g1
      simp only [List.cons.injEq, and_true] at e3 e4
      subst e3 e4
      exact ⟨t, nd, rfl⟩
set_option maxRecDepth 100000 in
theorem op_of_trod {fuel : Nat} {cs : List Value} {x : DataW H × List MemPlace} (h : DataW.trod enc Tryz.prog w 0 (fun _ => true) true fuel 46 cs = some x) : ∃ (o : Opr) (d s : Value), cs = [.int .i64 o.time, .int .i64 o.node, .int .i64 o.seq, .int .i64 o.kind, .int .i64 o.ot, .int .i64 o.on, .int .i64 o.pt, .int .i64 o.pn, .string o.name, d, s] ∧ Rdv u8v w d o.data ∧ Rdv i64v w s o.seen ∧ Byt o.data := by
  obtain ⟨xs, n, _, _, hl, hxl, hf⟩ := DataW.trod_struct Tryz.underlying46 h
  have hC : Tryz.prog.cellsOf 46 = 11 := by kernel_rfl
  have k3 : Tryz.prog.cellsOf 3 = 1 := by kernel_rfl
  have k2 : Tryz.prog.cellsOf 2 = 1 := by kernel_rfl
  have k9 : Tryz.prog.cellsOf 9 = 1 := by kernel_rfl
  have k24 : Tryz.prog.cellsOf 30 = 1 := by kernel_rfl
  have k45 : Tryz.prog.cellsOf 44 = 2 := by kernel_rfl
  have k47 : Tryz.prog.cellsOf 23 = 1 := by kernel_rfl
  have k5 : Tryz.prog.cellsOf 5 = 1 := by kernel_rfl
  rw [hC] at hl
  match cs, hl with
  | [c0, c1, c2, c3, c4, c5, c6, c7, c8, c9, c10], _ =>
    match xs, hxl with
    | [x0, x1, x2, x3, x4, x5, x6, x7], _ =>
      have f0 : DataW.trod enc Tryz.prog w 0 (fun _ => true) true n 44 [c0, c1] = some x0 := by have := hf 0 _ rfl; simpa [k45] using this
      have f1 : DataW.trod enc Tryz.prog w 0 (fun _ => true) true n 2 [c2] = some x1 := by have := hf 1 _ rfl; simpa [k45, k2] using this
      have f2 : DataW.trod enc Tryz.prog w 0 (fun _ => true) true n 3 [c3] = some x2 := by have := hf 2 _ rfl; simpa [k45, k2, k3] using this
      have f3 : DataW.trod enc Tryz.prog w 0 (fun _ => true) true n 44 [c4, c5] = some x3 := by have := hf 3 _ rfl; simpa [k45, k2, k3] using this
      have f4 : DataW.trod enc Tryz.prog w 0 (fun _ => true) true n 44 [c6, c7] = some x4 := by have := hf 4 _ rfl; simpa [k45, k2, k3] using this
      have f5 : DataW.trod enc Tryz.prog w 0 (fun _ => true) true n 9 [c8] = some x5 := by have := hf 5 _ rfl; simpa [k45, k2, k3, k9] using this
      have f6 : DataW.trod enc Tryz.prog w 0 (fun _ => true) true n 30 [c9] = some x6 := by have := hf 6 _ rfl; simpa [k45, k2, k3, k9, k24] using this
      have f7 : DataW.trod enc Tryz.prog w 0 (fun _ => true) true n 23 [c10] = some x7 := by have := hf 7 _ rfl; simpa [k45, k2, k3, k9, k24, k47] using this
      obtain ⟨a0, a1, e0⟩ := two_of_trod f0
      obtain ⟨a2, e2, _, _⟩ := DataW.trod_int Tryz.underlying2 f1
      obtain ⟨a3, e3, _, _⟩ := DataW.trod_int Tryz.underlying3 f2
      obtain ⟨a4, a5, e4⟩ := two_of_trod f3
      obtain ⟨a6, a7, e6⟩ := two_of_trod f4
      obtain ⟨nm, e8⟩ : ∃ nm, c8 = .string nm := by
        obtain ⟨nm, e, _⟩ := DataW.trod_string Tryz.underlying9 f5
        simp at e
        exact ⟨nm, e⟩
      obtain ⟨aB, lB, cB, zB, rfl, rB⟩ := row_of_trod Tryz.underlying30 Tryz.underlying5 k5 f6
      obtain ⟨aV, lV, cV, zV, rfl, rV⟩ := row_of_trod Tryz.underlying23 Tryz.underlying2 k2 f7
      simp only [List.cons.injEq, and_true] at e0 e2 e3 e4 e6
      obtain ⟨rfl, rfl⟩ := e0
      obtain ⟨rfl, rfl⟩ := e4
      obtain ⟨rfl, rfl⟩ := e6
      subst e2 e3 e8
      exact ⟨⟨a0, a1, a2, a3, a4, a5, a6, a7, nm, zB.take lB, zV.take lV⟩, _, _, rfl, rB.rdv, rV.rdv, byt_of_row9 rB⟩
end
end Go.Proofs.YthbalmoafpggdaaGreat
namespace Go.Proofs.YthbalmoafpggdaaGreat
open Go.RowKit
set_option linter.unusedVariables false
set_option linter.unusedSimpArgs false
def CdTrue (w : World) (e : Ending) (w' : World) : Prop := e = .returned (.bool true) ∧ Below w.heap.size w w'
theorem cb_under {w w1 w2 : World} (h : Below w.heap.size w w1) (g : Below w1.heap.size w1 w2) : Below w.heap.size w w2 := h.trans (g.mono h.size)
/-- A writer that was made since w0. -/
def WC (w0 w : World) (p : Nat) (l : List Int) (bad : Bool) : Prop := w0.heap.size ≤ p ∧ Below w0.heap.size w0 w ∧ ∃ v, Wr w p v l bad ∧ ∀ k, v.ownBlock = some k → w0.heap.size ≤ k
theorem WC.step {w0 w w' : World} {p : Nat} {v : Value} {l l' : List Int} {bad bad' : Bool} (hp : w0.heap.size ≤ p) (hb : Below w0.heap.size w0 w) (hW : Wr w p v l bad) (hv : ∀ k, v.ownBlock = some k → w0.heap.size ≤ k) (h : WStep p v w l' bad' w') : WC w0 w' p l' bad' := by
  obtain ⟨v', h1, h2, h3⟩ := h
  refine ⟨hp, Chg.below_trans hb h3 hb.size (fun i hi hs => ?_), v', h1, fun k hk => ?_⟩
  · rcases hs with hs | hs
    · omega
    · have := hv i hs; omega
  · rcases h2 with h2 | h2
    · exact hv k (h2 ▸ hk)
    · exact Nat.le_trans hb.size (h2 k hk)
theorem WC.below {w0 w w' : World} {p : Nat} {l : List Int} {bad : Bool} (h : WC w0 w p l bad) (g : Below w.heap.size w w') : WC w0 w' p l bad := by
  obtain ⟨h1, h2, v, h3, h4⟩ := h
  exact ⟨h1, cb_under h2 g, v, h3.below g, h4⟩
theorem WC.new {w0 w w' : World} {p : Nat} (hb : Below w0.heap.size w0 w) (hp : w.heap.size ≤ p) (hW : Wr w' p (.slice none 0 0) [] false) (g : Below w.heap.size w w') : WC w0 w' p [] false :=
  ⟨Nat.le_trans hb.size hp, cb_under hb g, _, hW, fun k hk => by simp [Value.ownBlock] at hk⟩
def RC (w0 w : World) (r B : Nat) (s : RS) : Prop := w0.heap.size ≤ r ∧ w0.heap.size ≤ B ∧ B < w.heap.size + 2 ∧ Below w0.heap.size w0 w ∧ ∃ v, Rd w r B v s
theorem chg_b {w0 w w' : World} {r : Nat} (hb : Below w0.heap.size w0 w) (hr : w0.heap.size ≤ r) (g : Chg (· = r) w w') : Below w0.heap.size w0 w' := Chg.below_trans hb g hb.size (fun i hi e => by omega)
theorem rLeftNil (w : World) : Calls Tryz.prog 40 #[.pointer none] w fun e w' => e = .returned (.int .i64 0) ∧ w = w' := by
  go_enter Tryz.func40, Tryz.ntmps40
  go_wp2
  go_ret
  exact ⟨rfl, rfl⟩
theorem rErrNil (w : World) : Calls Tryz.prog 39 #[.pointer none] w fun e w' => e = .returned (.int .i64 74) ∧ w = w' := by
  go_enter Tryz.func39, Tryz.ntmps39
  go_wp2
  go_ret
  exact ⟨rfl, rfl⟩
theorem cbg1 : bytesW (strL ⟨#[97, 98]⟩) = some [2, 97, 98] := by decide +kernel
theorem cbg2 : vecW [1, 0, 2, 0] = some [3, 1, 0, 2] := by decide +kernel
theorem cbg3 : numS (some [172, 2, 2, 97, 98, 3, 1, 0, 2]) = (300, some [2, 97, 98, 3, 1, 0, 2]) := by decide +kernel
theorem cbg4 : bytesS (some [2, 97, 98, 3, 1, 0, 2]) = ([97, 98], some [3, 1, 0, 2]) := by decide +kernel
theorem cbg5 : vecS (some [3, 1, 0, 2]) = ([1, 0, 2], some []) := by decide +kernel
theorem cbg6 : numW 300 = some [172, 2] := by decide +kernel
theorem made_rdv (w : World) (n : Nat) (hn : n ≤ maxLen) : Rdv u8v (w.alloc (.cells (madeCells #[.int .u8 0] n) 5)) (.slice (some ⟨w.heap.size, 0, none⟩) n n) (List.replicate n 0) := by
  have h0 := Blk.new w (madeCells #[.int .u8 0] n) 5
  have e : madeCells #[Value.int .u8 0] n = ((List.replicate n (0 : Int)).map u8v).toArray := by
    apply Array.toList_inj.1; rw [toList_madeCells_one]; simp
  rw [e] at h0
  have := Rdv.of_blk (enc := u8v) h0 (by rw [List.length_replicate]; exact hn)
  rw [List.length_replicate, ← e] at this
  exact this
theorem bytesW_long (n : Nat) (h : 65536 < n) : bytesW (List.replicate n 0) = none := by
  unfold bytesW; rw [List.length_replicate, if_neg (by omega)]
theorem bytesW_fits : ∃ L : List Int, bytesW (List.replicate 65536 0) = some L ∧ L.length = 65539 := by
  refine ⟨numL 65536 ++ List.replicate 65536 0, ?_, ?_⟩
  · unfold bytesW; rw [List.length_replicate, if_pos (Nat.le_refl _)]
  · rw [List.length_append, List.length_replicate, show (numL 65536).length = 3 by decide +kernel]
theorem sl_blk {g m c b o n c' : Nat} (e : Value.slice (some ⟨g, 0, none⟩) m c = .slice (some ⟨b, o, none⟩) n c') : b = g := by
  rw [Value.slice.injEq] at e; obtain ⟨e, _⟩ := e; injection e with e; injection e with e _; exact e.symm
theorem apt_new {w : World} {p m c : Nat} (hp : p < w.heap.size) : Apt (.slice (some ⟨w.heap.size, 0, none⟩) m c) p (.slice none 0 0) := fun b o n c' e _ => by
  have := sl_blk e; subst this
  exact ⟨by omega, fun e2 => by simp [Value.ownBlock] at e2⟩
theorem mk65537 (w : World) : (Instr.makeSlice 30 (.int .i64 65537) (.int .i64 65537)).run Tryz.prog w = .ok (.slice (some ⟨w.heap.size, 0, none⟩) 65537 65537) (w.alloc (.cells (madeCells #[.int .u8 0] 65537) 5)) :=
  run_make_row' (P := Tryz.prog) 30 5 (.int .u8 0) 1 Tryz.underlying30 Tryz.info5 rfl .i64 .i64 65537 (by omega) (by omega) w
theorem mk65536 (w : World) : (Instr.makeSlice 30 (.int .i64 65536) (.int .i64 65536)).run Tryz.prog w = .ok (.slice (some ⟨w.heap.size, 0, none⟩) 65536 65536) (w.alloc (.cells (madeCells #[.int .u8 0] 65536) 5)) :=
  run_make_row' (P := Tryz.prog) 30 5 (.int .u8 0) 1 Tryz.underlying30 Tryz.info5 rfl .i64 .i64 65536 (by omega) (by omega) w
end Go.Proofs.YthbalmoafpggdaaGreat
namespace Go.Proofs.YthbalmoafpggdaaGreat
open Go.RowKit
set_option linter.unusedVariables false
set_option linter.unusedSimpArgs false
structure Frm where
  kind : Int
  src : Int
  dst : Int
  sess : Int
  seq : Int
  last : Bool
  vec : List Int
  ops : List Opr
def HeadP (f : Frm) : Prop := (1 ≤ f.kind ∧ f.kind ≤ 4) ∧ (0 ≤ f.src ∧ f.src < 64) ∧ (0 ≤ f.dst ∧ f.dst < 64) ∧ f.src ≠ f.dst ∧ (1 ≤ f.sess ∧ f.sess ≤ 1152921504606846976) ∧ (0 ≤ f.seq ∧ f.seq ≤ 1073741824)
def FitP (f : Frm) : Prop := (f.kind = 3 ∨ (f.last = false ∧ f.ops.length = 0)) ∧ (2 < f.kind ∨ f.seq = 0) ∧ f.ops.length ≤ 8
instance (f : Frm) : Decidable (HeadP f) := by unfold HeadP; infer_instance
instance (f : Frm) : Decidable (FitP f) := by unfold FitP; infer_instance
def vokB (xs : List Int) : Bool := vecMayB (cutL xs) && decide ((cutL xs).length ≤ 64)
def fMayB (f : Frm) : Bool := decide (HeadP f) && decide (FitP f) && f.ops.all mayB && vokB f.vec
def opC (q : Opr) (d s : Value) : List Value := [.int .i64 q.time, .int .i64 q.node, .int .i64 q.seq, .int .i64 q.kind, .int .i64 q.ot, .int .i64 q.on, .int .i64 q.pt, .int .i64 q.pn, .string q.name, d, s]
structure OpAt (w : World) (b o : Nat) (q : Opr) (d s : Value) : Prop where
  cell : ∀ j u, (opC q d s)[j]? = some u → w.cell? ⟨b, o + j, none⟩ = some u
  dat : Rdv u8v w d q.data
  see : Rdv i64v w s q.seen
theorem OpAt.below {w w' : World} {b o : Nat} {q : Opr} {d s : Value} (h : OpAt w b o q d s) (hb : Below w.heap.size w w') : OpAt w' b o q d s :=
  ⟨fun j u hu => (hb.cell (World.block_lt_of_cell? w _ (h.cell j u hu))).trans (h.cell j u hu), h.dat.below hb, h.see.below hb⟩
/-- A slice of operations reads so. -/
def OpsRd (w : World) (v : Value) (qs : List Opr) : Prop := ∃ a c, v = .slice a qs.length c ∧ qs.length ≤ c ∧ c ≤ maxLen ∧ ∀ i q, qs[i]? = some q → ∃ b o d s, a = some ⟨b, o, none⟩ ∧ OpAt w b (o + i * 11) q d s
theorem OpsRd.below {w w' : World} {v : Value} {qs : List Opr} (h : OpsRd w v qs) (hb : Below w.heap.size w w') : OpsRd w' v qs := by
  obtain ⟨a, c, h1, h2, h3, h4⟩ := h
  refine ⟨a, c, h1, h2, h3, fun i q hq => ?_⟩
  obtain ⟨b, o, d, s, e, h5⟩ := h4 i q hq
  exact ⟨b, o, d, s, e, h5.below hb⟩
theorem vec_some (xs : List Int) : (vecW xs).isSome = vokB xs := by
  unfold vecW vokB
  by_cases h : vecMayB (cutL xs) = true ∧ (cutL xs).length ≤ 64
  · rw [if_pos h, h.1, decide_eq_true h.2]; rfl
  · rw [if_neg h]
    cases h1 : vecMayB (cutL xs)
    · rfl
    · have : ¬ (cutL xs).length ≤ 64 := fun h2 => h ⟨h1, h2⟩
      rw [decide_eq_false this]; rfl
theorem all_snoc {qs : List Opr} {i : Nat} {q : Opr} (hq : qs[i]? = some q) (h : (qs.take i).all mayB = true) (h2 : mayB q = true) : (qs.take (i + 1)).all mayB = true := by
  rw [List.take_add_one, hq]
  simp only [Option.toList_some, List.all_append, List.all_cons, List.all_nil, Bool.and_true, h, h2]
theorem all_bad {qs : List Opr} {i : Nat} {q : Opr} (hq : qs[i]? = some q) (h2 : mayB q = false) : qs.all mayB = false := by
  rw [List.all_eq_false]
  exact ⟨q, List.mem_of_getElem? hq, by rw [h2]; simp⟩
theorem fmay_head {f : Frm} (h : ¬ HeadP f) : fMayB f = false := by unfold fMayB; rw [decide_eq_false h]; rfl
theorem fmay_fit {f : Frm} (h : ¬ FitP f) : fMayB f = false := by unfold fMayB; rw [decide_eq_false h]; simp
theorem fmay_ops {f : Frm} (h : f.ops.all mayB = false) : fMayB f = false := by unfold fMayB; rw [h]; simp
theorem fmay_good {f : Frm} (h1 : HeadP f) (h2 : FitP f) (h : f.ops.all mayB = true) : fMayB f = vokB f.vec := by unfold fMayB; rw [decide_eq_true h1, decide_eq_true h2, h]; rfl
structure FMid (w : World) (cs : Array Value) (W : World) : Prop where
  blk : Blk W w.heap.size cs 26
  bel : Below w.heap.size w W
theorem FMid.below {w W w' : World} {cs : Array Value} (h : FMid w cs W) (hb : Below W.heap.size W w') : FMid w cs w' := ⟨blkBelow hb h.blk h.blk.lt, h.bel.trans (hb.mono h.bel.size)⟩
set_option maxHeartbeats 2000000 in
set_option maxRecDepth 100000 in
theorem framesMay (f : Frm) (v o : Value) (w : World) (hv : Rdv i64v w v f.vec) (ho : OpsRd w o f.ops) (hn : ∀ q ∈ f.ops, q.name.size < 4294967281) :
    Calls Tryz.prog 10 #[.agg #[.int .i64 (f).kind, .int .i64 (f).src, .int .i64 (f).dst, .int .i64 (f).sess, .int .i64 (f).seq, .bool (f).last, v, o]] w fun e w' => e = .returned (.bool (fMayB f)) ∧ Below w.heap.size w w' := by
  obtain ⟨a, c, rfl, o1, o2, HO⟩ := ho
  have HO := Lib.hid HO
  have HV := Lib.hid hv
  have HN := Lib.hid hn
  clear hv hn
  obtain ⟨va, vn, vc, rfl⟩ := HV.out.shape
  obtain ⟨rfl, _, _, _⟩ := HV.out.cap
  obtain ⟨kind, src, dst, sess, seq, last, vec, ops⟩ := f
  simp only at *
  have AL := Lib.hid ((Below.refl w.heap.size w).alloc (Nat.le_refl _) (.cells #[.int .i64 kind, .int .i64 src, .int .i64 dst, .int .i64 sess, .int .i64 seq, .bool last, .slice va vec.length vc, .slice a ops.length c] 26))
  have FM : Hid (FMid w #[.int .i64 kind, .int .i64 src, .int .i64 dst, .int .i64 sess, .int .i64 seq, .bool last, .slice va vec.length vc, .slice a ops.length c] (w.alloc (.cells #[.int .i64 kind, .int .i64 src, .int .i64 dst, .int .i64 sess, .int .i64 seq, .bool last, .slice va vec.length vc, .slice a ops.length c] 26))) := Lib.hid ⟨Blk.new _ _ _, AL.out⟩
  by_cases h1 : kind < 1
  · go_enter Tryz.func10, Tryz.ntmps10
    go_wp2
    go_ret
    exact ⟨ret_b (fmay_head (by unfold HeadP; (try simp only); omega)).symm, AL.out⟩
  by_cases h2 : 4 < kind
  · go_enter Tryz.func10, Tryz.ntmps10
    go_wp2
    go_ret
    exact ⟨ret_b (fmay_head (by unfold HeadP; (try simp only); omega)).symm, AL.out⟩
  by_cases h3 : 0 ≤ src
  rotate_left
  · go_enter Tryz.func10, Tryz.ntmps10
    go_wp2
    go_ret
    exact ⟨ret_b (fmay_head (by unfold HeadP; (try simp only); omega)).symm, AL.out⟩
  by_cases h4 : src < 64
  rotate_left
  · go_enter Tryz.func10, Tryz.ntmps10
    go_wp2
    go_ret
    exact ⟨ret_b (fmay_head (by unfold HeadP; (try simp only); omega)).symm, AL.out⟩
  by_cases h5 : 0 ≤ dst
  rotate_left
  · go_enter Tryz.func10, Tryz.ntmps10
    go_wp2
    go_ret
    exact ⟨ret_b (fmay_head (by unfold HeadP; (try simp only); omega)).symm, AL.out⟩
  by_cases h6 : dst < 64
  rotate_left
  · go_enter Tryz.func10, Tryz.ntmps10
    go_wp2
    go_ret
    exact ⟨ret_b (fmay_head (by unfold HeadP; (try simp only); omega)).symm, AL.out⟩
  by_cases h7 : src = dst
  · subst h7
    go_enter Tryz.func10, Tryz.ntmps10
    go_wp2
    go_ret
    exact ⟨ret_b (fmay_head (by unfold HeadP; (try simp only); omega)).symm, AL.out⟩
  by_cases h8 : sess < 1
  · go_enter Tryz.func10, Tryz.ntmps10
    go_wp2
    go_ret
    exact ⟨ret_b (fmay_head (by unfold HeadP; (try simp only); omega)).symm, AL.out⟩
  by_cases h9 : 1152921504606846976 < sess
  · go_enter Tryz.func10, Tryz.ntmps10
    go_wp2
    go_ret
    exact ⟨ret_b (fmay_head (by unfold HeadP; (try simp only); omega)).symm, AL.out⟩
  by_cases h10 : seq < 0
  · go_enter Tryz.func10, Tryz.ntmps10
    go_wp2
    go_ret
    exact ⟨ret_b (fmay_head (by unfold HeadP; (try simp only); omega)).symm, AL.out⟩
  by_cases h11 : 1073741824 < seq
  · go_enter Tryz.func10, Tryz.ntmps10
    go_wp2
    go_ret
    exact ⟨ret_b (fmay_head (by unfold HeadP; (try simp only); omega)).symm, AL.out⟩
  by_cases k3 : kind = 3
  · subst k3
    by_cases l8 : 8 < ops.length
    · have l8i : (8 : Int) < ops.length := by omega
      go_enter Tryz.func10, Tryz.ntmps10
      go_wp2
      go_ret
      exact ⟨ret_b (fmay_fit (by unfold FitP; (try simp only); omega)).symm, AL.out⟩
    · have l8i : ¬ ((8 : Int) < ops.length) := by omega
      have HH : Hid (HeadP ⟨3, src, dst, sess, seq, last, vec, ops⟩) := Lib.hid (by unfold HeadP; simp only; omega)
      have HF : Hid (FitP ⟨3, src, dst, sess, seq, last, vec, ops⟩) := Lib.hid (⟨by first | (left; rfl) | (right; exact ⟨rfl, by (try simp only); omega⟩), by first | (right; rfl) | (simp only; omega), by simp only; omega⟩)
      go_enter Tryz.func10, Tryz.ntmps10
      go_wp2
      go_loopw [87] (fun iv wr => ∃ i : Nat, i ≤ ops.length ∧ iv = .int .i64 i ∧ (ops.take i).all mayB = true ∧ FMid w #[.int .i64 (3), .int .i64 src, .int .i64 dst, .int .i64 sess, .int .i64 (seq), .bool (last), .slice va vec.length vc, .slice a ops.length c] wr) (fun iv _ => ops.length - (intOf iv).toNat)
      case atStart => exact ⟨0, by omega, rfl, by simp, FM.out⟩
      case round =>
        obtain ⟨i, hil, rfl, hall, hmid⟩ := hrel
        have MM := Lib.hid hmid
        have HA := Lib.hid hall
        have hwz := hmid.blk.lt
        clear hmid hall
        by_cases hlt : i < ops.length
        · obtain ⟨q, hq⟩ : ∃ q, ops[i]? = some q := ⟨_, List.getElem?_eq_getElem hlt⟩
          obtain ⟨b, ob, d, s, rfl, hA⟩ := HO.out i q hq
          obtain ⟨da, dn, dc, rfl⟩ := hA.dat.shape
          obtain ⟨sa, sn, sc, rfl⟩ := hA.see.shape
          have OA := Lib.hid (hA.below MM.out.bel)
          have q0 : (0 : Int) ≤ i := by omega
          have q1 : (i : Int) < ops.length := by omega
          have c_0 : wr.cell? ⟨b, ob + i * 11, none⟩ = some (.int .i64 (q).time) := (OA.out).cell 0 _ rfl
          have c_1 : wr.cell? ⟨b, ob + i * 11 + 1, none⟩ = some (.int .i64 (q).node) := (OA.out).cell 1 _ rfl
          have c_2 : wr.cell? ⟨b, ob + i * 11 + 2, none⟩ = some (.int .i64 (q).seq) := (OA.out).cell 2 _ rfl
          have c_3 : wr.cell? ⟨b, ob + i * 11 + 3, none⟩ = some (.int .i64 (q).kind) := (OA.out).cell 3 _ rfl
          have c_4 : wr.cell? ⟨b, ob + i * 11 + 4, none⟩ = some (.int .i64 (q).ot) := (OA.out).cell 4 _ rfl
          have c_5 : wr.cell? ⟨b, ob + i * 11 + 5, none⟩ = some (.int .i64 (q).on) := (OA.out).cell 5 _ rfl
          have c_6 : wr.cell? ⟨b, ob + i * 11 + 6, none⟩ = some (.int .i64 (q).pt) := (OA.out).cell 6 _ rfl
          have c_7 : wr.cell? ⟨b, ob + i * 11 + 7, none⟩ = some (.int .i64 (q).pn) := (OA.out).cell 7 _ rfl
          have c_8 : wr.cell? ⟨b, ob + i * 11 + 8, none⟩ = some (.string (q).name) := (OA.out).cell 8 _ rfl
          have c_9 : wr.cell? ⟨b, ob + i * 11 + 9, none⟩ = some (.slice da dn dc) := (OA.out).cell 9 _ rfl
          have c_10 : wr.cell? ⟨b, ob + i * 11 + 10, none⟩ = some (.slice sa sn sc) := (OA.out).cell 10 _ rfl
          have bz : b < wr.heap.size := World.block_lt_of_cell? wr _ c_0
          have KM := Lib.hid (fun w' hw => opsMay q (.slice da dn dc) (.slice sa sn sc) w' (OA.out.dat.below hw) (OA.out.see.below hw) (HN.out q (List.mem_of_getElem? hq)) : ∀ w', Below wr.heap.size wr w' → _)
          have HQ := Lib.hid hq
          clear hA hq
          cases hm : mayB q
          · rw [hm] at KM
            have HB := Lib.hid (all_bad HQ.out hm)
            clear hm
            go_wp2_with fail
            have AL2 := (Below.refl wr.heap.size wr).alloc (Nat.le_refl _) (.cells #[.int .i64 (q).time, .int .i64 (q).node, .int .i64 (q).seq, .int .i64 (q).kind, .int .i64 (q).ot, .int .i64 (q).on, .int .i64 (q).pt, .int .i64 (q).pn, .string (q).name, .slice da dn dc, .slice sa sn sc] 46)
            refine (KM.out _ AL2).mono ?_
            rintro e w1 ⟨rfl, hb1⟩
            have HX := Lib.hid (MM.out.below (AL2.trans (hb1.mono (by simp))))
            clear hb1 AL2 c_0 c_1 c_2 c_3 c_4 c_5 c_6 c_7 c_8 c_9 c_10
            go_wp2
            go_ret
            exact ⟨ret_b (fmay_ops HB.out).symm, HX.out.bel⟩
          · rw [hm] at KM
            have HB := Lib.hid (all_snoc HQ.out HA.out hm)
            clear hm
            go_wp2_with fail
            have AL2 := (Below.refl wr.heap.size wr).alloc (Nat.le_refl _) (.cells #[.int .i64 (q).time, .int .i64 (q).node, .int .i64 (q).seq, .int .i64 (q).kind, .int .i64 (q).ot, .int .i64 (q).on, .int .i64 (q).pt, .int .i64 (q).pn, .string (q).name, .slice da dn dc, .slice sa sn sc] 46)
            refine (KM.out _ AL2).mono ?_
            rintro e w1 ⟨rfl, hb1⟩
            have HX := Lib.hid (MM.out.below (AL2.trans (hb1.mono (by simp))))
            clear hb1 AL2 c_0 c_1 c_2 c_3 c_4 c_5 c_6 c_7 c_8 c_9 c_10
            go_wp2
            go_roundw
            case rel => exact ⟨i + 1, by omega, by go_num, HB.out, HX.out⟩
            case measure => simp [intOf]; omega
        · obtain rfl : i = ops.length := by omega
          have HG := Lib.hid (fmay_good HH.out HF.out (by have := HA.out; rwa [List.take_length] at this))
          clear HA
          go_wp2_with fail
          refine (wNew _).mono ?_
          rintro e w2 ⟨p, rfl, hp, hW, hb2⟩
          have M2 := Lib.hid (MM.out.below hb2)
          have HW := Lib.hid hW
          have HP := Lib.hid hp
          clear hp hW hb2
          have g_6 : w2.cell? ⟨w.heap.size, 6, none⟩ = some (.slice va vec.length vc) := M2.out.blk.cell (o := 6) rfl
          go_wp2_with fail
          have hold := rdv_old HV.out
          have hsz := MM.out.bel.size
          refine (wVector p _ [] false _ vec w2 HW.out (HV.out.below M2.out.bel) (fun b' o' n' c' e h0 => ⟨by have := hold b' o' n' c' e h0; have := HP.out; omega, by simp [Value.ownBlock]⟩) (fun b' o' n' c' e h0 => Nat.lt_of_lt_of_le (hold b' o' n' c' e h0) M2.out.bel.size) (by simp)).mono ?_
          rintro e w3 ⟨rfl, hs3⟩
          have hC3 := WC.step (Nat.le_trans MM.out.bel.size HP.out) M2.out.bel HW.out (fun k hk => by simp [Value.ownBlock] at hk) hs3
          clear hold hsz hs3 g_6
          obtain ⟨_, hb3, v3, hW3, _⟩ := hC3
          have B3 := Lib.hid hb3
          have hlen : (wadd [] false (vecW vec)).length ≤ 1000000000000 := by
            unfold wadd vecW
            split
            · simp
            · next h => 
              split
              · next h2 => 
                have := numL_len (cutL vec).length
                have := numsL_len (cutL vec)
                simp only [Option.getD_some, List.length_append, List.nil_append]
                omega
              · simp
          have KD := Lib.hid (wDone p v3 _ _ w3 hW3 hlen)
          clear hb3 hW3 hlen
          have HVS := Lib.hid (vec_some vec)
          unfold DonePostW wbad at KD
          cases hvv : vecW vec
          · rw [hvv] at KD HVS
            simp only [Option.isNone_none, Bool.or_true, if_true] at KD
            clear hvv
            go_wp2_with fail
            refine KD.out.mono ?_
            rintro e w4 ⟨rfl, rfl⟩
            go_wp2
            go_ret
            exact ⟨ret_b (by rw [HG.out, ← HVS.out]; rfl), B3.out⟩
          · rw [hvv] at KD HVS
            simp only [Option.isNone_some, Bool.or_false, Bool.false_eq_true, if_false] at KD
            clear hvv
            go_wp2_with fail
            refine KD.out.mono ?_
            rintro e w4 ⟨v4, rfl, _, hb4⟩
            have B4 := Lib.hid (B3.out.trans (hb4.mono B3.out.size))
            clear hb4
            go_wp2
            go_ret
            exact ⟨ret_b (by rw [HG.out, ← HVS.out]; rfl), B4.out⟩
  have k3b : (kind != 3) = true := by simp [k3]
  cases last
  rotate_left
  · go_enter Tryz.func10, Tryz.ntmps10
    go_wp2
    go_ret
    exact ⟨ret_b (fmay_fit (by unfold FitP; simp only; intro hh; have h2 := hh.1.resolve_left k3; cases h2.1)).symm, AL.out⟩
  by_cases l0 : 0 < ops.length
  · have l0i : (0 : Int) < ops.length := by omega
    go_enter Tryz.func10, Tryz.ntmps10
    go_wp2
    go_ret
    exact ⟨ret_b (fmay_fit (by unfold FitP; (try simp only); omega)).symm, AL.out⟩
  have l0i : ¬ ((0 : Int) < ops.length) := by omega
  have l8 : ¬ (8 < ops.length) := by omega
  have l8i : ¬ ((8 : Int) < ops.length) := by omega
  by_cases k2 : kind ≤ 2
  · by_cases s0 : seq = 0
    · subst s0
      have HH : Hid (HeadP ⟨kind, src, dst, sess, 0, false, vec, ops⟩) := Lib.hid (by unfold HeadP; simp only; omega)
      have HF : Hid (FitP ⟨kind, src, dst, sess, 0, false, vec, ops⟩) := Lib.hid (⟨by first | (left; rfl) | (right; exact ⟨rfl, by (try simp only); omega⟩), by first | (right; rfl) | (simp only; omega), by simp only; omega⟩)
      go_enter Tryz.func10, Tryz.ntmps10
      go_wp2
      go_loopw [87] (fun iv wr => ∃ i : Nat, i ≤ ops.length ∧ iv = .int .i64 i ∧ (ops.take i).all mayB = true ∧ FMid w #[.int .i64 (kind), .int .i64 src, .int .i64 dst, .int .i64 sess, .int .i64 (0), .bool (false), .slice va vec.length vc, .slice a ops.length c] wr) (fun iv _ => ops.length - (intOf iv).toNat)
      case atStart => exact ⟨0, by omega, rfl, by simp, FM.out⟩
      case round =>
        obtain ⟨i, hil, rfl, hall, hmid⟩ := hrel
        have MM := Lib.hid hmid
        have HA := Lib.hid hall
        have hwz := hmid.blk.lt
        clear hmid hall
        by_cases hlt : i < ops.length
        · exact absurd hlt (by omega)
        · obtain rfl : i = ops.length := by omega
          have HG := Lib.hid (fmay_good HH.out HF.out (by have := HA.out; rwa [List.take_length] at this))
          clear HA
          go_wp2_with fail
          refine (wNew _).mono ?_
          rintro e w2 ⟨p, rfl, hp, hW, hb2⟩
          have M2 := Lib.hid (MM.out.below hb2)
          have HW := Lib.hid hW
          have HP := Lib.hid hp
          clear hp hW hb2
          have g_6 : w2.cell? ⟨w.heap.size, 6, none⟩ = some (.slice va vec.length vc) := M2.out.blk.cell (o := 6) rfl
          go_wp2_with fail
          have hold := rdv_old HV.out
          have hsz := MM.out.bel.size
          refine (wVector p _ [] false _ vec w2 HW.out (HV.out.below M2.out.bel) (fun b' o' n' c' e h0 => ⟨by have := hold b' o' n' c' e h0; have := HP.out; omega, by simp [Value.ownBlock]⟩) (fun b' o' n' c' e h0 => Nat.lt_of_lt_of_le (hold b' o' n' c' e h0) M2.out.bel.size) (by simp)).mono ?_
          rintro e w3 ⟨rfl, hs3⟩
          have hC3 := WC.step (Nat.le_trans MM.out.bel.size HP.out) M2.out.bel HW.out (fun k hk => by simp [Value.ownBlock] at hk) hs3
          clear hold hsz hs3 g_6
          obtain ⟨_, hb3, v3, hW3, _⟩ := hC3
          have B3 := Lib.hid hb3
          have hlen : (wadd [] false (vecW vec)).length ≤ 1000000000000 := by
            unfold wadd vecW
            split
            · simp
            · next h => 
              split
              · next h2 => 
                have := numL_len (cutL vec).length
                have := numsL_len (cutL vec)
                simp only [Option.getD_some, List.length_append, List.nil_append]
                omega
              · simp
          have KD := Lib.hid (wDone p v3 _ _ w3 hW3 hlen)
          clear hb3 hW3 hlen
          have HVS := Lib.hid (vec_some vec)
          unfold DonePostW wbad at KD
          cases hvv : vecW vec
          · rw [hvv] at KD HVS
            simp only [Option.isNone_none, Bool.or_true, if_true] at KD
            clear hvv
            go_wp2_with fail
            refine KD.out.mono ?_
            rintro e w4 ⟨rfl, rfl⟩
            go_wp2
            go_ret
            exact ⟨ret_b (by rw [HG.out, ← HVS.out]; rfl), B3.out⟩
          · rw [hvv] at KD HVS
            simp only [Option.isNone_some, Bool.or_false, Bool.false_eq_true, if_false] at KD
            clear hvv
            go_wp2_with fail
            refine KD.out.mono ?_
            rintro e w4 ⟨v4, rfl, _, hb4⟩
            have B4 := Lib.hid (B3.out.trans (hb4.mono B3.out.size))
            clear hb4
            go_wp2
            go_ret
            exact ⟨ret_b (by rw [HG.out, ← HVS.out]; rfl), B4.out⟩
    · have s0b : (seq != 0) = true := by simp [s0]
      go_enter Tryz.func10, Tryz.ntmps10
      go_wp2
      go_ret
      exact ⟨ret_b (fmay_fit (by unfold FitP; (try simp only); omega)).symm, AL.out⟩
  · have HH : Hid (HeadP ⟨kind, src, dst, sess, seq, false, vec, ops⟩) := Lib.hid (by unfold HeadP; simp only; omega)
    have HF : Hid (FitP ⟨kind, src, dst, sess, seq, false, vec, ops⟩) := Lib.hid (⟨by first | (left; rfl) | (right; exact ⟨rfl, by (try simp only); omega⟩), by first | (right; rfl) | (simp only; omega), by simp only; omega⟩)
    go_enter Tryz.func10, Tryz.ntmps10
    go_wp2
    go_loopw [87] (fun iv wr => ∃ i : Nat, i ≤ ops.length ∧ iv = .int .i64 i ∧ (ops.take i).all mayB = true ∧ FMid w #[.int .i64 (kind), .int .i64 src, .int .i64 dst, .int .i64 sess, .int .i64 (seq), .bool (false), .slice va vec.length vc, .slice a ops.length c] wr) (fun iv _ => ops.length - (intOf iv).toNat)
    case atStart => exact ⟨0, by omega, rfl, by simp, FM.out⟩
    case round =>
      obtain ⟨i, hil, rfl, hall, hmid⟩ := hrel
      have MM := Lib.hid hmid
      have HA := Lib.hid hall
      have hwz := hmid.blk.lt
      clear hmid hall
      by_cases hlt : i < ops.length
      · exact absurd hlt (by omega)
      · obtain rfl : i = ops.length := by omega
        have HG := Lib.hid (fmay_good HH.out HF.out (by have := HA.out; rwa [List.take_length] at this))
        clear HA
        go_wp2_with fail
        refine (wNew _).mono ?_
        rintro e w2 ⟨p, rfl, hp, hW, hb2⟩
        have M2 := Lib.hid (MM.out.below hb2)
        have HW := Lib.hid hW
        have HP := Lib.hid hp
        clear hp hW hb2
        have g_6 : w2.cell? ⟨w.heap.size, 6, none⟩ = some (.slice va vec.length vc) := M2.out.blk.cell (o := 6) rfl
        go_wp2_with fail
        have hold := rdv_old HV.out
        have hsz := MM.out.bel.size
        refine (wVector p _ [] false _ vec w2 HW.out (HV.out.below M2.out.bel) (fun b' o' n' c' e h0 => ⟨by have := hold b' o' n' c' e h0; have := HP.out; omega, by simp [Value.ownBlock]⟩) (fun b' o' n' c' e h0 => Nat.lt_of_lt_of_le (hold b' o' n' c' e h0) M2.out.bel.size) (by simp)).mono ?_
        rintro e w3 ⟨rfl, hs3⟩
        have hC3 := WC.step (Nat.le_trans MM.out.bel.size HP.out) M2.out.bel HW.out (fun k hk => by simp [Value.ownBlock] at hk) hs3
        clear hold hsz hs3 g_6
        obtain ⟨_, hb3, v3, hW3, _⟩ := hC3
        have B3 := Lib.hid hb3
        have hlen : (wadd [] false (vecW vec)).length ≤ 1000000000000 := by
          unfold wadd vecW
          split
          · simp
          · next h => 
            split
            · next h2 => 
              have := numL_len (cutL vec).length
              have := numsL_len (cutL vec)
              simp only [Option.getD_some, List.length_append, List.nil_append]
              omega
            · simp
        have KD := Lib.hid (wDone p v3 _ _ w3 hW3 hlen)
        clear hb3 hW3 hlen
        have HVS := Lib.hid (vec_some vec)
        unfold DonePostW wbad at KD
        cases hvv : vecW vec
        · rw [hvv] at KD HVS
          simp only [Option.isNone_none, Bool.or_true, if_true] at KD
          clear hvv
          go_wp2_with fail
          refine KD.out.mono ?_
          rintro e w4 ⟨rfl, rfl⟩
          go_wp2
          go_ret
          exact ⟨ret_b (by rw [HG.out, ← HVS.out]; rfl), B3.out⟩
        · rw [hvv] at KD HVS
          simp only [Option.isNone_some, Bool.or_false, Bool.false_eq_true, if_false] at KD
          clear hvv
          go_wp2_with fail
          refine KD.out.mono ?_
          rintro e w4 ⟨v4, rfl, _, hb4⟩
          have B4 := Lib.hid (B3.out.trans (hb4.mono B3.out.size))
          clear hb4
          go_wp2
          go_ret
          exact ⟨ret_b (by rw [HG.out, ← HVS.out]; rfl), B4.out⟩
end Go.Proofs.YthbalmoafpggdaaGreat

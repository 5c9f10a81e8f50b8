/- A directory of names: Each. -/
import Derived.Test.YtfcddpbpfckjfaaChecked
import Derived.WalkKit
import Derived.Outline
import Derived.WalkSpells
import Derived.WalkLawsBesides
import Derived.Deep.QuietTactic
import Derived.Deep.RegionWith
import Derived.Deep.DeepMust
import Derived.BigQuiet
import Derived.Test.YtfcddpbpfckjfaaMem
import Derived.RegionTactic
import Derived.ChangeAlike
import Derived.StillTailTactics
import Derived.BigRegion
import Derived.Deep.LoopGhost
import Derived.Test.YtfcddpbpfckjfaaDf
namespace Go.Proofs.Ytfcddpbpfckjfaa
open Go.RowKit
open Go.Maps
set_option linter.unusedVariables false
set_option linter.unusedSimpArgs false
/-- What a function does that is handed names and numbers: z is the heap's size when it was called first. -/
structure EachF (b bm : Nat) (L : List Ent) (S0 : Nat → Prop) (k : FuncId) (first cap : Array Value) (w : World) (Q : Nat → Nat → World → Prop) : Prop where
  start : ∀ w1, Below w.heap.size w w1 → Q w1.heap.size 0 w1
  cf : ∀ args w, (callFunc k args).run Try.prog w = .ok (.enter k args) w
  step : ∀ z i w1, z ≤ w1.heap.size → w.heap.size ≤ z → (hi : i < L.length) → Q z i w1 → Calls Try.prog k (first ++ (#[.string L[i].1, .int .i64 (L[i].2 : Int)] ++ cap)) w1 fun e w2 => e = .returned (.tuple #[]) ∧ Q z (i + 1) w2 ∧ Chg (fun k => S0 k ∨ z ≤ k) w1 w2
  old : ∀ k, S0 k → k < w.heap.size ∧ k ≠ b ∧ k ≠ bm
def EachPost (L : List Ent) (S0 : Nat → Prop) (w : World) (Q : Nat → Nat → World → Prop) (e : Ending) (w' : World) : Prop := e = .returned (.tuple #[]) ∧ ∃ z, w.heap.size ≤ z ∧ z ≤ w'.heap.size ∧ Q z L.length w' ∧ Chg S0 w w'
theorem lookL_at : ∀ {L : List Ent} (h : SortL L) (i : Nat) (hi : i < L.length), lookL L L[i].1 = some L[i].2
  | [], _, i, hi => by simp at hi
  | q :: r, h, 0, hi => by
    unfold lookL
    rw [List.find?_cons_of_pos (by simp)]
    rfl
  | q :: r, h, i + 1, hi => by
    have ih := lookL_at (L := r) (List.pairwise_cons.1 h).2 i (by simpa using hi)
    have hi' : i < r.length := by simpa using hi
    have hne := (List.pairwise_cons.1 h.apart).1 r[i] (List.getElem_mem _)
    unfold lookL at *
    rw [List.find?_cons_of_neg (by simpa using hne)]
    exact ih
/-- What stands in a directory: names that may be, with numbers that may be, not too many. -/
structure OkL (L : List Ent) : Prop where
  fine : ∀ p ∈ L, localE p.1.data.toList = 0
  num : ∀ p ∈ L, 1 ≤ p.2 ∧ p.2 ≤ 2147483647
  len : L.length ≤ 2048
theorem localE_len {l : List UInt8} (h : localE l = 0) : 1 ≤ l.length ∧ l.length ≤ 64 := by
  unfold localE nameG at h
  split at h
  · cases h
  · next h1 =>
    split at h
    · cases h
    · refine ⟨?_, by omega⟩
      rcases l with _ | ⟨x, r⟩
      · exact absurd (.inl rfl) h1
      · simp
theorem OkL.size {L : List Ent} (h : OkL L) {p : Ent} (hp : p ∈ L) : 1 ≤ p.1.size ∧ p.1.size ≤ 64 := by
  have := localE_len (h.fine p hp)
  rw [Array.length_toList] at this
  exact this
theorem neqFn (w : World) (f : Fn) (a c : Array Value) : (binOp .neq 67 (.func f a c) .nilFunc).run Try.prog w = .ok (.bool true) w := by kernel_rfl
theorem neqFn0 (w : World) : (binOp .neq 67 .nilFunc .nilFunc).run Try.prog w = .ok (.bool false) w := by kernel_rfl
set_option maxRecDepth 100000 in
set_option maxHeartbeats 1000000 in
theorem dirEachNil (b bm : Nat) (L : List Ent) (w : World) (h : DirM w b bm L) (hL : L.length ≤ 2048) : Calls Try.prog 37 #[.pointer (some ⟨b, 0, none⟩), .nilFunc] w fun e w' => e = .returned (.tuple #[]) ∧ Below w.heap.size w w' := by
  have G := Lib.hid (dirList b bm L w h hL)
  have qn := neqFn0
  have HNL := Lib.hid (show (namesL L).length = L.length by unfold namesL; simp)
  have hs := Lib.hid h.sorted
  have H := Lib.hid h
  clear h
  go_enter Try.func37, Try.ntmps37
  go_wp2_with fail
  refine G.out.mono ?_
  rintro e w1 ⟨v, rfl, ho, hb⟩
  obtain ⟨va, vc, rfl, hv1, hv2, _⟩ := own_shape ho
  have hcell : ∀ i, (hi : i < L.length) → ∃ g, va = some ⟨g, 0, none⟩ ∧ w.heap.size ≤ g ∧ g < w1.heap.size ∧ ∃ cur, Blk w1 g cur 9 ∧ cur[i]? = some (.string L[i].1) := fun i hi => by
    rcases ho.2 with ⟨e, _⟩ | ⟨g, c, cur, e, h1, h2, h3, h4, h5, h6⟩
    · injection e with _ e; omega
    · injection e with e1 e2 e3
      refine ⟨g, e1, h1, lt_of_block h2, cur, h2, ?_⟩
      have hk : (cur.toList.take (L.length * 1))[i]? = ((namesL L).map strv)[i]? := by rw [h6]
      rw [List.getElem?_take_of_lt (by omega)] at hk
      rw [← Array.getElem?_toList, hk]
      unfold namesL
      simp [hi]
  have HC := Lib.hid hcell
  have B1 := Lib.hid hb
  clear ho hb hcell
  go_wp2
  go_loop [5, 9] (fun _ i => ∃ k : Nat, k ≤ L.length ∧ i = .int .i64 k) (fun _ i => L.length - (intOf i).toNat)
  case atStart => exact ⟨0, by omega, rfl⟩
  case round =>
    obtain ⟨k, hk, rfl⟩ := hrel
    by_cases hlt : k < L.length
    · obtain ⟨g, rfl, hg1, hg2, cur, hB, hcu⟩ := HC.out k hlt
      have hc := hB.cell hcu
      have hk0 : (0 : Int) ≤ k := by omega
      have hk1 : (k : Int) < L.length := by omega
      clear hB hcu
      go_wp2
      go_round
      case rel => exact ⟨k + 1, by omega, by go_num⟩
      case measure => simp [intOf]; omega
    · go_wp2
      go_end0
      exact ⟨rfl, B1.out⟩
set_option maxRecDepth 100000 in
set_option maxHeartbeats 1000000 in
theorem dirEach (b bm : Nat) (L : List Ent) (S0 : Nat → Prop) (k : FuncId) (first cap : Array Value) (w : World) (Q : Nat → Nat → World → Prop) (hF : EachF b bm L S0 k first cap w Q) (h : DirM w b bm L) (hO : OkL L) :
    Calls Try.prog 37 #[.pointer (some ⟨b, 0, none⟩), .func (.func k) first cap] w (EachPost L S0 w Q) := by
  have G := Lib.hid (dirList b bm L w h hO.len)
  have qn := fun w => neqFn w (.func k) first cap
  have cf := hF.cf
  have HF := Lib.hid hF
  clear hF
  have HNL := Lib.hid (show (namesL L).length = L.length by unfold namesL; simp)
  have hs := Lib.hid h.sorted
  have H := Lib.hid h
  clear h
  go_enter Try.func37, Try.ntmps37
  go_wp2_with fail
  refine G.out.mono ?_
  rintro e w1 ⟨v, rfl, ho, hb⟩
  obtain ⟨va, vc, rfl, hv1, hv2, _⟩ := own_shape ho
  have hcell : ∀ i, (hi : i < L.length) → ∃ g, va = some ⟨g, 0, none⟩ ∧ w.heap.size ≤ g ∧ g < w1.heap.size ∧ ∃ cur, Blk w1 g cur 9 ∧ cur[i]? = some (.string L[i].1) := fun i hi => by
    rcases ho.2 with ⟨e, _⟩ | ⟨g, c, cur, e, h1, h2, h3, h4, h5, h6⟩
    · injection e with _ e; omega
    · injection e with e1 e2 e3
      refine ⟨g, e1, h1, lt_of_block h2, cur, h2, ?_⟩
      have hk : (cur.toList.take (L.length * 1))[i]? = ((namesL L).map strv)[i]? := by rw [h6]
      rw [List.getElem?_take_of_lt (by omega)] at hk
      rw [← Array.getElem?_toList, hk]
      unfold namesL
      simp [hi]
  have HC := Lib.hid hcell
  have B1 := Lib.hid hb
  clear ho hb hcell
  go_wp2
  have hz1 := B1.out.size
  obtain ⟨z, hz⟩ : ∃ z, w1.heap.size = z := ⟨_, rfl⟩
  have HZ := Lib.hid hz
  have R0 := Lib.hid (HF.out.start w1 B1.out)
  rw [hz] at R0
  clear hz
  go_loopw [5, 9] (fun _ i wr => ∃ j : Nat, j ≤ L.length ∧ i = .int .i64 j ∧ Q z j wr ∧ Chg (fun k => S0 k ∨ z ≤ k) w1 wr) (fun _ i _ => L.length - (intOf i).toNat)
  case atStart => exact ⟨0, by omega, rfl, R0.out, Chg.refl _ _⟩
  case round =>
    obtain ⟨j, hj, rfl, hQ, hC⟩ := hrel
    by_cases hlt : j < L.length
    · obtain ⟨g, rfl, hg1, hg2, cur, hB, hcu⟩ := HC.out j hlt
      have hg3 : ¬ (S0 g ∨ z ≤ g) := by
        rintro (e | e)
        · have := (HF.out.old g e).1; omega
        · have := HZ.out; omega
      have hD : DirM wr b bm L := by
        have D1 := H.out.below B1.out
        refine D1.chg hC ?_ ?_
        · rintro (e | e)
          · exact (HF.out.old b e).2.1 rfl
          · have := HZ.out; have := H.out.1.lt; omega
        · rintro (e | e)
          · exact (HF.out.old bm e).2.2 rfl
          · have := HZ.out; have := H.out.2.lt; omega
      have hB2 := hC.blk hB hg3
      have hc := hB2.cell hcu
      have hk0 : (0 : Int) ≤ j := by omega
      have hk1 : (j : Int) < L.length := by omega
      have hzr := hC.size
      have KQ := Lib.hid (HF.out.step z j wr (by have := HZ.out; omega) (by have := HZ.out; omega) hlt hQ)
      have c1 : wr.cell? ⟨b, 0, none⟩ = some (.map (some bm)) := hD.1.cell (o := 0) rfl
      have hl := hD.1.lt
      have D := Lib.hid hD
      have HC2 := Lib.hid hC
      have hlk := lookL_at hs.out j hlt
      have hkey : keyOf Try.prog 9 (.string L[j].1) = some (.string L[j].1.data.toList) := WideMaps.keyOf_string_mk Try.underlying9 (by have := (hO.size (List.getElem_mem hlt)).2; unfold maxLen; omega)
      have ha := map_at L L[j].1 0
      rw [hlk] at ha
      have HA := Lib.hid ha
      clear hB hcu hD hC hB2 hQ hlk ha
      generalize L[j].1 = s at *
      generalize L[j].2 = n at *
      go_wp2_with (first | (at_lookup; refine wpList_lookup_own_int _ rfl _ _ 95 rfl 9 3 .i64 strK Try.underlying95 Try.underlying3 (zeroE _) bm L.length _ rfl (D.out.2) _ _ rfl hkey ?_; intro c hat hwc) | fail)
      rw [HA.out] at hat
      injection hat with hat
      injection hat with _ hat
      subst hat
      go_wp2_with fail
      refine KQ.out.mono ?_
      rintro e w2 ⟨rfl, hq2, hc2⟩
      have HQ2 := Lib.hid hq2
      have HC3 := Lib.hid (HC2.out.trans hc2)
      clear hq2 hc2
      go_wp2
      go_roundw
      case rel => exact ⟨j + 1, by omega, by go_num, HQ2.out, HC3.out⟩
      case measure => simp [intOf]; omega
    · obtain rfl : j = L.length := by omega
      have HQ := Lib.hid hQ
      have HC2 := Lib.hid hC
      clear hQ hC
      go_wp2
      go_end0
      exact ⟨rfl, z, by have := HZ.out; omega, by have := HZ.out; have := HC2.out.size; omega, HQ.out, (Chg.of_below B1.out (fun i hi e => by omega)).trans' HC2.out (fun i hi e => by rcases e with e | e; exact e; have := HZ.out; omega)⟩
end Go.Proofs.Ytfcddpbpfckjfaa

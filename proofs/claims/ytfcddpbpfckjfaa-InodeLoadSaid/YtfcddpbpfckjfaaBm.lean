/- Contracts of package bitmap. -/
import Derived.Test.YtfcddpbpfckjfaaChecked
import Derived.WalkKit
import Derived.Outline
import Derived.WalkSpells
import Derived.WalkLawsBesides
import Derived.Deep.QuietTactic
import Derived.Deep.RegionWith
import Derived.Deep.DeepMust
import Derived.BigQuiet
import Derived.Test.YtfcddpbpfckjfaaMem
import Derived.RegionTactic
import Derived.ChangeAlike
import Derived.StillTailTactics
import Derived.Deep.LoopGhost
import Derived.Test.YtfcddpbpfckjfaaApp
namespace Go.Proofs.Ytfcddpbpfckjfaa
open Go.RowKit
set_option linter.unusedVariables false
set_option linter.unusedSimpArgs false
abbrev bv : Bool → Value := .bool
theorem Try.info4 : (Try.prog.info? 4).map (fun i => (i.zero, i.size, i.bytes)) = some (some (.bool false), 1, 1) := by kernel_rfl
/-- The map at block b, its row at block u: us tells which numbers are used. -/
def MapAt (w : World) (b u : Nat) (us : List Bool) : Prop :=
  Blk w b #[.slice (some ⟨u, 0, none⟩) us.length us.length] 146 ∧ Blk w u (us.map bv).toArray 4 ∧ us.length ≤ 65536
def BmNewPost (n : Nat) (w : World) (e : Ending) (w' : World) : Prop :=
  ∃ b u : Nat, e = .returned (.pointer (some ⟨b, 0, none⟩)) ∧ w.heap.size ≤ b ∧ w.heap.size ≤ u ∧ u ≠ b ∧ MapAt w' b u (List.replicate n false) ∧ Below w.heap.size w w'
theorem owns_blk {w : World} {B e : Nat} {g n : Nat} {xs : List Value} (h : w.ownsRow B e 1 (.slice (some ⟨g, 0, none⟩) n n) n xs) : Blk w g xs.toArray e ∧ B ≤ g := by
  rcases h.2 with ⟨h0, _⟩ | ⟨g', cap, cur, e1, hB, hh, h1, h2, h3, h4⟩
  · cases h0
  · rw [Value.slice.injEq] at e1
    obtain ⟨e1, _, rfl⟩ := e1
    injection e1 with e1
    injection e1 with e1 _
    subst e1
    refine ⟨?_, hB⟩
    have : cur = xs.toArray := by
      rw [← h4, List.take_of_length_le (by simp; omega)]
    rw [← this]; exact hh
theorem bmMay_yes (n : Int) (w : World) (h0 : 0 ≤ n) (h : n ≤ 65536) : Calls Try.prog 84 #[.int .i64 n] w fun e w' => e = .returned (.bool true) ∧ w = w' := by
  go_enter Try.func84, Try.ntmps84
  go_wp2
  go_ret
  exact ⟨rfl, rfl⟩
theorem bmMay_no (n : Int) (w : World) (h : n < 0 ∨ 65536 < n) : Calls Try.prog 84 #[.int .i64 n] w fun e w' => e = .returned (.bool false) ∧ w = w' := by
  by_cases h0 : n < 0
  · clear h
    go_enter Try.func84, Try.ntmps84
    go_wp2
    go_ret
    exact ⟨rfl, rfl⟩
  · have h1 : 0 ≤ n := by omega
    have h2 : 65536 < n := by omega
    clear h h0
    go_enter Try.func84, Try.ntmps84
    go_wp2
    go_ret
    exact ⟨ret_b (by simp; omega), rfl⟩
theorem bmNew_bad (n : Int) (w : World) (h : n < 0 ∨ 65536 < n) : Calls Try.prog 63 #[.int .i64 n] w fun e w' => e = .returned (.pointer none) ∧ w = w' := by
  have K := Lib.hid (bmMay_no n w h)
  clear h
  go_enter Try.func63, Try.ntmps63
  go_wp2_with (go_at_call 84; refine K.out.mono ?_; rintro e w' ⟨rfl, rfl⟩)
  go_ret
  exact ⟨rfl, rfl⟩
theorem bmNew_ok (n : Nat) (w : World) (h : n ≤ 65536) : Calls Try.prog 63 #[.int .i64 n] w (BmNewPost n w) := by
  obtain ⟨i0, hi, hz0, hz1, hz2⟩ := info_parts Try.info4
  have hm : i0.bytes * n ≤ 281474976710656 := by rw [hz2]; omega
  go_enter Try.func63, Try.ntmps63
  go_wp2_with fail
  refine (bmMay_yes n w (by omega) (by omega)).mono ?_
  rintro e w' ⟨rfl, rfl⟩
  go_wp2_with (at_make; refine wpList_make_full _ rfl _ _ 144 rfl w.heap.size 4 i0 (.bool false) 1 Try.underlying144 hi hz0 hz1 .i64 .i64 n n n rfl rfl rfl rfl hm (by unfold maxLen; omega) (Nat.le_refl _) ?_)
  intro w1 o1 g1
  have o1' : w1.ownsRow w.heap.size 4 1 (.slice (some ⟨w.heap.size, 0, none⟩) n n) n ((List.replicate n false).map bv) := by
    have : (madeCells #[Value.bool false] n).toList = (List.replicate n false).map bv := by
      rw [toList_madeCells_one]; simp
    rw [← this]; first | exact o1 | simpa using o1
  have hb := (owns_blk o1').1
  have b1 : Below w.heap.size w w1 := (Below.refl _ w).grown g1 (Nat.le_refl _) (fun k hk => by cases hk)
  have z1 := b1.size
  have hlt := hb.lt
  clear o1 o1' g1
  go_wp2
  go_ret
  exact ⟨w1.heap.size, w.heap.size, rfl, z1, Nat.le_refl _, by omega, ⟨by simpa using Blk.new w1 #[.slice (some ⟨w.heap.size, 0, none⟩) n n] 146, hb.alloc _, by simpa using h⟩, b1.alloc z1 _⟩

theorem MapAt.row {w : World} {b u : Nat} {us : List Bool} (h : MapAt w b u us) (i : Nat) (hi : i < us.length) : w.cell? ⟨u, i, none⟩ = some (.bool (us.getD i false)) :=
  h.2.1.cell (by simp [List.getElem?_eq_getElem hi])
theorem MapAt.of_below {w w' : World} {b u : Nat} {us : List Bool} (h : MapAt w b u us) (hb : Below w.heap.size w w') : MapAt w' b u us :=
  ⟨blkBelow hb h.1 h.1.lt, blkBelow hb h.2.1 h.2.1.lt, h.2.2⟩
theorem bmSize (b u : Nat) (us : List Bool) (w : World) (h : MapAt w b u us) : Calls Try.prog 80 #[.pointer (some ⟨b, 0, none⟩)] w fun e w' => e = .returned (.int .i64 us.length) ∧ w = w' := by
  have hc := h.1.cell (o := 0) rfl
  have hz := h.1.lt
  have hl := h.2.2
  clear h
  go_enter Try.func80, Try.ntmps80
  go_wp2
  go_ret
  exact ⟨rfl, rfl⟩
theorem bmSizeNil (w : World) : Calls Try.prog 80 #[.pointer none] w fun e w' => e = .returned (.int .i64 0) ∧ w = w' := by
  go_enter Try.func80, Try.ntmps80
  go_wp2
  go_ret
  exact ⟨rfl, rfl⟩
def freeTo (us : List Bool) : Nat → Nat | 0 => 0 | k + 1 => freeTo us k + if us.getD k false = true then 0 else 1
theorem freeTo_le (us : List Bool) : ∀ k, freeTo us k ≤ k
  | 0 => Nat.le_refl _
  | k + 1 => by have := freeTo_le us k; unfold freeTo; split <;> omega
set_option maxHeartbeats 1000000 in
theorem bmFree (b u : Nat) (us : List Bool) (w : World) (h : MapAt w b u us) : Calls Try.prog 58 #[.pointer (some ⟨b, 0, none⟩)] w fun e w' => e = .returned (.int .i64 (freeTo us us.length)) ∧ w = w' := by
  have K := Lib.hid (bmSize b u us w h)
  have hc := h.1.cell (o := 0) rfl
  have hz := h.1.lt
  have hl := h.2.2
  have HR := Lib.hid h.row
  clear h
  go_enter Try.func58, Try.ntmps58
  go_wp2_with (go_at_call 80; refine K.out.mono ?_; rintro e w' ⟨rfl, rfl⟩)
  go_loop [3, 7] (fun n i => ∃ k : Nat, k ≤ us.length ∧ i = .int .i64 k ∧ n = .int .i64 (freeTo us k)) (fun _ i => us.length - (intOf i).toNat)
  case atStart => exact ⟨0, Nat.zero_le _, rfl, rfl⟩
  case round =>
    obtain ⟨k, hk, rfl, rfl⟩ := hrel
    by_cases hlt : k < us.length
    · have hr := HR.out k hlt
      have hf := freeTo_le us k
      have hs : Hid (freeTo us (k + 1) = freeTo us k + if us.getD k false = true then 0 else 1) := rfl
      cases hu : us.getD k false
      all_goals
        rw [hu] at hr
        have HU := Lib.hid hu
        clear hu
        go_wp2
        go_round
        case rel => exact ⟨k + 1, by omega, by go_num, by rw [hs.out, HU.out]; first | rfl | go_num⟩
        case measure => simp [intOf]; omega
    · obtain rfl : k = us.length := by omega
      go_wp2
      go_ret
      exact ⟨rfl, rfl⟩

def inB (us : List Bool) (i : Int) : Bool := decide (0 ≤ i) && decide (i < us.length)
theorem bmIn (b u : Nat) (us : List Bool) (i : Int) (w : World) (h : MapAt w b u us) : Calls Try.prog 85 #[.pointer (some ⟨b, 0, none⟩), .int .i64 i] w fun e w' => e = .returned (.bool (inB us i)) ∧ w = w' := by
  have K := Lib.hid (bmSize b u us w h)
  clear h
  by_cases h0 : 0 ≤ i
  · go_enter Try.func85, Try.ntmps85
    go_wp2_with (go_at_call 80; refine K.out.mono ?_; rintro e w' ⟨rfl, rfl⟩)
    go_ret
    exact ⟨ret_b (by unfold inB; simp [h0]), rfl⟩
  · have h1 : i < 0 := by omega
    clear h0
    go_enter Try.func85, Try.ntmps85
    go_wp2
    go_ret
    exact ⟨ret_b (by unfold inB; simp; omega), rfl⟩
theorem bmInNil (i : Int) (w : World) : Calls Try.prog 85 #[.pointer none, .int .i64 i] w fun e w' => e = .returned (.bool false) ∧ w = w' := by
  have K := Lib.hid (bmSizeNil w)
  by_cases h0 : 0 ≤ i
  · go_enter Try.func85, Try.ntmps85
    go_wp2_with (go_at_call 80; refine K.out.mono ?_; rintro e w' ⟨rfl, rfl⟩)
    go_ret
    exact ⟨ret_b (by simp; omega), rfl⟩
  · have h1 : i < 0 := by omega
    clear h0
    go_enter Try.func85, Try.ntmps85
    go_wp2
    go_ret
    exact ⟨ret_b (by first | rfl | simp | (simp; omega)), rfl⟩
def BmPost (err : Int) (b u : Nat) (us : List Bool) (w : World) (e : Ending) (w' : World) : Prop := e = .returned (.int .i64 err) ∧ MapAt w' b u us ∧ Chg (· = u) w w'
theorem MapAt.store {w : World} {b u : Nat} {us : List Bool} (h : MapAt w b u us) (hne : u ≠ b) (k : Nat) (q : Bool) : MapAt (w.setCell ⟨u, k, none⟩ (.bool q)) b u (us.set k q) := by
  refine ⟨?_, ?_, by simpa using h.2.2⟩
  · have := h.1.set_ne (a := ⟨u, k, none⟩) (Ne.symm hne) (.bool q)
    simpa using this
  · have := h.2.1.set k (.bool q)
    simpa using this
theorem bmSet (b u : Nat) (us : List Bool) (i : Int) (w : World) (h : MapAt w b u us) (hne : u ≠ b) : Calls Try.prog 64 #[.pointer (some ⟨b, 0, none⟩), .int .i64 i] w (BmPost (if inB us i = false then 22 else if us.getD i.toNat false = true then 16 else 0) b u (if inB us i = true ∧ us.getD i.toNat false ≠ true then us.set i.toNat true else us) w) := by
  have K0 := bmIn b u us i w h
  have hc := h.1.cell (o := 0) rfl
  have hz := h.1.lt
  have hl := h.2.2
  have hu := h.2.1.lt
  cases hin : inB us i
  all_goals
    rw [hin] at K0
    have K := Lib.hid K0
    clear K0
  · rw [if_pos rfl, if_neg (by simp)]
    have H := Lib.hid h
    clear h
    go_enter Try.func64, Try.ntmps64
    go_wp2_with (go_at_call 85; refine K.out.mono ?_; rintro e w' ⟨rfl, rfl⟩)
    go_ret
    exact ⟨rfl, H.out, Chg.refl _ _⟩
  · have hi : 0 ≤ i ∧ i < us.length := by simpa [inB] using hin
    obtain ⟨k, rfl⟩ := Int.eq_ofNat_of_zero_le hi.1
    have hk : k < us.length := by omega
    have hr := h.row k hk
    have hf := h.2.1.free k
    rw [Int.toNat_natCast, if_neg (by simp)]
    have H := Lib.hid h
    clear h hin hi
    cases hq : us.getD k false
    all_goals
      rw [hq] at hr
      clear hq
      go_enter Try.func64, Try.ntmps64
      go_wp2_with (go_at_call 85; refine K.out.mono ?_; rintro e w' ⟨rfl, rfl⟩)
      go_ret
      first
      | exact ⟨rfl, H.out, Chg.refl _ _⟩
      | exact ⟨rfl, H.out.store hne k _, (Chg.refl _ _).set (p := ⟨u, k, none⟩) (fun _ => rfl) _⟩
      | exact ⟨ret_i (by simp), by simpa using H.out, Chg.refl _ _⟩
      | exact ⟨ret_i (by simp), by simpa using H.out.store hne k _, Chg.set (S := (· = u)) (Chg.refl _ _) (p := ⟨u, k, none⟩) (fun _ => rfl) _⟩
theorem bmGive (b u : Nat) (us : List Bool) (i : Int) (w : World) (h : MapAt w b u us) (hne : u ≠ b) : Calls Try.prog 90 #[.pointer (some ⟨b, 0, none⟩), .int .i64 i] w (BmPost (if inB us i = false then 22 else if us.getD i.toNat false = false then 2 else 0) b u (if inB us i = true ∧ us.getD i.toNat false ≠ false then us.set i.toNat false else us) w) := by
  have K0 := bmIn b u us i w h
  have hc := h.1.cell (o := 0) rfl
  have hz := h.1.lt
  have hl := h.2.2
  have hu := h.2.1.lt
  cases hin : inB us i
  all_goals
    rw [hin] at K0
    have K := Lib.hid K0
    clear K0
  · rw [if_pos rfl, if_neg (by simp)]
    have H := Lib.hid h
    clear h
    go_enter Try.func90, Try.ntmps90
    go_wp2_with (go_at_call 85; refine K.out.mono ?_; rintro e w' ⟨rfl, rfl⟩)
    go_ret
    exact ⟨rfl, H.out, Chg.refl _ _⟩
  · have hi : 0 ≤ i ∧ i < us.length := by simpa [inB] using hin
    obtain ⟨k, rfl⟩ := Int.eq_ofNat_of_zero_le hi.1
    have hk : k < us.length := by omega
    have hr := h.row k hk
    have hf := h.2.1.free k
    rw [Int.toNat_natCast, if_neg (by simp)]
    have H := Lib.hid h
    clear h hin hi
    cases hq : us.getD k false
    all_goals
      rw [hq] at hr
      clear hq
      go_enter Try.func90, Try.ntmps90
      go_wp2_with (go_at_call 85; refine K.out.mono ?_; rintro e w' ⟨rfl, rfl⟩)
      go_ret
      first
      | exact ⟨rfl, H.out, Chg.refl _ _⟩
      | exact ⟨rfl, H.out.store hne k _, (Chg.refl _ _).set (p := ⟨u, k, none⟩) (fun _ => rfl) _⟩
      | exact ⟨ret_i (by simp), by simpa using H.out, Chg.refl _ _⟩
      | exact ⟨ret_i (by simp), by simpa using H.out.store hne k _, Chg.set (S := (· = u)) (Chg.refl _ _) (p := ⟨u, k, none⟩) (fun _ => rfl) _⟩

theorem bmSetNil (i : Int) (w : World) : Calls Try.prog 64 #[.pointer none, .int .i64 i] w fun e w' => e = .returned (.int .i64 22) ∧ w = w' := by
  have K := Lib.hid (bmInNil i w)
  go_enter Try.func64, Try.ntmps64
  go_wp2_with (go_at_call 85; refine K.out.mono ?_; rintro e w' ⟨rfl, rfl⟩)
  go_ret
  exact ⟨rfl, rfl⟩
theorem bmGiveNil (i : Int) (w : World) : Calls Try.prog 90 #[.pointer none, .int .i64 i] w fun e w' => e = .returned (.int .i64 22) ∧ w = w' := by
  have K := Lib.hid (bmInNil i w)
  go_enter Try.func90, Try.ntmps90
  go_wp2_with (go_at_call 85; refine K.out.mono ?_; rintro e w' ⟨rfl, rfl⟩)
  go_ret
  exact ⟨rfl, rfl⟩
theorem bmTakeNil (w : World) : Calls Try.prog 132 #[.pointer none] w fun e w' => e = .returned (.tuple #[.int .i64 0, .int .i64 28]) ∧ w = w' := by
  have K := Lib.hid (bmSizeNil w)
  go_enter Try.func132, Try.ntmps132
  go_wp2_with (go_at_call 80; refine K.out.mono ?_; rintro e w' ⟨rfl, rfl⟩)
  go_ret2
  exact ⟨rfl, rfl⟩
theorem bmRunNil (w : World) : Calls Try.prog 137 #[.pointer none, .int .i64 1] w fun e w' => e = .returned (.tuple #[.int .i64 0, .int .i64 22]) ∧ w = w' := by
  have K := Lib.hid (bmSizeNil w)
  go_enter Try.func137, Try.ntmps137
  go_wp2_with (go_at_call 80; refine K.out.mono ?_; rintro e w' ⟨rfl, rfl⟩)
  go_ret2
  exact ⟨rfl, rfl⟩
theorem bmFreeNil (w : World) : Calls Try.prog 58 #[.pointer none] w fun e w' => e = .returned (.int .i64 0) ∧ w = w' := by
  have K := Lib.hid (bmSizeNil w)
  go_enter Try.func58, Try.ntmps58
  go_wp2_with (go_at_call 80; refine K.out.mono ?_; rintro e w' ⟨rfl, rfl⟩)
  go_loop [3, 7] (fun n i => n = .int .i64 0 ∧ i = .int .i64 0) (fun _ _ => 0)
  case atStart => exact ⟨rfl, rfl⟩
  case round =>
    obtain ⟨rfl, rfl⟩ := hrel
    go_wp2
    go_ret
    exact ⟨rfl, rfl⟩
end Go.Proofs.Ytfcddpbpfckjfaa

/- strings.IndexRune at a rune beyond ASCII, strings.ContainsAny at every text, the set of ASCII. -/
import Derived.Test.YtfcddpbpfckjfaaChecked
import Derived.WalkKit
import Derived.Outline
import Derived.WalkSpells
import Derived.WalkLawsBesides
import Derived.Deep.QuietTactic
import Derived.Deep.RegionWith
import Derived.Deep.DeepMust
import Derived.BigQuiet
import Derived.Test.YtfcddpbpfckjfaaMem
import Derived.RegionTactic
import Derived.ChangeAlike
import Derived.StillTailTactics
import Derived.Deep.LoopGhost
import Derived.WalkMore
import Derived.IntWalk
import Derived.Laws.RangeAny
import Derived.Laws.RangeString
import Derived.Laws.Runes
import Derived.Laws.Strings3
import Derived.Lib.MapLaws
import Derived.Lib.OthersKept
import Derived.Lib.IndexBytes
import Derived.Test.YtfcddpbpfckjfaaSla
import Derived.Test.YtfcddpbpfckjfaaMem
namespace Go.Proofs.Ytfcddpbpfckjfaa
open Go.RowKit
set_option linter.unusedVariables false
set_option linter.unusedSimpArgs false
theorem iter_below (w : World) (s : ByteArray) (i : Nat) : Below w.heap.size w (w.iter s i) := (Below.refl _ _).alloc (Nat.le_refl _) _
theorem ascii_mem {chars : ByteArray} (ha : ∀ (j : Nat) b, chars.data.toList[j]? = some b → b.toNat < 128) : ∀ b ∈ chars.data.toList, b.toNat < 128 := by
  intro b hb
  obtain ⟨j, hj, e⟩ := List.mem_iff_getElem.1 hb
  exact ha j b (by rw [List.getElem?_eq_getElem hj, e])
set_option maxHeartbeats 2000000 in
set_option maxRecDepth 1000000 in
theorem idxRuneErr (chars : ByteArray) (w : World) (ha : ∀ (j : Nat) b, chars.data.toList[j]? = some b → b.toNat < 128) :
    Calls Try.prog 100 #[.string chars, .int .i32 65533] w fun e w' => e = .returned (.int .i64 (-1)) ∧ Below w.heap.size w w' := by
  have HA := Lib.hid ha
  clear ha
  go_enter Try.func100, Try.ntmps100
  go_wp2_with fail
  go_loopg [5, 6] chars.size (fun g _ _ wx => ∃ i : Nat, i + g = chars.size ∧ wx = w.iter chars i)
  case atStart => exact ⟨0, by omega, rfl⟩
  case round =>
    obtain ⟨i, hig, rfl⟩ := hrel
    cases gk with
    | zero =>
      obtain rfl : i = chars.size := by omega
      have hnx := run_next_end (P := Try.prog) w chars chars.size
      go_wp2
      go_ret
      exact ⟨rfl, iter_below _ _ _⟩
    | succ g =>
      have hi : i < chars.size := by omega
      obtain ⟨x, hx⟩ : ∃ x : UInt8, chars[i]'hi = x := ⟨_, rfl⟩
      have hxl : chars.data.toList[i]? = some x := by rw [← hx]; exact Lib.data_getElem? chars i hi
      have hx128 : x.toNat < 128 := HA.out i x hxl
      have hnx := fun ty => run_next_ascii (P := Try.prog) w chars i ty hi (by rw [hx]; exact hx128)
      rw [hx] at hnx
      clear hxl hx
      have hne : ((x.toNat : Int) == 65533) = false := beq_eq_false_iff_ne.2 (by omega)
      go_wp2
      go_roundg g
      case measure => omega
      case rel => exact ⟨i + 1, by omega, rfl⟩
set_option maxHeartbeats 2000000 in
set_option maxRecDepth 1000000 in
theorem idxRuneHi (chars : ByteArray) (r : Int) (w : World) (ha : ∀ (j : Nat) b, chars.data.toList[j]? = some b → b.toNat < 128) (hs : chars.size ≤ 1000) (h1 : 128 ≤ r) (h2 : r ≠ 65533) (hv : Lib.validRune r = true) :
    Calls Try.prog 100 #[.string chars, .int .i32 r] w fun e w' => e = .returned (.int .i64 (-1)) ∧ Below w.heap.size w w' := by
  have hv2 : Utf8.valid r = true := by rw [validRune_eq]; exact hv
  obtain ⟨f1, f2, f3⟩ := encode_facts r hv2 h1
  obtain ⟨E, hE⟩ : ∃ E, Utf8.encode r = E := ⟨_, rfl⟩
  rw [hE] at f1 f2 f3
  obtain ⟨k, hk⟩ : ∃ k, E.size = k + 1 := ⟨E.size - 1, by omega⟩
  have g0 : ¬ (r < 128) := by omega
  have g1 : (r == 65533) = false := beq_eq_false_iff_ne.2 h2
  have HV := Lib.hid (fun w => (by have h := Try.utf8_ValidRune r w; rw [hv] at h; exact h : Calls Try.prog 120 #[.int .i32 r] w fun e w' => e = .returned (.bool true) ∧ w' = w))
  have HS := Lib.hid (ascii_mem ha)
  have HA := Lib.hid ha
  have HF := Lib.hid f3
  clear ha hv hv2 h2 f3
  have hkE : k < E.size := by omega
  obtain ⟨y, hy⟩ : ∃ y : UInt8, E[k]'hkE = y := ⟨_, rfl⟩
  have hy128 : 128 ≤ y.toNat := by
    have := HF.out (by omega)
    rw [← hy]
    have e : ∀ (m : Nat) (h : m < E.size), m = k → E[m]'h = E[k]'hkE := fun m h e => by subst e; rfl
    rwa [e _ _ (by omega)] at this
  have hback : ((y.toNat : Int)).toNat.toUInt8 = y := by simp
  have HB : ∀ a e, Lib.indexByte (chars.extract a e).data.toList y = -1 := fun a e => by rw [← Lib.firstIdx_eq, firstIdx_ascii chars a e y HS.out hy128]
  have HIB := Lib.hid (fun (a e : Nat) (w : World) => (by have h := Try.strings_IndexByte (chars.extract a e) (y.toNat : Int) w; rw [hback, HB] at h; exact h : Calls Try.prog 119 #[.string (chars.extract a e), .int .u8 (y.toNat : Int)] w fun e w' => e = .returned (.int .i64 (-1)) ∧ w' = w))
  clear HB hback
  have k0 : k ≤ 3 := by omega
  have k1 : (E.size : Int) - 1 = k := by omega
  have k2 : (0 : Int) ≤ k := by omega
  have k3 : (k : Int) < E.size := by omega
  have K1 := Lib.hid k1
  by_cases hlt : k < chars.size
  · obtain ⟨x, hx⟩ : ∃ x : UInt8, chars[k]'hlt = x := ⟨_, rfl⟩
    have hx128 : x.toNat < 128 := HA.out k x (by rw [← hx]; exact Lib.data_getElem? chars k hlt)
    have hxy : ((x.toNat : Int) != (y.toNat : Int)) = true := by rw [bne_iff_ne]; omega
    have k4 : (k : Int) < chars.size := by omega
    have k5 : (0 : Int) ≤ (k : Int) + 1 := by omega
    have k6 : (k : Int) + 1 ≤ chars.size := by omega
    have k7 : ((k : Int) + 1).toNat = k + 1 := by omega
    have k8 : IntKind.i64.wrap ((k : Int) + 1) = (k : Int) + 1 := IntWalk.i64_in _ (by omega)
    clear f1 f2 hk
    go_enter Try.func100, Try.ntmps100
    go_wp2_with (go_at_call 120; refine (HV.out _).mono ?_; rintro e w1 ⟨rfl, rfl⟩)
    go_step3
    go_wp2
    go_loopw [9] (fun i wr => i = .int .i64 k ∧ Drw w1 wr) (fun _ _ => 0)
    case atStart => exact ⟨rfl, 0, rfl⟩
    case round =>
      obtain ⟨rfl, nd, rfl⟩ := hrel
      go_wp2
      go_step3
      go_wp2
      go_quiet (fail)
      go_wp2
      go_quiet ((go_at_call 119; exact (HIB.out _ _ _).mono fun _ _ h => ⟨h.1, _, h.2⟩))
      go_wp2
      iterate 7
        show Exit.noGoto _ Exit.ret _ _
        rw [Exit.noGoto_ret]
      show bodyPost _ _ _ Exit.ret _ _
      go_ret
      exact ⟨rfl, Drw.below ⟨_, rfl⟩⟩
  · have k4 : ¬ ((k : Int) < chars.size) := by omega
    clear f1 f2 hk
    go_enter Try.func100, Try.ntmps100
    go_wp2_with (go_at_call 120; refine (HV.out _).mono ?_; rintro e w1 ⟨rfl, rfl⟩)
    go_step3
    go_wp2
    go_loopw [9] (fun i wr => i = .int .i64 k ∧ Drw w1 wr) (fun _ _ => 0)
    case atStart => exact ⟨rfl, 0, rfl⟩
    case round =>
      obtain ⟨rfl, nd, rfl⟩ := hrel
      go_wp2
      rw [Exit.noGoto_ret]
      go_ret
      exact ⟨rfl, (Drw.below ⟨nd, rfl⟩)⟩
theorem get!_of {s : ByteArray} {i : Nat} (h : i < s.size) : s.get! i = s[i]'h := by
  simp [ByteArray.get!, getElem!_pos, h]
  rfl
theorem none_step {s chars : List UInt8} {i : Nat} (h : Lib.NoAny s chars i) (n : Nat) (hn : ∀ j b, i ≤ j → j < i + n → s[j]? = some b → chars.contains b = false) : Lib.NoAny s chars (i + n) := fun j b hj hb => by
  rcases Nat.lt_or_ge j i with h1 | h1
  · exact h j b h1 hb
  · exact hn j b h1 hj hb
theorem not_ascii {chars : List UInt8} (ha : ∀ b ∈ chars, b.toNat < 128) {b : UInt8} (hb : 128 ≤ b.toNat) : chars.contains b = false := by
  rw [Bool.eq_false_iff]
  intro h
  have := ha b (by simpa using h)
  omega
/-- A rune beyond ASCII: it is valid, and all its bytes are beyond ASCII. -/
theorem decode_hi (s : ByteArray) (i : Nat) (hi : i < s.size) (h : 128 ≤ (s.get! i).toNat) :
    128 ≤ (Utf8.decode s i).1 ∧ Lib.validRune ((Utf8.decode s i).1 : Int) = true ∧ 1 ≤ (Utf8.decode s i).2 ∧ i + (Utf8.decode s i).2 ≤ s.size ∧ ∀ j, i ≤ j → j < i + (Utf8.decode s i).2 → 128 ≤ (s.get! j).toNat := by
  have b0 := (s.get! i).toNat_lt
  have b1 := (s.get! (i + 1)).toNat_lt
  have b2 := (s.get! (i + 2)).toNat_lt
  have b3 := (s.get! (i + 3)).toNat_lt
  rw [Lib.decode_at]
  rcases Lib.decodeN_shape (s.size - i) (s.get! i).toNat (s.get! (i + 1)).toNat (s.get! (i + 2)).toNat (s.get! (i + 3)).toNat with ⟨h1, e⟩ | ⟨h1, h2, h3, h4, e⟩ | ⟨h1, h2, h3, h4, h5, h6, e⟩ | ⟨h1, h2, h3, h4, h5, h6, h7, e⟩ | e
  · omega
  · rw [e]
    refine ⟨h4, by unfold Lib.validRune; rw [decide_eq_true]; omega, by omega, by simp only; omega, fun j j1 j2 => ?_⟩
    rcases (show j = i ∨ j = i + 1 by simp only at j2; omega) with rfl | rfl
    all_goals omega
  · rw [e]
    refine ⟨by simp only; omega, by unfold Lib.validRune; rw [decide_eq_true]; omega, by omega, by simp only; omega, fun j j1 j2 => ?_⟩
    rcases (show j = i ∨ j = i + 1 ∨ j = i + 2 by simp only at j2; omega) with rfl | rfl | rfl
    all_goals omega
  · rw [e]
    refine ⟨by simp only; omega, by unfold Lib.validRune; rw [decide_eq_true]; omega, by omega, by simp only; omega, fun j j1 j2 => ?_⟩
    rcases (show j = i ∨ j = i + 1 ∨ j = i + 2 ∨ j = i + 3 by simp only at j2; omega) with rfl | rfl | rfl | rfl
    all_goals omega
  · rw [e]
    refine ⟨by simp only; omega, by decide, by omega, by simp only; omega, fun j j1 j2 => ?_⟩
    obtain rfl : j = i := by simp only at j2; omega
    omega
theorem hi_contains {s chars : ByteArray} {i : Nat} (ha : ∀ b ∈ chars.data.toList, b.toNat < 128) (h : Lib.NoAny s.data.toList chars.data.toList i) (n : Nat) (hn : i + n ≤ s.size) (hh : ∀ j, i ≤ j → j < i + n → 128 ≤ (s.get! j).toNat) : Lib.NoAny s.data.toList chars.data.toList (i + n) := by
  refine none_step h n fun j b j1 j2 hb => not_ascii ha ?_
  have hj : j < s.size := by omega
  have := hh j j1 j2
  rw [get!_of hj] at this
  rw [Lib.data_getElem? s j hj] at hb
  injection hb with hb
  rwa [hb] at this
theorem below_iterAt {B : Nat} {w wr : World} (h : Below B w wr) (k : Nat) (s : ByteArray) (p : Nat) (hk : B ≤ k) : Below B w (wr.iterAt k s p) :=
  ⟨h.os, h.tape, h.output, by simpa [World.iterAt] using h.size, fun i hi => by
    rw [← h.block i hi]
    simp only [World.iterAt]
    rw [Array.getElem?_setIfInBounds]
    rw [if_neg (by omega)]⟩
theorem iter_kept {B k : Nat} {w wr : World} {s : ByteArray} {p : Nat} (h : Below w.heap.size w wr) (hk : w.heap[k]? = some (.stringIter s p)) : wr.heap[k]? = some (.stringIter s p) := by
  rw [h.block k (Array.getElem?_eq_some_iff.1 hk).1, hk]
set_option maxHeartbeats 8000000 in
set_option maxRecDepth 1000000 in
theorem idxAnyShort (s chars : ByteArray) (w : World) (h2 : 2 ≤ chars.size) (hc : chars.size ≤ 1000) (h8 : s.size ≤ 8) (ha : ∀ (j : Nat) b, chars.data.toList[j]? = some b → b.toNat < 128) :
    Calls Try.prog 79 #[.string s, .string chars] w fun e w' => e = .returned (.int .i64 (Lib.indexAny s.data.toList chars.data.toList)) ∧ Below w.heap.size w w' := by
  have HA := Lib.hid (ascii_mem ha)
  have HI := Lib.hid (fun r w h1 hv => (by
    by_cases hr : r = 65533
    · subst hr; exact idxRuneErr chars w ha
    · exact idxRuneHi chars r w ha hc h1 hr hv : Calls Try.prog 100 #[.string chars, .int .i32 r] w fun e w' => e = .returned (.int .i64 (-1)) ∧ Below w.heap.size w w') : ∀ (r : Int) (w : World), 128 ≤ r → Lib.validRune r = true → _)
  clear ha
  have hemp : chars.toList.isEmpty = false := by
    rw [Lib.toList_data]
    cases h : chars.data.toList with
    | nil => have := Lib.size_eq chars; rw [h, List.length_nil] at this; omega
    | cons _ _ => rfl
  have hn1 : ((chars.size : Int) == 1) = false := beq_eq_false_iff_ne.2 (by omega)
  have h8z : decide ((8 : Int) < (s.size : Int)) = false := decide_eq_false (by omega)
  go_enter Try.func79, Try.ntmps79
  go_wp2_with (go_at_call 101; refine (Try.strings_shouldUseASCIISet _ _).mono ?_; rintro e w' ⟨rfl, hw⟩; rw [hw, h8z])
  go_loopg [9, 10] s.size (fun g _ _ wx => ∃ (i : Nat), i + g = s.size ∧ wx.heap[w.heap.size]? = some (.stringIter s i) ∧ Lib.NoAny s.data.toList chars.data.toList i ∧ Below w.heap.size w wx)
  case atStart => exact ⟨0, by omega, by rw [World.iter]; exact heap_alloc_new w _, Lib.NoAny.zero _ _, iter_below _ _ _⟩
  case round =>
    obtain ⟨i, hig, hit, hno, hb⟩ := hrel
    have HN := Lib.hid hno
    have HB := Lib.hid hb
    have HIT := Lib.hid hit
    clear hno hb
    rcases Nat.lt_or_ge i s.size with hi | hi
    · obtain ⟨x, hx⟩ : ∃ x : UInt8, s[i]'hi = x := ⟨_, rfl⟩
      have hxl : s.data.toList[i]? = some x := by rw [← hx]; exact Lib.data_getElem? s i hi
      rcases Nat.lt_or_ge x.toNat 128 with hx128 | hx128
      · have hnx := fun ty => Lib.run_next_ascii_at (P := Try.prog) wr w.heap.size s i ty hit hi (by rw [hx]; exact hx128)
        rw [hx] at hnx
        have Hx := Lib.hid hxl
        clear hxl hx
        have hcon := Lib.contains_iff_indexByte chars.data.toList x
        have hback : ((x.toNat : Int)).toNat.toUInt8 = x := by simp
        have HR := Lib.hid (fun w => Try.strings_IndexRune_ascii chars (x.toNat : Int) w (by omega) (by omega))
        rw [hback] at HR
        clear hback hit
        have hbi := Lib.hid (below_iterAt HB.out w.heap.size s (i + 1) (Nat.le_refl _))
        have hti := Lib.hid (Lib.iterAt_heap wr w.heap.size s i (i + 1) HIT.out)
        cases hin : chars.data.toList.contains x
        · rw [hin] at hcon
          have hlt : ¬ ((0 : Int) ≤ Lib.indexByte chars.data.toList x) := of_decide_eq_false hcon.symm
          clear hcon
          have HNN := Lib.hid (HN.out.succ Hx.out hin)
          clear hin
          go_wp2_with (go_at_call 100; refine (HR.out _).mono ?_; rintro e w' ⟨rfl, rfl⟩)
          go_roundg (s.size - (i + 1))
          case measure => omega
          case rel => exact ⟨i + 1, by omega, hti.out, HNN.out, hbi.out⟩
        · rw [hin] at hcon
          have hge : (0 : Int) ≤ Lib.indexByte chars.data.toList x := of_decide_eq_true hcon.symm
          clear hcon
          have HNN := Lib.hid (Lib.indexAny_hit HN.out Hx.out hin)
          clear hin
          go_wp2_with (go_at_call 100; refine (HR.out _).mono ?_; rintro e w' ⟨rfl, rfl⟩)
          go_ret
          exact ⟨by rw [HNN.out]; rfl, hbi.out⟩
      · have hg : 128 ≤ (s.get! i).toNat := by rw [get!_of hi, hx]; exact hx128
        obtain ⟨d1, d2, d3, d4, d5⟩ := decode_hi s i hi hg
        have hnx := fun ty => Lib.run_next_any_at (P := Try.prog) wr w.heap.size s i ty hit hi
        generalize (Utf8.decode s i).1 = r at *
        generalize (Utf8.decode s i).2 = n at *
        have hbi := below_iterAt HB.out w.heap.size s (i + n) (Nat.le_refl _)
        have hti := Lib.hid (Lib.iterAt_heap wr w.heap.size s i (i + n) HIT.out)
        have HNN := Lib.hid (hi_contains HA.out HN.out n d4 d5)
        have HBI := Lib.hid hbi
        have hr := Lib.hid (fun w => HI.out (r : Int) w (by omega) d2)
        clear d2 d5 hxl hx hg hbi hit
        go_wp2_with (go_at_call 100; refine (hr.out _).mono ?_; rintro e w' ⟨rfl, hb'⟩; have HB2 := Lib.hid hb'; clear hb')
        go_roundg (s.size - (i + n))
        case measure => omega
        case rel => exact ⟨i + n, by omega, iter_kept (B := 0) HB2.out hti.out, HNN.out, HBI.out.trans (HB2.out.mono HBI.out.size)⟩
    · obtain rfl : i = s.size := by omega
      have hnx := fun ty => Lib.run_next_end_at (P := Try.prog) wr w.heap.size s s.size ty hit (by omega)
      clear hit
      go_wp2
      go_ret
      exact ⟨by rw [Lib.indexAny_none (by rw [← Lib.size_eq]; exact HN.out)]; rfl, HB.out⟩
theorem zero_set : ∀ w, (zeroValue 176).run Try.prog w = .ok (.agg (Array.replicate 256 (.bool false))) w := fun w => by kernel_rfl
/-- strings.ContainsAny: every text. -/
theorem containsAny (s chars : ByteArray) (w : World) (hs : s.size < 4294967281) (h2 : 2 ≤ chars.size) (hc : chars.size ≤ 1000) (ha : ∀ (j : Nat) b, chars.data.toList[j]? = some b → b.toNat < 128) :
    Calls Try.prog 57 #[.string s, .string chars] w fun e w' => e = .returned (.bool (Lib.containsAny s.data.toList chars.data.toList)) ∧ Below w.heap.size w w' := by
  have K := Lib.hid (fun w => (by
    rcases Nat.lt_or_ge 8 s.size with h8 | h8
    · refine (Try.strings_IndexAny_long zero_set s chars w h2 h8 hs (by omega) ha).mono ?_
      rintro e w' ⟨he, hw⟩
      exact ⟨he, by rw [hw]; exact Below.alloc (Below.alloc (Below.refl _ _) (Nat.le_refl _) _) (by simp) _⟩
    · exact idxAnyShort s chars w h2 hc h8 ha : Calls Try.prog 79 #[.string s, .string chars] w fun e w' => e = .returned (.int .i64 (Lib.indexAny s.data.toList chars.data.toList)) ∧ Below w.heap.size w w'))
  clear ha
  go_enter Try.func57, Try.ntmps57
  go_wp2_with (go_at_call 79; refine (K.out _).mono ?_; rintro e w' ⟨rfl, hb'⟩; have HB2 := Lib.hid hb'; clear hb')
  go_ret
  exact ⟨rfl, HB2.out⟩
end Go.Proofs.Ytfcddpbpfckjfaa

/- Contracts of package crc. -/
import Derived.Test.YtfcddpbpfckjfaaChecked
import Derived.WalkKit
import Derived.Outline
import Derived.WalkSpells
import Derived.WalkLawsBesides
import Derived.Deep.QuietTactic
import Derived.Deep.RegionWith
import Derived.Deep.DeepMust
import Derived.BigQuiet
import Derived.Test.YtfcddpbpfckjfaaMem
import Derived.RegionTactic
import Derived.ChangeAlike
import Derived.StillTailTactics
import Derived.Deep.LoopGhost
import Derived.Laws.BitsAllLaws
import Derived.Test.YtfcddpbpfckjfaaCrcP
import Derived.Test.YtfcddpbpfckjfaaCln
namespace Go.Proofs.Ytfcddpbpfckjfaa
open Go.RowKit
set_option linter.unusedVariables false
set_option linter.unusedSimpArgs false
def SumAt (w : World) (b : Nat) (x : Nat) : Prop := Blk w b #[.int .u32 (x : Int)] 194
def tab (k : Nat) : Array Value := ((List.range 16).map fun i => Value.int .u32 ((if i < k then stN 4 i else 0 : Nat) : Int)).toArray
theorem tab_get (k i : Nat) (h : i < 16) : (tab k)[i]? = some (.int .u32 ((if i < k then stN 4 i else 0 : Nat) : Int)) := by simp [tab, h]
theorem tab_set (k : Nat) (h : k < 16) : (tab k).setIfInBounds k (.int .u32 (stN 4 k : Nat)) = tab (k + 1) := by
  apply Array.ext_getElem?
  intro i
  have hs : (tab k).size = 16 := by simp [tab]
  rw [Array.getElem?_setIfInBounds, hs]
  by_cases hi : i < 16
  · rw [tab_get (k + 1) i hi, tab_get k i hi]
    by_cases e : k = i
    · subst e
      rw [if_pos rfl, if_pos h, if_pos (by omega)]
    · rw [if_neg e]
      by_cases h4 : i < k
      · rw [if_pos h4, if_pos (by omega)]
      · rw [if_neg h4, if_neg (by omega)]
  · rw [if_neg (by omega)]
    have hs' : (tab (k + 1)).size = 16 := by simp [tab]
    rw [Array.getElem?_eq_none (by omega), Array.getElem?_eq_none (by omega)]
set_option maxHeartbeats 1000000 in
set_option maxRecDepth 100000 in
theorem crcAdd (b : Nat) (x : Nat) (v : Value) (l : List Int) (w : World) (hx : x < 4294967296) (hs : SumAt w b x) (hv : Rdv u8v w v l) (hl : ∀ q ∈ l, 0 ≤ q ∧ q < 256) :
    Calls Try.prog 98 #[.pointer (some ⟨b, 0, none⟩), v] w fun e w' => e = .returned (.tuple #[]) ∧ SumAt w' b (flip32 (crcR (flip32 x) l)) ∧ Chg (· = b) w w' := by
  go_enter Try.func98, Try.ntmps98
  go_wp2
  have hz := hs.lt
  have T0 : Blk (w.alloc (.cells #[.int .u32 0, .int .u32 0, .int .u32 0, .int .u32 0, .int .u32 0, .int .u32 0, .int .u32 0, .int .u32 0, .int .u32 0, .int .u32 0, .int .u32 0, .int .u32 0, .int .u32 0, .int .u32 0, .int .u32 0, .int .u32 0] 195)) w.heap.size (tab 0) 195 := Blk.new _ _ _
  go_loopw [13] (fun i wr => ∃ k : Nat, k ≤ 16 ∧ i = .int .i64 k ∧ Blk wr w.heap.size (tab k) 195 ∧ Below w.heap.size w wr) (fun i _ => 16 - (intOf i).toNat)
  case atStart => exact ⟨0, by omega, rfl, T0, by (repeat (first | exact Below.refl _ _ | (with_reducible assumption) | apply Below.drew | apply belowDN | (refine Below.alloc ?_ (by first | exact Nat.le_refl _ | omega | (simp; done) | (simp; omega)) _) | (refine Below.setCell ?_ (by first | exact Nat.le_refl _ | omega | (simp; done) | (simp; omega)) _) | (refine Below.trans ?_ (Below.mono (by with_reducible assumption) (by first | omega | (simp; done) | (simp; omega))))))⟩
  case round =>
    obtain ⟨k, hk, rfl, ht, hb⟩ := hrel
    clear T0
    by_cases hlt : k < 16
    · go_wp2
      go_loop [6, 18] (fun x j => ∃ i : Nat, i ≤ 4 ∧ j = .int .i64 i ∧ x = .int .u32 (stN i k : Nat)) (fun _ j => 4 - (intOf j).toNat)
      case atStart => exact ⟨0, by omega, rfl, by first | rfl | (simp [stN]; done)⟩
      case round =>
        obtain ⟨i, hi, rfl, rfl⟩ := hrel
        have hlt4 := stN_lt i (show k < 4294967296 by omega)
        by_cases hli : i < 4
        · have hst := st1_bits (stN i k) hlt4
          have HST := Lib.hid hst
          clear hst
          go_wp2
          go_round
          case rel => exact ⟨i + 1, by omega, by go_num, by rw [HST.out]; rfl⟩
          case measure => simp [intOf]; omega
        · obtain rfl : i = 4 := by omega
          have hc := ht.cell (o := k) (v := .int .u32 0) (by simp [tab, hlt])
          have hf := ht.free k
          have hlz := ht.lt
          have HT := Lib.hid ht
          clear ht
          go_wp2
          go_roundw
          case rel => exact ⟨k + 1, by omega, by go_num, by rw [← tab_set k hlt]; exact HT.out.set k _, by (repeat (first | exact Below.refl _ _ | (with_reducible assumption) | apply Below.drew | apply belowDN | (refine Below.alloc ?_ (by first | exact Nat.le_refl _ | omega | (simp; done) | (simp; omega)) _) | (refine Below.setCell ?_ (by first | exact Nat.le_refl _ | omega | (simp; done) | (simp; omega)) _) | (refine Below.trans ?_ (Below.mono (by with_reducible assumption) (by first | omega | (simp; done) | (simp; omega))))))⟩
          case measure => simp [intOf]; omega
    · obtain rfl : k = 16 := by omega
      have hs1 := blkBelow hb hs hz
      have hsc := hs1.cell (o := 0) rfl
      have hsf := hs1.free 0
      have hv1 := hv.below hb
      have h1z := hs1.lt
      have HT := Lib.hid ht
      have HS := Lib.hid hs1
      clear ht hs hv hs1
      obtain ⟨va, vc, rfl, v1, v2, v3⟩ := hv1
      unfold maxLen at v2
      have HV := Lib.hid v3
      clear v3
      have hfl := flip_bits x hx
      have HFL := Lib.hid hfl
      have hflt := flip32_lt hx
      clear hfl
      go_wp2
      rw [HFL.out]
      go_loop [7, 39] (fun y i => ∃ k : Nat, k ≤ l.length ∧ i = .int .i64 k ∧ y = .int .u32 (crcR (flip32 x) (l.take k) : Nat)) (fun _ i => l.length - (intOf i).toNat)
      case atStart => exact ⟨0, by omega, rfl, rfl⟩
      case round =>
        obtain ⟨k, hk, rfl, rfl⟩ := hrel
        have hR := crcR_lt hflt (l.take k) (fun q hq => hl q (List.mem_of_mem_take hq))
        by_cases hlt : k < l.length
        · rcases HV.out with rfl | ⟨b1, o1, rfl, hc1⟩
          · exact absurd hlt (by simp)
          have hc := hc1 k hlt
          have hstep := Lib.hid (crcR_take (flip32 x) l k hlt)
          have hq := hl (l.getD k 0) (by rw [List.getD_eq_getElem?_getD, List.getElem?_eq_getElem hlt]; exact List.getElem_mem hlt)
          obtain ⟨q, hqe⟩ := Int.eq_ofNat_of_zero_le hq.1
          rw [hqe] at hc hq
          have hq2 : q < 256 := by omega
          have HQ := Lib.hid hqe
          clear hc1 hqe
          generalize crcR (flip32 x) (l.take k) = R at *
          obtain ⟨X, n1, Y, n2, e1, e2, l1, e3, e4, l2, e5⟩ := nib_round R q hR hq2
          have hc1 := HT.out.cell (o := n1) (tab_get 16 n1 l1)
          have hc2 := HT.out.cell (o := n2) (tab_get 16 n2 l2)
          rw [if_pos l1] at hc1
          rw [if_pos l2] at hc2
          have hZ := Lib.hid (hstep.out.trans (by rw [HQ.out, Int.toNat_natCast]))
          have L1 : n1 < 16 := l1
          go_wp2
          go_round
          case rel => exact ⟨k + 1, by omega, by go_num, by rw [hZ.out]⟩
          case measure => simp [intOf]; omega
        · obtain rfl : k = l.length := by omega
          have hR' : crcR (flip32 x) (l.take l.length) = crcR (flip32 x) l := by rw [List.take_length]
          rw [hR'] at hR
          have hfl := flip_bits _ hR
          have HFL := Lib.hid hfl
          have HR' := Lib.hid hR'
          clear hfl HV hR'
          go_wp2
          go_end0
          refine ⟨rfl, ?_, (Chg.of_below (S := (· = b)) hb (fun i hi h => absurd hi (by omega))).set (p := ⟨b, 0, none⟩) (fun _ => rfl) _⟩
          rw [HFL.out]
          exact HS.out.set 0 _
theorem crcNew (w : World) : Calls Try.prog 96 #[] w fun e w' => e = .returned (.pointer (some ⟨w.heap.size, 0, none⟩)) ∧ SumAt w' w.heap.size 0 ∧ w' = w.alloc (.cells #[.int .u32 0] 194) := by
  go_enter Try.func96, Try.ntmps96
  go_wp2
  go_ret
  exact ⟨rfl, Blk.new _ _ _, rfl⟩
theorem crcValue (b : Nat) (x : Nat) (w : World) (hs : SumAt w b x) : Calls Try.prog 99 #[.pointer (some ⟨b, 0, none⟩)] w fun e w' => e = .returned (.int .u32 x) ∧ w = w' := by
  have hc := hs.cell (o := 0) rfl
  have hz := hs.lt
  clear hs
  go_enter Try.func99, Try.ntmps99
  go_wp2
  go_ret
  exact ⟨rfl, rfl⟩
/-- A slice of slices of bytes. -/
def RdBs (w : World) (v : Value) (yss : List (List Int)) : Prop :=
  ∃ a c, v = .slice a yss.length c ∧ yss.length ≤ c ∧ c ≤ maxLen ∧ (yss = [] ∨ ∃ b o, a = some ⟨b, o, none⟩ ∧ ∀ j, j < yss.length → ∃ u, w.cell? ⟨b, o + j, none⟩ = some u ∧ Rdv u8v w u (yss.getD j []))
theorem RdBs.of_cells {w w' : World} {v : Value} {yss : List (List Int)} (h : RdBs w v yss) (hc : ∀ a u, w.cell? a = some u → w'.cell? a = some u) : RdBs w' v yss := by
  obtain ⟨a, c, rfl, h1, h2, h3⟩ := h
  refine ⟨a, c, rfl, h1, h2, ?_⟩
  rcases h3 with h3 | ⟨b, o, rfl, h3⟩
  · exact .inl h3
  · exact .inr ⟨b, o, rfl, fun j hj => by obtain ⟨u, hu, hr⟩ := h3 j hj; exact ⟨u, hc _ _ hu, hr.of_cells hc⟩⟩
theorem RdBs.below {w w' : World} {v : Value} {yss : List (List Int)} (h : RdBs w v yss) (hb : Below w.heap.size w w') : RdBs w' v yss := h.of_cells (below_cell hb)
theorem RdBs.one {w : World} {b : Nat} {v : Value} {T : TypeId} {l : List Int} (hb : Blk w b #[v] T) (hv : Rdv u8v w v l) : RdBs w (.slice (some ⟨b, 0, none⟩) 1 1) [l] :=
  ⟨_, _, rfl, Nat.le_refl _, by unfold maxLen; simp, .inr ⟨b, 0, rfl, fun j hj => by
    have : j = 0 := by simpa using hj
    subst this
    exact ⟨v, hb.cell rfl, hv⟩⟩⟩
def AllB (yss : List (List Int)) : Prop := ∀ l ∈ yss, ∀ q ∈ l, 0 ≤ q ∧ q < 256
set_option maxHeartbeats 1000000 in
set_option maxRecDepth 100000 in
theorem crcEach (b : Nat) (x : Nat) (v : Value) (yss : List (List Int)) (w0 w : World) (hx : x < 4294967296) (hs : SumAt w b x) (hv : RdBs w0 v yss) (h0 : Below w0.heap.size w0 w) (hb0 : w0.heap.size ≤ b) (hl : AllB yss) :
    Calls Try.prog 97 #[v, .func (.func 98) #[.pointer (some ⟨b, 0, none⟩)] #[]] w fun e w' => e = .returned (.tuple #[]) ∧ SumAt w' b (flip32 (crcR (flip32 x) yss.flatten)) ∧ Chg (· = b) w w' := by
  have KV := Lib.hid (fun w1 hb => hv.below (w' := w1) hb)
  obtain ⟨a, c, rfl, v1, v2, v3⟩ := hv
  unfold maxLen at v2
  clear v3
  go_enter Try.func97, Try.ntmps97
  go_wp2
  go_loopw [8] (fun i wr => ∃ k : Nat, k ≤ yss.length ∧ i = .int .i64 k ∧ SumAt wr b (flip32 (crcR (flip32 x) (yss.take k).flatten)) ∧ Chg (· = b) w wr) (fun i _ => yss.length - (intOf i).toNat)
  case atStart => exact ⟨0, by omega, rfl, by rw [show flip32 (crcR (flip32 x) (yss.take 0).flatten) = x from flip32_flip32 x]; exact hs, Chg.refl _ _⟩
  case round =>
    obtain ⟨k, hk, rfl, hs1, hg⟩ := hrel
    have hb1 := Chg.below_trans h0 hg h0.size (fun i hi e => by omega)
    by_cases hlt : k < yss.length
    · obtain ⟨a', c', e, _, _, h3⟩ := KV.out _ hb1
      rw [Value.slice.injEq] at e
      obtain ⟨rfl, _, rfl⟩ := e
      rcases h3 with h3 | ⟨b1, o1, rfl, h3⟩
      · rw [h3] at hlt; exact absurd hlt (by simp)
      obtain ⟨u, hu, hr⟩ := h3 k hlt
      obtain ⟨ua, un, uc, rfl⟩ := hr.shape
      have hR := crcR_lt (flip32_lt hx) (yss.take k).flatten (fun q hq => by
        obtain ⟨l, hl1, hl2⟩ := List.mem_flatten.1 hq
        exact hl l (List.mem_of_mem_take hl1) q hl2)
      have hm : yss.getD k [] ∈ yss := by rw [List.getD_eq_getElem?_getD, List.getElem?_eq_getElem hlt]; exact List.getElem_mem hlt
      have hst : Hid (flip32 (crcR (flip32 (flip32 (crcR (flip32 x) (yss.take k).flatten))) (yss.getD k [])) = flip32 (crcR (flip32 x) (yss.take (k + 1)).flatten)) := by
        refine congrArg flip32 ?_
        rw [flip32_flip32, List.take_succ_eq_append_getElem hlt, List.flatten_append, crcR_append]
        simp [List.getElem?_eq_getElem hlt]
      have KA := Lib.hid (crcAdd b _ _ _ wr (flip32_lt hR) hs1 hr (hl _ hm))
      clear h3 hr hs1
      go_wp2_with fail
      refine KA.out.mono ?_
      rintro e w2 ⟨rfl, hs2, hg2⟩
      rw [hst.out] at hs2
      go_wp2
      go_roundw
      case rel => exact ⟨k + 1, by omega, by go_num, hs2, hg.trans hg2⟩
      case measure => simp [intOf]; omega
    · obtain rfl : k = yss.length := by omega
      rw [List.take_length] at hs1
      have HS := Lib.hid hs1
      clear hs1 KV
      go_wp2
      go_end0
      exact ⟨rfl, HS.out, hg⟩
set_option maxHeartbeats 1000000 in
theorem crcOfC (v : Value) (yss : List (List Int)) (w : World) (hv : RdBs w v yss) (hl : AllB yss) :
    Calls Try.prog 78 #[v] w fun e w' => e = .returned (.int .u32 (crcOf yss.flatten : Nat)) ∧ Below w.heap.size w w' := by
  have K := Lib.hid (crcEach w.heap.size 0 v yss w (w.alloc (.cells #[.int .u32 0] 194)) (by omega) (Blk.new _ _ _) hv (by (repeat (first | exact Below.refl _ _ | (with_reducible assumption) | apply Below.drew | apply belowDN | (refine Below.alloc ?_ (by first | exact Nat.le_refl _ | omega | (simp; done) | (simp; omega)) _) | (refine Below.setCell ?_ (by first | exact Nat.le_refl _ | omega | (simp; done) | (simp; omega)) _) | (refine Below.trans ?_ (Below.mono (by with_reducible assumption) (by first | omega | (simp; done) | (simp; omega))))))) (Nat.le_refl _) hl)
  clear hv
  go_enter Try.func78, Try.ntmps78
  go_wp2_with fail
  refine (crcNew w).mono ?_
  rintro e w1 ⟨rfl, _, rfl⟩
  go_wp2_with fail
  refine K.out.mono ?_
  rintro e w2 ⟨rfl, hs2, hg2⟩
  have hz := hg2.size
  simp at hz
  go_wp2_with fail
  refine (crcValue _ _ _ hs2).mono ?_
  rintro e w3 ⟨rfl, rfl⟩
  go_wp2
  go_ret
  exact ⟨ret_i (by rfl), Chg.below_trans ((Below.refl _ w).alloc (Nat.le_refl _) _) hg2 (by simp) (fun i hi e => by omega)⟩
end Go.Proofs.Ytfcddpbpfckjfaa

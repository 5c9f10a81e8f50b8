/- Contracts of package bitmap: Load; the laws' begun. -/
import Derived.Test.YtgpfkdlnmifiiaaChecked
import Derived.WalkKit
import Derived.Outline
import Derived.WalkSpells
import Derived.WalkLawsBesides
import Derived.Deep.QuietTactic
import Derived.Deep.RegionWith
import Derived.Deep.DeepMust
import Derived.BigQuiet
import Derived.Test.YtgpfkdlnmifiiaaMem
import Derived.RegionTactic
import Derived.ChangeAlike
import Derived.StillTailTactics
import Derived.BigRegion
import Derived.Laws.NewBlocks
import Derived.Test.YtgpfkdlnmifiiaaBm2
namespace Go.Proofs.Ytgpfkdlnmifiiaa
open Go.RowKit
set_option linter.unusedVariables false
set_option linter.unusedSimpArgs false
def LoadPost (l : List Int) (n : Nat) (w : World) (e : Ending) (w' : World) : Prop :=
  Below w.heap.size w w' ∧ if fineB l n = true then ∃ b u : Nat, e = .returned (.tuple #[.pointer (some ⟨b, 0, none⟩), .int .i64 0]) ∧ w.heap.size ≤ b ∧ w.heap.size ≤ u ∧ u ≠ b ∧ MapAt w' b u (bitsOf l n) else e = .returned (.tuple #[.pointer none, .int .i64 74])
def LoadBad (w : World) (e : Ending) (w' : World) : Prop := e = .returned (.tuple #[.pointer none, .int .i64 22]) ∧ w = w'
theorem bmLoad_bad (v : Value) (n : Int) (w : World) (h : n < 0 ∨ 65536 < n) : Calls Try.prog 65 #[v, .int .i64 n] w (LoadBad w) := by
  have K := Lib.hid (bmNew_bad n w h)
  clear h
  go_enter Try.func65, Try.ntmps65
  go_wp2_with (go_at_call 99; refine K.out.mono ?_; rintro e w' ⟨rfl, rfl⟩)
  go_ret2
  exact ⟨rfl, rfl⟩
def setTo (l : List Int) (n k : Nat) : List Bool := bitsOf l k ++ List.replicate (n - k) false
theorem setTo_len (l : List Int) (n k : Nat) (h : k ≤ n) : (setTo l n k).length = n := by simp [setTo, bitsOf_len]; omega
theorem setTo_get (l : List Int) (n k i : Nat) (h : k ≤ n) : (setTo l n k)[i]? = if i < k then some (bitOf l i) else if i < n then some false else none := by
  unfold setTo
  rw [List.getElem?_append, bitsOf_len]
  by_cases h1 : i < k
  · rw [if_pos h1, if_pos h1]; simp [bitsOf, h1]
  · rw [if_neg h1, if_neg h1, List.getElem?_replicate]
    by_cases h2 : i < n
    · rw [if_pos (by omega), if_pos h2]
    · rw [if_neg (by omega), if_neg h2]
theorem setTo_step (l : List Int) (n k : Nat) (h : k < n) : (setTo l n k).set k (bitOf l k) = setTo l n (k + 1) := by
  apply List.ext_getElem?
  intro i
  rw [List.getElem?_set, setTo_get l n k i (by omega), setTo_get l n (k + 1) i (by omega), setTo_len l n k (by omega)]
  rcases Nat.lt_trichotomy i k with hlt | rfl | hgt
  · rw [if_neg (by omega), if_pos hlt, if_pos (by omega)]
  · rw [if_pos rfl, if_pos h, if_pos (by omega)]
  · rw [if_neg (show ¬ k = i by omega), if_neg (show ¬ i < k by omega), if_neg (show ¬ i < k + 1 by omega)]
theorem bit_and1 (q t : Nat) (hq : q < 256) : (bits .and .u8 ((q : Int) / 2 ^ t) 1 == 1) = decide (q / 2 ^ t % 2 = 1) := by
  have e0 : (2 : Int) ^ t = ((2 ^ t : Nat) : Int) := by simp [Int.natCast_pow]
  have hlt : q / 2 ^ t < 256 := Nat.lt_of_le_of_lt (Nat.div_le_self _ _) hq
  have := u8_and_nat (q / 2 ^ t) 1 hlt (by omega)
  rw [e0, ← Int.natCast_ediv, show (1 : Int) = ((1 : Nat) : Int) from rfl, this, Nat.and_one_is_mod]
  generalize q / 2 ^ t % 2 = z
  by_cases h : z = 1
  · subst h; simp
  · rw [decide_eq_false h, beq_eq_false_iff_ne]; omega
theorem setTo_all (l : List Int) (n : Nat) : setTo l n n = bitsOf l n := by simp [setTo]
def BytesPost' (us : List Bool) (w : World) (e : Ending) (w' : World) : Prop := ∃ v, e = .returned v ∧ Rdv (.int .u8) w' v (pack us) ∧ Below w.heap.size w w'
theorem pack_len (us : List Bool) : (pack us).length = (us.length + 7) / 8 := packs_len _ _
theorem bmBytes' (b u : Nat) (us : List Bool) (w : World) (h : MapAt w b u us) : Calls Try.prog 66 #[.pointer (some ⟨b, 0, none⟩)] w (BytesPost' us w) := by
  refine (bmBytes b u us w h).mono ?_
  rintro e w' ⟨B, _, rfl, hb, hw⟩
  have hl := h.2.2
  refine ⟨_, rfl, ?_, hw⟩
  have := Rdv.of_blk (enc := .int .u8) hb (by rw [pack_len]; unfold maxLen; omega)
  rwa [pack_len] at this
theorem pack_byt (us : List Bool) : ∀ q ∈ pack us, 0 ≤ q ∧ q < 256 := by
  intro q hq
  simp only [pack, packs, List.mem_map] at hq
  obtain ⟨j, _, rfl⟩ := hq
  have := packB_lt us j
  omega
set_option maxHeartbeats 2000000 in
set_option maxRecDepth 100000 in
theorem bmLoad (v : Value) (l : List Int) (n : Nat) (w : World) (hn : n ≤ 65536) (h : Rdv (.int .u8) w v l) (hl : ∀ q ∈ l, 0 ≤ q ∧ q < 256) :
    Calls Try.prog 65 #[v, .int .i64 n] w (LoadPost l n w) := by
  obtain ⟨a, m, c, rfl⟩ := h.shape
  obtain ⟨rfl, h1, h2, h3⟩ := h.cap
  unfold maxLen at h2
  have HL := Lib.hid hl
  have H0 := Lib.hid h
  clear h h3 hl
  go_enter Try.func65, Try.ntmps65
  go_wp2_with fail
  refine (bmNew_ok n w hn).mono ?_
  rintro e w1 ⟨bm, um, rfl, z1, z2, hne, hm, hb⟩
  have mc := hm.1.cell (o := 0) rfl
  have mz := hm.1.lt
  have mu := hm.2.1.lt
  rw [List.length_replicate] at mc
  have HM : Hid (MapAt w1 bm um (setTo l n 0)) := Lib.hid hm
  have HB := Lib.hid hb
  clear hm hb
  go_wp2
  go_loopw [17] (fun i wr => ∃ k : Nat, k ≤ n ∧ i = .int .i64 k ∧ MapAt wr bm um (setTo l n k) ∧ Below w.heap.size w wr) (fun i _ => n - (intOf i).toNat)
  case atStart => exact ⟨0, by omega, rfl, HM.out, HB.out⟩
  case round =>
    obtain ⟨k, hk, rfl, hm, hb⟩ := hrel
    clear mc mz mu
    have mc := hm.1.cell (o := 0) rfl
    have mz := hm.1.lt
    have mu := hm.2.1.lt
    rw [setTo_len l n k hk] at mc
    have HM2 := Lib.hid hm
    have HB2 := Lib.hid hb
    by_cases hlt : k < n
    · have mf := hm.2.1.free k
      have mr := hm.row k (by rw [setTo_len l n k hk]; exact hlt)
      generalize (setTo l n k).getD k false = mrv at mr
      have hst := Lib.hid (setTo_step l n k hlt)
      by_cases hin : k / 8 < l.length
      · obtain ⟨bl, ol, rfl, hcell⟩ : ∃ bl ol, a = some ⟨bl, ol, none⟩ ∧ ∀ i, i < l.length → wr.cell? ⟨bl, ol + i, none⟩ = some (.int .u8 (l.getD i 0)) := by
          obtain ⟨a', c', e, _, _, h3⟩ := H0.out.below (hb.mono (Nat.le_refl _))
          rw [Value.slice.injEq] at e
          obtain ⟨rfl, _, _⟩ := e
          rcases h3 with rfl | h3
          · simp at hin
          · exact h3
        have hc8 := hcell (k / 8) hin
        have hq := HL.out (l.getD (k / 8) 0) (by rw [List.getD_eq_getElem?_getD, List.getElem?_eq_getElem hin]; exact List.getElem_mem hin)
        obtain ⟨q, hqe⟩ := Int.eq_ofNat_of_zero_le hq.1
        have hbit : Hid (bitOf l k = decide (q / 2 ^ (k % 8) % 2 = 1)) := Lib.hid (by unfold bitOf; rw [hqe, Int.toNat_natCast])
        rw [hqe] at hc8 hq
        have hq2 : q < 256 := by omega
        have hin1 : (k : Int) / 8 < (l.length : Int) := by omega
        clear hqe hq hcell hm hb
        go_wp2
        go_big_region
        all_goals go_wp2
        all_goals
          go_roundw
          case rel => exact ⟨k + 1, by omega, by go_num, by rw [← hst.out, hbit.out, ← bit_and1 q _ hq2]; exact (HM2.out.store hne k _).of_below (Drw.below ⟨1, rfl⟩), (HB2.out.setCell z2 _).drew⟩
          case measure => simp [intOf]; omega
      · have hbit : Hid (bitOf l k = false) := Lib.hid (bitOf_far l k (by omega))
        have hin1 : decide ((k : Int) / 8 < (l.length : Int)) = false := by simp; omega
        clear hm hb
        go_wp2
        go_big_region
        all_goals go_wp2
        all_goals
          go_roundw
          case rel => exact ⟨k + 1, by omega, by go_num, by rw [← hst.out, hbit.out]; exact (HM2.out.store hne k _).of_below (Drw.below ⟨1, rfl⟩), (HB2.out.setCell z2 _).drew⟩
          case measure => simp [intOf]; omega
    · obtain rfl : k = n := by omega
      have K1 := bmBytes' bm um _ wr hm
      rw [setTo_all] at K1
      replace K1 := Lib.hid K1
      have hbs := hb.size
      clear mc mz mu hm hb
      go_wp2_with fail
      refine K1.out.mono ?_
      rintro e w2 ⟨v2, rfl, hr2, hb2⟩
      have HB3 := Lib.hid (HB2.out.trans (hb2.mono hbs))
      have K2 := bytesEqual v2 _ _ l w2 hr2 (H0.out.below (HB3.out.mono (Nat.le_refl _))) (pack_byt _) HL.out
      rw [pack_bits l k HL.out] at K2
      have HM3 := Lib.hid (setTo_all l k ▸ HM2.out.of_below hb2)
      replace K2 := Lib.hid K2
      clear hr2 hb2
      cases hf : fineB l k
      all_goals
        rw [hf] at K2
        have HF := Lib.hid hf
        clear hf
        go_wp2_with fail
        refine K2.out.mono ?_
        rintro e w3 ⟨rfl, rfl⟩
        go_wp2
        go_ret2
      · exact ⟨HB3.out, by rw [if_neg (by rw [HF.out]; simp)]; rfl⟩
      · exact ⟨HB3.out, by rw [if_pos HF.out]; exact ⟨bm, um, rfl, z1, z2, hne, HM3.out⟩⟩
end Go.Proofs.Ytgpfkdlnmifiiaa

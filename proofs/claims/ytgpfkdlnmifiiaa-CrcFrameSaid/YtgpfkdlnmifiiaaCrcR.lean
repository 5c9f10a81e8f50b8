/- Contracts of the reference's sums and frames. -/
import Derived.Test.YtgpfkdlnmifiiaaChecked
import Derived.WalkKit
import Derived.Outline
import Derived.WalkSpells
import Derived.WalkLawsBesides
import Derived.Deep.QuietTactic
import Derived.Deep.RegionWith
import Derived.Deep.DeepMust
import Derived.BigQuiet
import Derived.Test.YtgpfkdlnmifiiaaMem
import Derived.RegionTactic
import Derived.ChangeAlike
import Derived.StillTailTactics
import Derived.Deep.LoopGhost
import Derived.Deep.RegionHeld3
import Derived.Test.YtgpfkdlnmifiiaaCrc3
namespace Go.Proofs.Ytgpfkdlnmifiiaa
open Go.RowKit
set_option linter.unusedVariables false
set_option linter.unusedSimpArgs false
theorem st1_odd (c : Nat) (hc : c < 4294967296) (h : c % 2 = 1) : bits .xor .u32 ((c : Int) / 2) 3988292384 = ((st1 c : Nat) : Int) := by
  have h3 := u32_xor_nat (c / 2) 3988292384 (by omega) (by omega)
  unfold st1
  rw [if_pos h]
  exact h3
theorem st1_evn (c : Nat) (h : ¬ c % 2 = 1) : ((c : Int) / 2) = ((st1 c : Nat) : Int) := by
  unfold st1
  rw [if_neg h]
  omega
set_option maxHeartbeats 1000000 in
theorem refOf (v : Value) (l : List Int) (w : World) (h : Rdv u8v w v l) (hb : Byt l) :
    Calls Try.prog 47 #[v] w fun e w' => e = .returned (.int .u32 (crcOf l : Nat)) ∧ w = w' := by
  obtain ⟨a, c, rfl, h1, h2, h3⟩ := h
  unfold maxLen at h2
  have HV := Lib.hid h3
  clear h3
  go_enter Try.func47, Try.ntmps47
  go_wp2
  go_loop [3, 4] (fun y i => ∃ k : Nat, k ≤ l.length ∧ i = .int .i64 k ∧ y = .int .u32 (crcR 4294967295 (l.take k) : Nat)) (fun _ i => l.length - (intOf i).toNat)
  case atStart => exact ⟨0, by omega, rfl, rfl⟩
  case round =>
    obtain ⟨k, hk, rfl, rfl⟩ := hrel
    have hR := crcR_lt (show 4294967295 < 4294967296 by omega) (l.take k) (hb.take k)
    by_cases hlt : k < l.length
    · rcases HV.out with rfl | ⟨b1, o1, rfl, hc1⟩
      · exact absurd hlt (by simp)
      have hc := hc1 k hlt
      have hstep := Lib.hid (crcR_take 4294967295 l k hlt)
      obtain ⟨q, hqe, hq⟩ := hb.at_ k hlt
      rw [hqe] at hc
      have HQ := Lib.hid hqe
      clear hc1 hqe
      generalize crcR 4294967295 (l.take k) = R at *
      have e1 := u32_xor_nat R q hR (by omega)
      have hX : R ^^^ q < 4294967296 := Nat.xor_lt_two_pow (n := 32) hR (by omega)
      have hZ := Lib.hid (hstep.out.trans (by rw [HQ.out, Int.toNat_natCast]))
      generalize R ^^^ q = X at *
      go_wp2
      go_loop [3, 5] (fun y j => ∃ i : Nat, i ≤ 8 ∧ j = .int .i64 i ∧ y = .int .u32 (stN i X : Nat)) (fun _ j => 8 - (intOf j).toNat)
      case atStart => exact ⟨0, by omega, rfl, rfl⟩
      case round =>
        obtain ⟨i, hi, rfl, rfl⟩ := hrel
        have hlt4 := stN_lt i hX
        by_cases hli : i < 8
        · by_cases h2 : stN i X % 2 = 1
          · have e2 := Lib.hid (st1_odd _ hlt4 h2)
            have hm : ((stN i X : Nat) : Int) % 2 = 1 := by omega
            clear h2
            go_wp2
            go_round
            case rel => exact ⟨i + 1, by omega, by go_num, by rw [e2.out]; rfl⟩
            case measure => simp [intOf]; omega
          · have e2 := Lib.hid (st1_evn _ h2)
            have hm : ((stN i X : Nat) : Int) % 2 = 0 := by omega
            clear h2
            go_wp2
            go_round
            case rel => exact ⟨i + 1, by omega, by go_num, by rw [e2.out]; rfl⟩
            case measure => simp [intOf]; omega
        · obtain rfl : i = 8 := by omega
          go_wp2
          go_round
          case rel => exact ⟨k + 1, by omega, by go_num, by rw [hZ.out]⟩
          case measure => simp [intOf]; omega
    · obtain rfl : k = l.length := by omega
      rw [List.take_length] at hR
      have hfl := Lib.hid (flip_bits _ hR)
      have HT : Hid (crcR 4294967295 (l.take l.length) = crcR 4294967295 l) := by rw [List.take_length]; exact rfl
      go_wp2
      go_ret
      exact ⟨ret_i (by first | exact hfl.out | (rw [HT.out]; exact hfl.out)), rfl⟩
theorem refFour (x : Nat) (hx : x < 4294967296) (w : World) : Calls Try.prog 92 #[.int .u32 (x : Int)] w fun e w' => e = .returned (.slice (some ⟨w.heap.size, 0, none⟩) 4 4) ∧ w' = w.alloc (.cells ((le4 x).map u8v).toArray 5) := by
  have h24 : Hid ((x : Int) / 16777216 = (x : Int) / 16777216 % 256) := by show (x : Int) / 16777216 = (x : Int) / 16777216 % 256; omega
  go_enter Try.func92, Try.ntmps92
  go_wp2
  go_ret
  refine ⟨rfl, ?_⟩
  unfold le4
  rw [← h24.out]
  rfl

theorem le4_row (w : World) (x : Nat) : (w.alloc (.cells ((le4 x).map u8v).toArray 5)).ownsRow w.heap.size 5 1 (.slice (some ⟨w.heap.size, 0, none⟩) 4 4) 4 ((le4 x).map u8v) :=
  ⟨by simp [le4], .inr ⟨w.heap.size, 4, _, rfl, Nat.le_refl _, heap_alloc_new w _, Nat.le_refl _, by unfold maxLen; omega, by simp [le4], by simp [le4]⟩⟩
theorem refFrameBig (v : Value) (l : List Int) (w : World) (h : Rdv u8v w v l) (hl : 1048576 < l.length) :
    Calls Try.prog 50 #[v] w fun e w' => e = .returned (.tuple #[.slice none 0 0, .int .i64 22]) ∧ w = w' := by
  obtain ⟨a, c, rfl, h1, h2, h3⟩ := h
  unfold maxLen at h2
  clear h3
  go_enter Try.func50, Try.ntmps50
  go_wp2
  go_ret2
  exact ⟨rfl, rfl⟩
set_option maxHeartbeats 2000000 in
set_option maxRecDepth 100000 in
theorem refFrameOk (v : Value) (l : List Int) (w : World) (h : Rdv u8v w v l) (hb : Byt l) (hl : l.length ≤ 1048576) :
    Calls Try.prog 50 #[v] w (FramePost w.heap.size (frameL l) w) := by
  obtain ⟨i0, hi, hz0, hz1, hz2⟩ := info_parts Try.info5
  have h0 := h
  obtain ⟨a, n, c, rfl⟩ := h.shape
  obtain ⟨rfl, h1, h2, h3⟩ := h.cap
  unfold maxLen at h2
  clear h3 h
  have hcl := crcOf_lt hb
  go_enter Try.func50, Try.ntmps50
  go_wp2_with fail
  refine (refFour l.length (by omega) w).mono ?_
  rintro e w1 ⟨rfl, rfl⟩
  have o1 := le4_row w l.length
  generalize hB : w.alloc (.cells ((le4 l.length).map u8v).toArray 5) = w1 at *
  have b1 : Below w.heap.size w w1 := by rw [← hB]; (repeat (first | exact Below.refl _ _ | (with_reducible assumption) | apply Below.drew | (refine Below.alloc ?_ (by first | exact Nat.le_refl _ | omega | (simp; done) | (simp; omega)) _) | (refine Below.setCell ?_ (by first | exact Nat.le_refl _ | omega | (simp; done) | (simp; omega)) _) | (refine Below.trans ?_ (Below.mono (by with_reducible assumption) (by first | omega | (simp; done) | (simp; omega))))))
  have hz : w1.heap.size = w.heap.size + 1 := by rw [← hB]; simp
  clear hB
  go_wp2_with fail
  refine (refOf _ _ _ (h0.below b1) hb).mono ?_
  rintro e w1' ⟨rfl, rfl⟩
  go_wp2_with fail
  refine (refFour (crcOf l) hcl w1).mono ?_
  rintro e w2 ⟨rfl, rfl⟩
  have o2 := le4_row w1 (crcOf l)
  have r2 := Rdv.of_owns o2
  have o1' := o1.alloc (.cells ((le4 (crcOf l)).map u8v).toArray 5)
  have hlt1 : ∀ k, (Value.slice (some ⟨w.heap.size, 0, none⟩) 4 4).ownBlock = some k → k < w1.heap.size := fun k hk => (o1.lt k hk).2
  generalize hB2 : w1.alloc (.cells ((le4 (crcOf l)).map u8v).toArray 5) = w2 at *
  have b2 : Below w.heap.size w w2 := by rw [← hB2]; exact b1.alloc (by omega) _
  have hz2' : w.heap.size < w2.heap.size := by rw [← hB2]; simp; omega
  clear hB2 o1 o2
  have H1 := Lib.hid hz
  clear hz
  go_wp2_with (at_builtin; refine wpList_append_rd rfl (.tmp 16) (.tmp 17) 46 rfl w.heap.size 5 i0 (.int .u8 0) 1 Try.underlying46 hi hz0 hz1 hz2 rfl (.slice (some ⟨w.heap.size, 0, none⟩) 4 4) 4 _ rfl o1' (.slice (some ⟨w1.heap.size, 0, none⟩) 4 4) u8v (le4 (crcOf l)) rfl r2 (fun _ => rfl) ?c1 ?c2 ?c3 ?_)
  case c1 => rw [le4_len]; unfold maxLen; omega
  case c2 => rw [le4_len]; omega
  case c3 => omega
  intro v3 w3 o3 g3 _
  have b3 := b2.grown g3 (by omega) (fun q hq => (o1'.lt q hq).1)
  have hr3 := h0.below b3
  have z3 := b3.size
  clear o1' r2 g3
  go_wp2_with (at_builtin; refine wpList_append_rd rfl (.tmp 18) (.tmp 19) 46 rfl w.heap.size 5 i0 (.int .u8 0) 1 Try.underlying46 hi hz0 hz1 hz2 rfl v3 _ _ rfl o3 (.slice a l.length c) u8v l rfl hr3 (fun _ => rfl) ?c1 ?c2 ?c3 ?_)
  case c1 => rw [le4_len]; unfold maxLen; omega
  case c2 => rw [le4_len]; omega
  case c3 => exact z3
  intro v4 w4 o4 g4 _
  have b4 := b3.grown g4 z3 (fun q hq => (o3.lt q hq).1)
  have HO := Lib.hid o4
  clear o4 o3 g4 hr3
  go_wp2
  go_ret2
  refine ⟨v4, rfl, ?_, b4⟩
  have := HO.out
  have e : (frameL l).length = 4 + (le4 (crcOf l)).length + l.length := by simp [frameL, le4_len]; omega
  rw [e, frameL, List.map_append, List.map_append]
  exact this
end Go.Proofs.Ytgpfkdlnmifiiaa

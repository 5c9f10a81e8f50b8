/- Contracts of the reference's sums and frames. The reference's Unframe. Frames: what bytes are read as (plain). Frames: the reference's May. The laws of layer 2: their walks. -/
import Derived.Test.YthbalmoafpggdaaGreatChecked
import Derived.WalkKit
import Derived.Outline
import Derived.WalkSpells
import Derived.WalkLawsBesides
import Derived.Deep.QuietTactic
import Derived.Deep.RegionWith
import Derived.Deep.DeepMust
import Derived.BigQuiet
import Derived.RegionTactic
import Derived.ChangeAlike
import Derived.StillTailTactics
import Derived.Deep.LoopGhost
import Derived.Deep.RegionHeld3
import Derived.Test.YthbalmoafpggdaaGreatM1
import Derived.Test.YthbalmoafpggdaaGreatM15
import Derived.Test.YthbalmoafpggdaaGreatM12
import Derived.Test.YthbalmoafpggdaaGreatM14
import Derived.Test.YthbalmoafpggdaaGreatM4
namespace Go.Proofs.YthbalmoafpggdaaGreat
open Go.RowKit
set_option linter.unusedVariables false
set_option linter.unusedSimpArgs false
theorem st1_odd (c : Nat) (hc : c < 4294967296) (h : c % 2 = 1) : bits .xor .u32 ((c : Int) / 2) 3988292384 = ((st1 c : Nat) : Int) := by
  have h3 := u32_xor_nat (c / 2) 3988292384 (by omega) (by omega)
  unfold st1
  rw [if_pos h]
  exact h3
theorem st1_evn (c : Nat) (h : ¬ c % 2 = 1) : ((c : Int) / 2) = ((st1 c : Nat) : Int) := by
  unfold st1
  rw [if_neg h]
  omega
set_option maxHeartbeats 1000000 in
theorem refOf (v : Value) (l : List Int) (w : World) (h : Rdv u8v w v l) (hb : Byt l) :
    Calls Tryz.prog 61 #[v] w fun e w' => e = .returned (.int .u32 (crcOf l : Nat)) ∧ w = w' := by
  obtain ⟨a, c, rfl, h1, h2, h3⟩ := h
  unfold maxLen at h2
  have HV := Lib.hid h3
  clear h3
  go_enter Tryz.func61, Tryz.ntmps61
  go_wp2
  go_loop [3, 4] (fun y i => ∃ k : Nat, k ≤ l.length ∧ i = .int .i64 k ∧ y = .int .u32 (crcR 4294967295 (l.take k) : Nat)) (fun _ i => l.length - (intOf i).toNat)
  case atStart => exact ⟨0, by omega, rfl, rfl⟩
  case round =>
    obtain ⟨k, hk, rfl, rfl⟩ := hrel
    have hR := crcR_lt (show 4294967295 < 4294967296 by omega) (l.take k) (hb.take k)
    by_cases hlt : k < l.length
    · rcases HV.out with rfl | ⟨b1, o1, rfl, hc1⟩
      · exact absurd hlt (by simp)
      have hc := hc1 k hlt
      have hstep := Lib.hid (crcR_take 4294967295 l k hlt)
      obtain ⟨q, hqe, hq⟩ := hb.at_ k hlt
      rw [hqe] at hc
      have HQ := Lib.hid hqe
      clear hc1 hqe
      generalize crcR 4294967295 (l.take k) = R at *
      have e1 := u32_xor_nat R q hR (by omega)
      have hX : R ^^^ q < 4294967296 := Nat.xor_lt_two_pow (n := 32) hR (by omega)
      have hZ := Lib.hid (hstep.out.trans (by rw [HQ.out, Int.toNat_natCast]))
      generalize R ^^^ q = X at *
      go_wp2
      go_loop [3, 5] (fun y j => ∃ i : Nat, i ≤ 8 ∧ j = .int .i64 i ∧ y = .int .u32 (stN i X : Nat)) (fun _ j => 8 - (intOf j).toNat)
      case atStart => exact ⟨0, by omega, rfl, rfl⟩
      case round =>
        obtain ⟨i, hi, rfl, rfl⟩ := hrel
        have hlt4 := stN_lt i hX
        by_cases hli : i < 8
        · by_cases h2 : stN i X % 2 = 1
          · have e2 := Lib.hid (st1_odd _ hlt4 h2)
            have hm : ((stN i X : Nat) : Int) % 2 = 1 := by omega
            clear h2
            go_wp2
            go_round
            case rel => exact ⟨i + 1, by omega, by go_num, by rw [e2.out]; rfl⟩
            case measure => simp [intOf]; omega
          · have e2 := Lib.hid (st1_evn _ h2)
            have hm : ((stN i X : Nat) : Int) % 2 = 0 := by omega
            clear h2
            go_wp2
            go_round
            case rel => exact ⟨i + 1, by omega, by go_num, by rw [e2.out]; rfl⟩
            case measure => simp [intOf]; omega
        · obtain rfl : i = 8 := by omega
          go_wp2
          go_round
          case rel => exact ⟨k + 1, by omega, by go_num, by rw [hZ.out]⟩
          case measure => simp [intOf]; omega
    · obtain rfl : k = l.length := by omega
      rw [List.take_length] at hR
      have hfl := Lib.hid (flip_bits _ hR)
      have HT : Hid (crcR 4294967295 (l.take l.length) = crcR 4294967295 l) := by rw [List.take_length]; exact rfl
      go_wp2
      go_ret
      exact ⟨ret_i (by first | exact hfl.out | (rw [HT.out]; exact hfl.out)), rfl⟩
theorem refFour (x : Nat) (hx : x < 4294967296) (w : World) : Calls Tryz.prog 60 #[.int .u32 (x : Int)] w fun e w' => e = .returned (.slice (some ⟨w.heap.size, 0, none⟩) 4 4) ∧ w' = w.alloc (.cells ((le4 x).map u8v).toArray 5) := by
  have h24 : Hid ((x : Int) / 16777216 = (x : Int) / 16777216 % 256) := by show (x : Int) / 16777216 = (x : Int) / 16777216 % 256; omega
  go_enter Tryz.func60, Tryz.ntmps60
  go_wp2
  go_ret
  refine ⟨rfl, ?_⟩
  unfold le4
  rw [← h24.out]
  rfl

theorem le4_row (w : World) (x : Nat) : (w.alloc (.cells ((le4 x).map u8v).toArray 5)).ownsRow w.heap.size 5 1 (.slice (some ⟨w.heap.size, 0, none⟩) 4 4) 4 ((le4 x).map u8v) :=
  ⟨by simp [le4], .inr ⟨w.heap.size, 4, _, rfl, Nat.le_refl _, heap_alloc_new w _, Nat.le_refl _, by unfold maxLen; omega, by simp [le4], by simp [le4]⟩⟩
theorem refFrameBig (v : Value) (l : List Int) (w : World) (h : Rdv u8v w v l) (hl : 1048576 < l.length) :
    Calls Tryz.prog 23 #[v] w fun e w' => e = .returned (.tuple #[.slice none 0 0, .int .i64 22]) ∧ w = w' := by
  obtain ⟨a, c, rfl, h1, h2, h3⟩ := h
  unfold maxLen at h2
  clear h3
  go_enter Tryz.func23, Tryz.ntmps23
  go_wp2
  go_ret2
  exact ⟨rfl, rfl⟩
set_option maxHeartbeats 2000000 in
set_option maxRecDepth 100000 in
theorem refFrameOk (v : Value) (l : List Int) (w : World) (h : Rdv u8v w v l) (hb : Byt l) (hl : l.length ≤ 1048576) :
    Calls Tryz.prog 23 #[v] w (FramePost w.heap.size (frameL l) w) := by
  obtain ⟨i0, hi, hz0, hz1, hz2⟩ := info_parts Tryz.info5
  have h0 := h
  obtain ⟨a, n, c, rfl⟩ := h.shape
  obtain ⟨rfl, h1, h2, h3⟩ := h.cap
  unfold maxLen at h2
  clear h3 h
  have hcl := crcOf_lt hb
  go_enter Tryz.func23, Tryz.ntmps23
  go_wp2_with fail
  refine (refFour l.length (by omega) w).mono ?_
  rintro e w1 ⟨rfl, rfl⟩
  have o1 := le4_row w l.length
  generalize hB : w.alloc (.cells ((le4 l.length).map u8v).toArray 5) = w1 at *
  have b1 : Below w.heap.size w w1 := by rw [← hB]; (repeat (first | exact Below.refl _ _ | (with_reducible assumption) | apply Below.drew | (refine Below.alloc ?_ (by first | exact Nat.le_refl _ | omega | (simp; done) | (simp; omega)) _) | (refine Below.setCell ?_ (by first | exact Nat.le_refl _ | omega | (simp; done) | (simp; omega)) _) | (refine Below.trans ?_ (Below.mono (by with_reducible assumption) (by first | omega | (simp; done) | (simp; omega))))))
  have hz : w1.heap.size = w.heap.size + 1 := by rw [← hB]; simp
  clear hB
  go_wp2_with fail
  refine (refOf _ _ _ (h0.below b1) hb).mono ?_
  rintro e w1' ⟨rfl, rfl⟩
  go_wp2_with fail
  refine (refFour (crcOf l) hcl w1).mono ?_
  rintro e w2 ⟨rfl, rfl⟩
  have o2 := le4_row w1 (crcOf l)
  have r2 := Rdv.of_owns o2
  have o1' := o1.alloc (.cells ((le4 (crcOf l)).map u8v).toArray 5)
  have hlt1 : ∀ k, (Value.slice (some ⟨w.heap.size, 0, none⟩) 4 4).ownBlock = some k → k < w1.heap.size := fun k hk => (o1.lt k hk).2
  generalize hB2 : w1.alloc (.cells ((le4 (crcOf l)).map u8v).toArray 5) = w2 at *
  have b2 : Below w.heap.size w w2 := by rw [← hB2]; exact b1.alloc (by omega) _
  have hz2' : w.heap.size < w2.heap.size := by rw [← hB2]; simp; omega
  clear hB2 o1 o2
  have H1 := Lib.hid hz
  clear hz
  go_wp2_with (at_builtin; refine wpList_append_rd rfl (.tmp 16) (.tmp 17) 30 rfl w.heap.size 5 i0 (.int .u8 0) 1 Tryz.underlying30 hi hz0 hz1 hz2 rfl (.slice (some ⟨w.heap.size, 0, none⟩) 4 4) 4 _ rfl o1' (.slice (some ⟨w1.heap.size, 0, none⟩) 4 4) u8v (le4 (crcOf l)) rfl r2 (fun _ => rfl) ?c1 ?c2 ?c3 ?_)
  case c1 => rw [le4_len]; unfold maxLen; omega
  case c2 => rw [le4_len]; omega
  case c3 => omega
  intro v3 w3 o3 g3 _
  have b3 := b2.grown g3 (by omega) (fun q hq => (o1'.lt q hq).1)
  have hr3 := h0.below b3
  have z3 := b3.size
  clear o1' r2 g3
  go_wp2_with (at_builtin; refine wpList_append_rd rfl (.tmp 18) (.tmp 19) 30 rfl w.heap.size 5 i0 (.int .u8 0) 1 Tryz.underlying30 hi hz0 hz1 hz2 rfl v3 _ _ rfl o3 (.slice a l.length c) u8v l rfl hr3 (fun _ => rfl) ?c1 ?c2 ?c3 ?_)
  case c1 => rw [le4_len]; unfold maxLen; omega
  case c2 => rw [le4_len]; omega
  case c3 => exact z3
  intro v4 w4 o4 g4 _
  have b4 := b3.grown g4 z3 (fun q hq => (o3.lt q hq).1)
  have HO := Lib.hid o4
  clear o4 o3 g4 hr3
  go_wp2
  go_ret2
  refine ⟨v4, rfl, ?_, b4⟩
  have := HO.out
  have e : (frameL l).length = 4 + (le4 (crcOf l)).length + l.length := by simp [frameL, le4_len]; omega
  rw [e, frameL, List.map_append, List.map_append]
  exact this
end Go.Proofs.YthbalmoafpggdaaGreat
namespace Go.Proofs.YthbalmoafpggdaaGreat
open Go.RowKit
set_option linter.unusedVariables false
set_option linter.unusedSimpArgs false
theorem refU_short (v : Value) (l : List Int) (w : World) (h : Rdv u8v w v l) (hl : l.length < 8) :
    Calls Tryz.prog 44 #[v] w (UnfPost [] 0 22 w) := by
  obtain ⟨a, m, c, rfl⟩ := h.shape
  obtain ⟨rfl, h1, h2, h3⟩ := h.cap
  unfold maxLen at h2
  clear h3 h
  go_enter Tryz.func44, Tryz.ntmps44
  go_wp2
  go_ret3
  exact ⟨_, rfl, Rdv.nil _ _, Below.refl _ _⟩
theorem refU_long1 (b o m c n : Nat) (w : World) (K : Hid (Calls Tryz.prog 85 #[.slice (some ⟨b, o, none⟩) 4 c] w fun e w' => e = .returned (.int .i64 (n : Int)) ∧ Drw w w')) (h8 : 8 ≤ m) (hc : m ≤ c) (h2 : c ≤ 9223372036854775807) (hlt : n < 4294967296) (hg : 1048576 < n) :
    Calls Tryz.prog 44 #[.slice (some ⟨b, o, none⟩) m c] w (UnfPost [] 0 22 w) := by
  have n0 : ¬ c = 0 := by omega
  go_enter Tryz.func44, Tryz.ntmps44
  go_wp2_with (go_at_call 85; refine K.out.mono ?_; rintro e w' ⟨rfl, nd, rfl⟩)
  go_ret3
  exact ⟨_, rfl, Rdv.nil _ _, (Drw.below ⟨nd, rfl⟩)⟩
theorem refU_long2 (b o m c n : Nat) (w : World) (K : Hid (Calls Tryz.prog 85 #[.slice (some ⟨b, o, none⟩) 4 c] w fun e w' => e = .returned (.int .i64 (n : Int)) ∧ Drw w w')) (h8 : 8 ≤ m) (hc : m ≤ c) (h2 : c ≤ 9223372036854775807) (hlt : n ≤ 1048576) (hg : m < n + 8) :
    Calls Tryz.prog 44 #[.slice (some ⟨b, o, none⟩) m c] w (UnfPost [] 0 22 w) := by
  have n0 : ¬ c = 0 := by omega
  go_enter Tryz.func44, Tryz.ntmps44
  go_wp2_with (go_at_call 85; refine K.out.mono ?_; rintro e w' ⟨rfl, nd, rfl⟩)
  go_ret3
  exact ⟨_, rfl, Rdv.nil _ _, (Drw.below ⟨nd, rfl⟩)⟩
set_option maxHeartbeats 2000000 in
set_option maxRecDepth 100000 in
theorem refU_bad (b o m c n s g : Nat) (r : List Int) (w : World) (K : Hid (Calls Tryz.prog 85 #[.slice (some ⟨b, o, none⟩) 4 c] w fun e w' => e = .returned (.int .i64 (n : Int)) ∧ Drw w w'))
    (KN : Hid (∀ w', Below w.heap.size w w' → Calls Tryz.prog 85 #[.slice (some ⟨b, o + 4, none⟩) 4 (c - 4)] w' fun e w2 => e = .returned (.int .i64 (g : Int)) ∧ Drw w' w2))
    (KO : Hid (∀ w', Below w.heap.size w w' → Calls Tryz.prog 61 #[.slice (some ⟨b, o + 8, none⟩) n (c - 8)] w' fun e w2 => e = .returned (.int .u32 (s : Int)) ∧ w' = w2))
    (hh : ∀ w', Below w.heap.size w w' → Rdv u8v w' (.slice (some ⟨b, o + 8, none⟩) n (c - 8)) r) (hrl : r.length = n)
    (h8 : 8 ≤ m) (hc : m ≤ c) (hc8 : ¬ c = 8) (h2 : c ≤ 9223372036854775807) (hlt : n ≤ 1048576) (hs : s < 4294967296) (hg : n + 8 ≤ m) (he : ((g : Int) != (s : Int)) = true) :
    Calls Tryz.prog 44 #[.slice (some ⟨b, o, none⟩) m c] w (UnfPost [] 0 74 w) := by
  obtain ⟨i0, hi, hz0, hz1, hz2⟩ := info_parts Tryz.info5
  have n0 : ¬ c = 0 := by omega
  have n4 : ¬ c = 4 := by omega
  have HH := Lib.hid hh
  clear hh
  go_enter Tryz.func44, Tryz.ntmps44
  go_wp2_with fail
  refine K.out.mono ?_
  rintro e w1 ⟨rfl, nd, rfl⟩
  have b1 : Below w.heap.size w (w.drewN nd) := Drw.below ⟨nd, rfl⟩
  go_wp2_with fail
  refine (KN.out _ b1).mono ?_
  rintro e w1 ⟨rfl, nd2, rfl⟩
  have b2 : Below w.heap.size w (w.drewN (nd + nd2)) := Drw.below ⟨_, rfl⟩
  go_wp2_with fail
  refine (KO.out _ b2).mono ?_
  rintro e w1 ⟨rfl, rfl⟩
  go_wp2
  go_ret3
  exact ⟨_, rfl, Rdv.nil _ _, b2⟩
set_option maxHeartbeats 2000000 in
set_option maxRecDepth 100000 in
theorem refU_bad8 (b o s g : Nat) (w : World) (K : Hid (Calls Tryz.prog 85 #[.slice (some ⟨b, o, none⟩) 4 8] w fun e w' => e = .returned (.int .i64 0) ∧ Drw w w'))
    (KN : Hid (∀ w', Below w.heap.size w w' → Calls Tryz.prog 85 #[.slice (some ⟨b, o + 4, none⟩) 4 4] w' fun e w2 => e = .returned (.int .i64 (g : Int)) ∧ Drw w' w2))
    (KO : Hid (∀ w', Below w.heap.size w w' → Calls Tryz.prog 61 #[.slice (some ⟨b, o, none⟩) 0 0] w' fun e w2 => e = .returned (.int .u32 (s : Int)) ∧ w' = w2))
    (hh : ∀ w', Below w.heap.size w w' → Rdv u8v w' (.slice (some ⟨b, o, none⟩) 0 0) [])
    (hs : s < 4294967296) (he : ((g : Int) != (s : Int)) = true) :
    Calls Tryz.prog 44 #[.slice (some ⟨b, o, none⟩) 8 8] w (UnfPost [] 0 74 w) := by
  obtain ⟨i0, hi, hz0, hz1, hz2⟩ := info_parts Tryz.info5
  have HH := Lib.hid hh
  clear hh
  go_enter Tryz.func44, Tryz.ntmps44
  go_wp2_with fail
  refine K.out.mono ?_
  rintro e w1 ⟨rfl, nd, rfl⟩
  have b1 : Below w.heap.size w (w.drewN nd) := Drw.below ⟨nd, rfl⟩
  go_wp2_with fail
  refine (KN.out _ b1).mono ?_
  rintro e w1 ⟨rfl, nd2, rfl⟩
  have b2 : Below w.heap.size w (w.drewN (nd + nd2)) := Drw.below ⟨_, rfl⟩
  go_wp2_with fail
  refine (KO.out _ b2).mono ?_
  rintro e w1 ⟨rfl, rfl⟩
  go_wp2
  go_ret3
  exact ⟨_, rfl, Rdv.nil _ _, b2⟩
set_option maxHeartbeats 2000000 in
set_option maxRecDepth 100000 in
theorem refU_good (b o m c n s g : Nat) (r : List Int) (w : World) (K : Hid (Calls Tryz.prog 85 #[.slice (some ⟨b, o, none⟩) 4 c] w fun e w' => e = .returned (.int .i64 (n : Int)) ∧ Drw w w'))
    (KN : Hid (∀ w', Below w.heap.size w w' → Calls Tryz.prog 85 #[.slice (some ⟨b, o + 4, none⟩) 4 (c - 4)] w' fun e w2 => e = .returned (.int .i64 (g : Int)) ∧ Drw w' w2))
    (KO : Hid (∀ w', Below w.heap.size w w' → Calls Tryz.prog 61 #[.slice (some ⟨b, o + 8, none⟩) n (c - 8)] w' fun e w2 => e = .returned (.int .u32 (s : Int)) ∧ w' = w2))
    (hh : ∀ w', Below w.heap.size w w' → Rdv u8v w' (.slice (some ⟨b, o + 8, none⟩) n (c - 8)) r) (hrl : r.length = n)
    (h8 : 8 ≤ m) (hc : m ≤ c) (hc8 : ¬ c = 8) (h2 : c ≤ 9223372036854775807) (hlt : n ≤ 1048576) (hs : s < 4294967296) (hg : n + 8 ≤ m) (he : ((g : Int) != (s : Int)) = false) :
    Calls Tryz.prog 44 #[.slice (some ⟨b, o, none⟩) m c] w (UnfPost r (8 + n) 0 w) := by
  obtain ⟨i0, hi, hz0, hz1, hz2⟩ := info_parts Tryz.info5
  have n0 : ¬ c = 0 := by omega
  have n4 : ¬ c = 4 := by omega
  have HH := Lib.hid hh
  clear hh
  go_enter Tryz.func44, Tryz.ntmps44
  go_wp2_with fail
  refine K.out.mono ?_
  rintro e w1 ⟨rfl, nd, rfl⟩
  have b1 : Below w.heap.size w (w.drewN nd) := Drw.below ⟨nd, rfl⟩
  go_wp2_with fail
  refine (KN.out _ b1).mono ?_
  rintro e w1 ⟨rfl, nd2, rfl⟩
  have b2 : Below w.heap.size w (w.drewN (nd + nd2)) := Drw.below ⟨_, rfl⟩
  go_wp2_with fail
  refine (KO.out _ b2).mono ?_
  rintro e w1 ⟨rfl, rfl⟩
  have h0 := Lib.hid (HH.out _ b2)
  go_wp2_with (at_builtin; refine wpList_append_rd rfl _ _ 30 rfl w.heap.size 5 i0 (.int .u8 0) 1 Tryz.underlying30 hi hz0 hz1 hz2 rfl (.slice none 0 0) 0 [] rfl (World.ownsRow_nil _ _ _ _) _ u8v r rfl h0.out (fun _ => rfl) ?c1 ?c2 ?c3 ?_)
  case c1 => unfold maxLen; omega
  case c2 => omega
  case c3 => exact b2.size
  intro v4 w4 o4 g4 _
  have b4 := b2.grown g4 b2.size (fun q hq => by simp [Value.ownBlock] at hq)
  have r4 : Rdv u8v w4 v4 r := Rdv.of_owns (enc := u8v) (xs := r) o4
  clear o4 g4
  go_wp2
  go_ret3
  exact ⟨_, rfl, r4, b4⟩
set_option maxHeartbeats 2000000 in
set_option maxRecDepth 100000 in
theorem refU_good8 (b o s g : Nat) (w : World) (K : Hid (Calls Tryz.prog 85 #[.slice (some ⟨b, o, none⟩) 4 8] w fun e w' => e = .returned (.int .i64 0) ∧ Drw w w'))
    (KN : Hid (∀ w', Below w.heap.size w w' → Calls Tryz.prog 85 #[.slice (some ⟨b, o + 4, none⟩) 4 4] w' fun e w2 => e = .returned (.int .i64 (g : Int)) ∧ Drw w' w2))
    (KO : Hid (∀ w', Below w.heap.size w w' → Calls Tryz.prog 61 #[.slice (some ⟨b, o, none⟩) 0 0] w' fun e w2 => e = .returned (.int .u32 (s : Int)) ∧ w' = w2))
    (hh : ∀ w', Below w.heap.size w w' → Rdv u8v w' (.slice (some ⟨b, o, none⟩) 0 0) [])
    (hs : s < 4294967296) (he : ((g : Int) != (s : Int)) = false) :
    Calls Tryz.prog 44 #[.slice (some ⟨b, o, none⟩) 8 8] w (UnfPost [] 8 0 w) := by
  obtain ⟨i0, hi, hz0, hz1, hz2⟩ := info_parts Tryz.info5
  have HH := Lib.hid hh
  clear hh
  go_enter Tryz.func44, Tryz.ntmps44
  go_wp2_with fail
  refine K.out.mono ?_
  rintro e w1 ⟨rfl, nd, rfl⟩
  have b1 : Below w.heap.size w (w.drewN nd) := Drw.below ⟨nd, rfl⟩
  go_wp2_with fail
  refine (KN.out _ b1).mono ?_
  rintro e w1 ⟨rfl, nd2, rfl⟩
  have b2 : Below w.heap.size w (w.drewN (nd + nd2)) := Drw.below ⟨_, rfl⟩
  go_wp2_with fail
  refine (KO.out _ b2).mono ?_
  rintro e w1 ⟨rfl, rfl⟩
  have h0 := Lib.hid (HH.out _ b2)
  go_wp2_with (at_builtin; refine wpList_append_rd rfl _ _ 30 rfl w.heap.size 5 i0 (.int .u8 0) 1 Tryz.underlying30 hi hz0 hz1 hz2 rfl (.slice none 0 0) 0 [] rfl (World.ownsRow_nil _ _ _ _) _ u8v [] rfl h0.out (fun _ => rfl) ?c1 ?c2 ?c3 ?_)
  case c1 => simp
  case c2 => simp
  case c3 => exact b2.size
  intro v4 w4 o4 g4 _
  have b4 := b2.grown g4 b2.size (fun q hq => by simp [Value.ownBlock] at hq)
  have r4 : Rdv u8v w4 v4 [] := Rdv.of_owns (enc := u8v) (xs := []) o4
  clear o4 g4
  go_wp2
  go_ret3
  exact ⟨_, rfl, r4, b4⟩
theorem get4_take (l : List Int) (h : 4 ≤ l.length) : get4 (l.take 4) = get4 l := by
  unfold get4
  simp [List.getD_eq_getElem?_getD, List.getElem?_take_of_lt]
theorem refUnframe (v : Value) (l : List Int) (w : World) (h : Rdv u8v w v l) (hb : Byt l) :
    Calls Tryz.prog 44 #[v] w (UnfPost (unfL l).1 (unfL l).2.1 (unfL l).2.2 w) := by
  rw [unfL_if]
  by_cases h8 : l.length < 8
  · have e : ∀ n s g r, unfIf l.length n s g r = ([], 0, 22) := fun n s g r => by unfold unfIf; rw [if_pos h8]
    rw [e]
    exact refU_short v l w h h8
  obtain ⟨a, m, c, rfl⟩ := h.shape
  obtain ⟨rfl, h1, h2, h3⟩ := h.cap
  unfold maxLen at h2
  obtain ⟨b, o, rfl⟩ := h3 (fun e => by rw [e] at h8; simp at h8)
  have hd8 := h.drop 8 (by omega)
  have hd4 := h.drop 4 (by omega)
  have ht4 := h.take 4 c (by omega) (by omega) (Nat.le_refl _)
  have hd44 := hd4.take 4 (c - 4) (by omega) (by omega) (Nat.le_refl _)
  have K := crcRefNum _ _ w ht4 (hb.take 4) (by simp; omega)
  rw [get4_take l (by omega)] at K
  have KN : ∀ w', Below w.heap.size w w' → Calls Tryz.prog 85 #[.slice (some ⟨b, o + 4, none⟩) 4 (c - 4)] w' fun e w2 => e = .returned (.int .i64 (get4 (l.drop 4) : Nat)) ∧ Drw w' w2 := by
    intro w' hbw
    have := crcRefNum _ _ w' (hd44.below hbw) ((hb.drop 4).take 4) (by simp; omega)
    rwa [get4_take _ (by simp; omega)] at this
  have hlt := get4_lt hb
  by_cases hg : 1048576 < get4 l ∨ l.length < get4 l + 8
  · have e : ∀ s g r, unfIf l.length (get4 l) s g r = ([], 0, 22) := fun s g r => by unfold unfIf; rw [if_neg h8, if_pos hg]
    rw [e]
    clear e KN
    generalize get4 l = n at *
    by_cases hg1 : 1048576 < n
    · exact refU_long1 b o _ c n w (Lib.hid K) (by omega) h1 h2 hlt hg1
    · exact refU_long2 b o _ c n w (Lib.hid K) (by omega) h1 h2 (by omega) (by omega)
  have E : ∀ s g r, unfIf l.length (get4 l) s g r = if s = g then (r, 8 + get4 l, 0) else ([], 0, 74) := fun s g r => by unfold unfIf; rw [if_neg h8, if_neg hg]
  rw [E]
  clear E
  generalize get4 l = n at *
  have hcl := crcOf_lt ((hb.drop 8).take n)
  by_cases hc8 : c = 8
  · have hl8 : l.length = 8 := by omega
    have hn0 : n = 0 := by omega
    subst hc8
    subst hn0
    rw [hl8] at h ⊢
    have e0 : (l.drop 8).take 0 = [] := by simp
    rw [e0] at hcl ⊢
    have KO : ∀ w', Below w.heap.size w w' → Calls Tryz.prog 61 #[.slice (some ⟨b, o, none⟩) 0 0] w' fun e w2 => e = .returned (.int .u32 (crcOf [] : Nat)) ∧ w' = w2 :=
      fun w' _ => refOf _ _ w' (Rdv.empty u8v _ _ 0 (Nat.zero_le _)) (fun q hq => by cases hq)
    have hh : ∀ w', Below w.heap.size w w' → Rdv u8v w' (.slice (some ⟨b, o, none⟩) 0 0) [] := fun w' _ => Rdv.empty u8v _ _ 0 (Nat.zero_le _)
    generalize crcOf [] = s at *
    generalize get4 (l.drop 4) = g at *
    by_cases he : s = g
    · rw [if_pos he]
      exact refU_good8 b o s g w (Lib.hid K) (Lib.hid KN) (Lib.hid KO) hh hcl (by simp [he])
    · rw [if_neg he]
      exact refU_bad8 b o s g w (Lib.hid K) (Lib.hid KN) (Lib.hid KO) hh hcl (by simp; omega)
  have hh := hd8.take n (c - 8) (by omega) (by omega) (Nat.le_refl _)
  have KO : ∀ w', Below w.heap.size w w' → Calls Tryz.prog 61 #[.slice (some ⟨b, o + 8, none⟩) n (c - 8)] w' fun e w2 => e = .returned (.int .u32 (crcOf ((l.drop 8).take n) : Nat)) ∧ w' = w2 :=
    fun w' hbw => refOf _ _ w' (hh.below hbw) ((hb.drop 8).take n)
  have hln : ((l.drop 8).take n).length = n := by simp; omega
  have hh' : ∀ w', Below w.heap.size w w' → Rdv u8v w' (.slice (some ⟨b, o + 8, none⟩) n (c - 8)) ((l.drop 8).take n) := fun w' hbw => hh.below hbw
  generalize (l.drop 8).take n = r at *
  generalize crcOf r = s at *
  generalize get4 (l.drop 4) = g at *
  by_cases he : s = g
  · rw [if_pos he]
    exact refU_good b o _ c n s g r w (Lib.hid K) (Lib.hid KN) (Lib.hid KO) hh' hln (by omega) h1 hc8 h2 (by omega) hcl (by omega) (by simp [he])
  · rw [if_neg he]
    exact refU_bad b o _ c n s g r w (Lib.hid K) (Lib.hid KN) (Lib.hid KO) hh' hln (by omega) h1 hc8 h2 (by omega) hcl (by omega) (by simp; omega)
end Go.Proofs.YthbalmoafpggdaaGreat
namespace Go.Proofs.YthbalmoafpggdaaGreat
open Go.RowKit
set_option linter.unusedVariables false
set_option linter.unusedSimpArgs false
/-- The numbers of a frame's head, its end mark, its vector, how many operations it has, what is left. -/
structure HdS where
  k : Nat
  a : Nat
  b : Nat
  ss : Nat
  sq : Nat
  last : Bool
  vec : List Int
  many : Nat
  rest : RS
def hdR (l : List Int) : HdS :=
  let a1 := numS (some l)
  let a2 := numS a1.2
  let a3 := numS a2.2
  let a4 := numS a3.2
  let a5 := numS a4.2
  let a6 := truthS a5.2
  let a7 := vecS a6.2
  let a8 := numS a7.2
  ⟨a1.1, a2.1, a3.1, a4.1, a5.1, a6.1, a7.1, a8.1, a8.2⟩
/-- Some operations, each behind its length. -/
def opsS : Nat → List Int → Option (List Opr × List Int)
  | 0, l => some ([], l)
  | n + 1, l => match numS (some l) with
    | (_, none) => none
    | (x, some r) => if x ≤ r.length ∧ decB (r.take x) = true then (opsS n (r.drop x)).map fun q => (decO (r.take x) :: q.1, q.2) else none
def hdF (h : HdS) (os : List Opr) : Frm := ⟨h.k, h.a, h.b, h.ss, h.sq, h.last, h.vec, os⟩
def decP (l : List Int) : Option Frm :=
  match (hdR l).rest with
  | none => none
  | some r => if 8 < (hdR l).many then none else match opsS (hdR l).many r with
    | none => none
    | some q => if q.2 = [] ∧ fMayB (hdF (hdR l) q.1) = true then some (hdF (hdR l) q.1) else none
/-- Bytes as a frame. -/
def decF (l : List Int) : Option Frm := if (unfL l).2.2 = 0 ∧ (unfL l).2.1 = l.length then decP (unfL l).1 else none
theorem decP_bad {l : List Int} (h : (hdR l).rest = none) : decP l = none := by unfold decP; rw [h]
theorem decP_many {l : List Int} (h : 8 < (hdR l).many) : decP l = none := by
  unfold decP
  split
  · rfl
  · rw [if_pos h]
theorem decP_head {l : List Int} (h : ∀ os, fMayB (hdF (hdR l) os) = false) : decP l = none := by
  unfold decP
  split
  · rfl
  split
  · rfl
  split
  · rfl
  · rw [if_neg (fun hh => by rw [h] at hh; cases hh.2)]
theorem decP_ops {l r : List Int} (h : (hdR l).rest = some r) (h2 : opsS (hdR l).many r = none) : decP l = none := by
  unfold decP
  rw [h]
  simp only [h2]
  split <;> rfl
theorem decP_end {l r left : List Int} {os : List Opr} (h : (hdR l).rest = some r) (h8 : ¬ 8 < (hdR l).many) (h2 : opsS (hdR l).many r = some (os, left)) : decP l = if left = [] ∧ fMayB (hdF (hdR l) os) = true then some (hdF (hdR l) os) else none := by
  unfold decP
  rw [h]
  simp only [h2, if_neg h8]
/-- In the midst of the operations: those that were read, how many there are to come, what is left. -/
def midS (n : Nat) (l : List Int) (os : List Opr) : Option (List Opr × List Int) := (opsS n l).map fun q => (os ++ q.1, q.2)
theorem midS_start (n : Nat) (l : List Int) : midS n l [] = opsS n l := by
  unfold midS
  cases opsS n l <;> simp
theorem midS_end (l : List Int) (os : List Opr) : midS 0 l os = some (os, l) := by simp [midS, opsS]
theorem midS_bad {n : Nat} {l : List Int} {os : List Opr} {x : Nat} (h : numS (some l) = (x, none)) : midS (n + 1) l os = none := by
  unfold midS opsS
  rw [h]
  rfl
theorem midS_long {n : Nat} {l r : List Int} {os : List Opr} {x : Nat} (h : numS (some l) = (x, some r)) (h2 : r.length < x) : midS (n + 1) l os = none := by
  unfold midS opsS
  rw [h]
  simp only
  rw [if_neg (by omega)]
  rfl
theorem midS_dec {n : Nat} {l r : List Int} {os : List Opr} {x : Nat} (h : numS (some l) = (x, some r)) (h2 : decB (r.take x) = false) : midS (n + 1) l os = none := by
  unfold midS opsS
  rw [h]
  simp only
  rw [if_neg (fun hh => by rw [h2] at hh; cases hh.2)]
  rfl
theorem midS_step {n : Nat} {l r : List Int} {os : List Opr} {x : Nat} (h : numS (some l) = (x, some r)) (h1 : x ≤ r.length) (h2 : decB (r.take x) = true) : midS (n + 1) l os = midS n (r.drop x) (os ++ [decO (r.take x)]) := by
  unfold midS
  rw [opsS, h]
  simp only
  rw [if_pos ⟨h1, h2⟩]
  cases opsS n (r.drop x) <;> simp
/-- What is left is an end of what there was. -/
theorem numS_end {l r : List Int} {n : Nat} (h : numS (some l) = (n, some r)) : ∃ k, k ≤ l.length ∧ r = l.drop k ∧ k = l.length - r.length ∧ r.length ≤ l.length := by
  unfold numS at h
  simp only at h
  split at h
  · cases h
  · rename_i n' k hk
    injection h with h1 h2
    injection h2 with h2
    subst h2
    refine ⟨min k l.length, Nat.min_le_right _ _, ?_, ?_, ?_⟩
    · rcases Nat.le_total k l.length with h | h
      · rw [Nat.min_eq_left h]
      · rw [Nat.min_eq_right h, List.drop_of_length_le h, List.drop_of_length_le (Nat.le_refl _)]
    · rw [List.length_drop]; omega
    · rw [List.length_drop]; omega
theorem numS_suf {s : RS} {r : List Int} {n : Nat} (h : numS s = (n, some r)) : ∃ l, s = some l ∧ l ≠ [] ∧ r <:+ l := by
  obtain ⟨l, rfl⟩ := numS_some h
  obtain ⟨k, _, h2, _, _⟩ := numS_end h
  refine ⟨l, rfl, ?_, by rw [h2]; exact List.drop_suffix _ _⟩
  rintro rfl
  have : numR [] = none := rd_end [] 9 0 0 (by simp)
  rw [numS_of_none this] at h
  cases h
theorem truthS_suf {s : RS} {r : List Int} {b : Bool} (h : truthS s = (b, some r)) : ∃ l, s = some l ∧ r <:+ l := by
  rw [truthS_eq] at h
  split at h
  · cases h
  · rename_i l hl
    split at h
    · cases h
    · injection h with h1 h2
      injection h2 with h2
      subst h2
      obtain ⟨n, hn⟩ : ∃ n, numS s = (n, some l) := ⟨(numS s).1, by rw [← hl]⟩
      obtain ⟨l', h3, _, h4⟩ := numS_suf hn
      exact ⟨l', h3, h4⟩
theorem numsS_suf : ∀ (k : Nat) (s : RS) (v r : List Int), numsS k s = (v, some r) → ∃ l, s = some l ∧ r <:+ l
  | 0, s, v, r, h => by
    simp only [numsS] at h
    injection h with _ h
    exact ⟨r, h, List.suffix_refl _⟩
  | k + 1, s, v, r, h => by
    simp only [numsS] at h
    injection h with _ h
    obtain ⟨n, hn⟩ : ∃ n, numS (numsS k s).2 = (n, some r) := ⟨(numS (numsS k s).2).1, by rw [← h]⟩
    obtain ⟨l, h3, _, h4⟩ := numS_suf hn
    obtain ⟨l', h5, h6⟩ := numsS_suf k s (numsS k s).1 l (by rw [← h3])
    exact ⟨l', h5, h4.trans h6⟩
theorem vecS_suf {s : RS} {r v : List Int} (h : vecS s = (v, some r)) : ∃ l, s = some l ∧ r <:+ l := by
  rw [vecS_eq] at h
  split at h
  · cases h
  · rename_i l hl
    obtain ⟨n, hn⟩ : ∃ n, numS s = (n, some l) := ⟨(numS s).1, by rw [← hl]⟩
    obtain ⟨l0, h3, _, h4⟩ := numS_suf hn
    split at h
    · cases h
    · split at h
      · cases h
      · rename_i l' hl'
        split at h
        · injection h with _ h
          injection h with h
          subst h
          obtain ⟨l1, h5, h6⟩ := numsS_suf (numS s).1 (some l) (numsS (numS s).1 (some l)).1 l' (by rw [← hl'])
          injection h5 with h5
          subst h5
          exact ⟨l0, h3, h6.trans h4⟩
        · cases h
theorem hd_suf {p rest : List Int} (h : (hdR p).rest = some rest) : rest <:+ p ∧ p ≠ [] := by
  unfold hdR at h
  simp only at h
  have N : ∀ {s : RS} {r : List Int}, (numS s).2 = some r → ∃ l, s = some l ∧ l ≠ [] ∧ r <:+ l := fun {s r} h => numS_suf (n := (numS s).1) (by rw [← h])
  have T : ∀ {s : RS} {r : List Int}, (truthS s).2 = some r → ∃ l, s = some l ∧ r <:+ l := fun {s r} h => truthS_suf (b := (truthS s).1) (by rw [← h])
  have V : ∀ {s : RS} {r : List Int}, (vecS s).2 = some r → ∃ l, s = some l ∧ r <:+ l := fun {s r} h => vecS_suf (v := (vecS s).1) (by rw [← h])
  obtain ⟨l7, h7, _, e7⟩ := N h
  obtain ⟨l6, h6, e6⟩ := V h7
  obtain ⟨l5, h5, e5⟩ := T h6
  obtain ⟨l4, h4, _, e4⟩ := N h5
  obtain ⟨l3, h3, _, e3⟩ := N h4
  obtain ⟨l2, h2, _, e2⟩ := N h3
  obtain ⟨l1, h1, _, e1⟩ := N h2
  obtain ⟨l0, h0, n0, e0⟩ := N h1
  injection h0 with h0
  subst h0
  exact ⟨e7.trans (e6.trans (e5.trans (e4.trans (e3.trans (e2.trans (e1.trans e0)))))), n0⟩
theorem suf_drop {r l : List Int} (h : r <:+ l) : r = l.drop (l.length - r.length) ∧ r.length ≤ l.length := ⟨List.suffix_iff_eq_drop.1 h, h.length_le⟩
theorem rdv_cutF {w : World} {b o pc k : Nat} {p q : List Int} (V : Rdv u8v w (.slice (some ⟨b, o, none⟩) p.length pc) p) (hk : k ≤ p.length) (hq : q = p.drop k) (a : Option Addr) (c : Nat) (h : (a = some ⟨b, o + k, none⟩ ∧ c = pc - k) ∨ (pc = k ∧ c = pc - k)) : Rdv u8v w (.slice a q.length c) q := by
  have hl : q.length = p.length - k := by rw [hq, List.length_drop]
  rcases h with ⟨rfl, rfl⟩ | ⟨h1, h2⟩
  · have := V.drop k hk
    rwa [← hq, ← hl] at this
  · have h3 := V.cap
    have : q = [] := List.eq_nil_of_length_eq_zero (by rw [hl]; omega)
    subst this
    exact Rdv.empty _ _ _ _ (by omega)
/-- While the operations are read. -/
structure FdL (w1 : World) (fb : Nat) (h : HdS) (va : Option Addr) (vc : Nat) (ov : Value) (ps : List ODS) (wr : World) : Prop where
  own : OpsOwn w1.heap.size 0 wr ov ps
  fr : Blk wr fb #[.int .i64 h.k, .int .i64 h.a, .int .i64 h.b, .int .i64 h.ss, .int .i64 h.sq, .bool h.last, .slice va h.vec.length vc, ov] 26
  vk : RdK 0 2 i64v wr (.slice va h.vec.length vc) h.vec
  bel : Below w1.heap.size w1 wr
  fbn : w1.heap.size ≤ fb
theorem FdL.below {w1 wr wr' : World} {fb : Nat} {h : HdS} {va : Option Addr} {vc : Nat} {ov : Value} {ps : List ODS} (H : FdL w1 fb h va vc ov ps wr) (hb : Below wr.heap.size wr wr') : FdL w1 fb h va vc ov ps wr' :=
  ⟨H.own.below hb, blkBelow hb H.fr H.fr.lt, H.vk.below hb, H.bel.trans (hb.mono H.bel.size), H.fbn⟩
theorem FdL.push {w1 wr w4 : World} {fb n : Nat} {h : HdS} {va : Option Addr} {vc : Nat} {ov ov' : Value} {ps : List ODS} {q : Opr} {d s : Value} (H : FdL w1 fb h va vc ov ps wr) (g : wr.grownBy w4 ov.ownBlock) (ho : w4.ownsRow w1.heap.size 46 11 ov' n (odrow ps ++ opC q d s)) (hn : n = ps.length + 1)
    (hd : RdK 0 5 u8v wr d q.data) (hs : RdK 0 2 i64v wr s q.seen) : FdL w1 fb h va vc ov' (ps ++ [(q, d, s)]) (w4.setCell ⟨fb, 7, none⟩ ov') := by
  have e1 : 46 ≠ 26 := by decide
  have e2 : 46 ≠ 2 := by decide
  have e3 : 26 ≠ 2 := by decide
  have e4 : 26 ≠ 5 := by decide
  have gc : Chg (fun k => ov.ownBlock = some k) wr w4 := (Chg.refl (fun k => ov.ownBlock = some k) wr).grown g (fun _ e _ => e)
  have f4 := gc.blk H.fr (fun e => by obtain ⟨_, cs, hb⟩ := own_typ H.own.own e; exact blk_ne hb e1 H.fr)
  have g4 : Chg (· = fb) w4 (w4.setCell ⟨fb, 7, none⟩ ov') := Chg.set (S := (· = fb)) (Chg.refl _ _) (p := ⟨fb, 7, none⟩) (fun _ => rfl) ov'
  have o4 := H.own.snoc (Nat.zero_le _) g ho hn hd hs
  have b4 := H.bel.grown g H.bel.size (fun k hk => (own_typ H.own.own hk).1)
  refine ⟨o4.chg g4 (fun k hk => ?_), by have := f4.set 7 ov'; simpa using this, (H.vk.chg gc (fun k e => ?_)).chg g4 (fun k hk => ?_), b4.setCell (by simp only; exact H.fbn) _, H.fbn⟩
  · have hk : k = fb := hk
    subst hk
    exact ⟨Nat.zero_le _, fun _ => blk_ne f4 e4, fun _ => blk_ne f4 e3, fun _ => blk_ne f4 (Ne.symm e1)⟩
  · obtain ⟨h1, cs, h2⟩ := own_typ H.own.own e
    exact ⟨Nat.zero_le _, fun _ => blk_ne h2 e2⟩
  · have hk : k = fb := hk
    subst hk
    exact ⟨Nat.zero_le _, fun _ => blk_ne f4 e3⟩
theorem unf_len (l : List Int) : (unfL l).1.length ≤ 1048576 := by
  unfold unfL
  split
  · simp
  split
  · simp
  split
  · simp only [List.length_take]; omega
  · simp
theorem unf_byt {l : List Int} (h : Byt l) : Byt (unfL l).1 := by
  unfold unfL
  split
  · exact fun q hq => by cases hq
  split
  · exact fun q hq => by cases hq
  split
  · exact (h.drop 8).take _
  · exact fun q hq => by cases hq
theorem chg8 (w : World) (R : Nat) (c0 c1 c2 c3 c4 c5 c6 c7 : Value) : Chg (· = R) w ((((((((w.setCell ⟨R, 0, none⟩ c0).setCell ⟨R, 1, none⟩ c1).setCell ⟨R, 2, none⟩ c2).setCell ⟨R, 3, none⟩ c3).setCell ⟨R, 4, none⟩ c4).setCell ⟨R, 5, none⟩ c5).setCell ⟨R, 6, none⟩ c6).setCell ⟨R, 7, none⟩ c7) :=
  have h : ∀ o, (⟨R, o, none⟩ : Addr).block < w.heap.size → (· = R) R := fun _ _ => rfl
  Chg.set (S := (· = R)) (Chg.set (S := (· = R)) (Chg.set (S := (· = R)) (Chg.set (S := (· = R)) (Chg.set (S := (· = R)) (Chg.set (S := (· = R)) (Chg.set (S := (· = R)) (Chg.set (S := (· = R)) (Chg.refl _ _) (h 0) c0) (h 1) c1) (h 2) c2) (h 3) c3) (h 4) c4) (h 5) c5) (h 6) c6) (h 7) c7
/-- What Decode gives, by the code and by the reference: the frame's rows lie in blocks of its own. -/
def FDecPost (l : List Int) (good bad : Value) (w : World) (e : Ending) (w' : World) : Prop :=
  match decF l with
  | some f => ∃ v o, e = .returned (.tuple #[.agg #[.int .i64 (f).kind, .int .i64 (f).src, .int .i64 (f).dst, .int .i64 (f).sess, .int .i64 (f).seq, .bool (f).last, v, o], good]) ∧ Rdv i64v w' v f.vec ∧ OpsRd w' o f.ops ∧ Below w.heap.size w w'
  | none => e = .returned (.tuple #[.agg #[.int .i64 0, .int .i64 0, .int .i64 0, .int .i64 0, .int .i64 0, .bool false, .slice none 0 0, .slice none 0 0], bad]) ∧ Below w.heap.size w w'
/-- While a frame is read: the numbers' block, the reader. -/
structure FdM (w1 : World) (lb r B : Nat) (cs : Array Value) (v : Value) (s : RS) (w' : World) : Prop where
  rd : Rd w' r B v s
  inB : B < w'.heap.size
  bel : Below w1.heap.size w1 w'
  ord : w1.heap.size ≤ r ∧ w1.heap.size ≤ B
  lblk : Blk w' lb cs 2
  lord : w1.heap.size ≤ lb ∧ B ≠ lb ∧ r ≠ lb
theorem FdM.step {w1 w2 w3 : World} {lb r B : Nat} {cs : Array Value} {v : Value} {s s' : RS} (h : FdM w1 lb r B cs v s w2) (hs : RStep r B w2 s' w3) : ∃ v', FdM w1 lb r B cs v' s' w3 := by
  obtain ⟨v', h1, h2⟩ := hs
  have ho := h.ord
  exact ⟨v', h1, Nat.lt_of_lt_of_le h.inB h2.size, h2.below_trans h.bel h.bel.size (fun i hi e => by omega), ho, h2.blk h.lblk (fun e => h.lord.2.2 e.symm), h.lord⟩
theorem FdM.below {w1 w2 w3 : World} {lb r B : Nat} {cs : Array Value} {v : Value} {s : RS} (h : FdM w1 lb r B cs v s w2) (hb : Below w2.heap.size w2 w3) : FdM w1 lb r B cs v s w3 :=
  ⟨h.rd.below hb, Nat.lt_of_lt_of_le h.inB hb.size, h.bel.trans (hb.mono h.bel.size), h.ord, blkBelow hb h.lblk h.lblk.lt, h.lord⟩
theorem FdM.put {w1 w2 : World} {lb r B : Nat} {cs : Array Value} {v : Value} {s : RS} (h : FdM w1 lb r B cs v s w2) (i : Nat) (u : Value) : FdM w1 lb r B (cs.setIfInBounds i u) v s (w2.setCell ⟨lb, i, none⟩ u) := by
  have g : Chg (· = lb) w2 (w2.setCell ⟨lb, i, none⟩ u) := Chg.set (S := (· = lb)) (Chg.refl _ _) (p := ⟨lb, i, none⟩) (fun _ => rfl) u
  exact ⟨h.rd.chg g (fun e => h.lord.2.2 e) (fun e => h.lord.2.1 e), by simpa [World.setCell] using h.inB, h.bel.setCell (by simp only; exact h.lord.1) _, h.ord, h.lblk.set i u, h.lord⟩
end Go.Proofs.YthbalmoafpggdaaGreat
namespace Go.Proofs.YthbalmoafpggdaaGreat
open Go.RowKit
set_option linter.unusedVariables false
set_option linter.unusedSimpArgs false
theorem fmay_vec {f : Frm} (h : vokB f.vec = false) : fMayB f = false := by unfold fMayB; rw [h]; simp
set_option maxHeartbeats 2000000 in
set_option maxRecDepth 100000 in
theorem refFMay (f : Frm) (v o : Value) (w : World) (hv : Rdv i64v w v f.vec) (ho : OpsRd w o f.ops) (hn : ∀ q ∈ f.ops, q.name.size < 4294967281) :
    Calls Tryz.prog 7 #[.agg #[.int .i64 (f).kind, .int .i64 (f).src, .int .i64 (f).dst, .int .i64 (f).sess, .int .i64 (f).seq, .bool (f).last, v, o]] w fun e w' => e = .returned (.bool (fMayB f)) ∧ Below w.heap.size w w' := by
  obtain ⟨a, c, rfl, o1, o2, HO⟩ := ho
  have HO := Lib.hid HO
  have HV := Lib.hid hv
  have HN := Lib.hid hn
  clear hv hn
  obtain ⟨va, vn, vc, rfl⟩ := HV.out.shape
  obtain ⟨rfl, _, _, _⟩ := HV.out.cap
  obtain ⟨kind, src, dst, sess, seq, last, vec, ops⟩ := f
  simp only at *
  have KR : Hid (∀ w', Below w.heap.size w w' → Calls Tryz.prog 17 #[.slice va vec.length vc] w' fun e w'' => e = .returned (.bool (vokB vec)) ∧ w' = w'') := Lib.hid (fun w' hw => refMay _ vec w' (HV.out.below hw))
  have AL := Lib.hid ((Below.refl w.heap.size w).alloc (Nat.le_refl _) (.cells #[.int .i64 kind, .int .i64 src, .int .i64 dst, .int .i64 sess, .int .i64 seq, .bool last, .slice va vec.length vc, .slice a ops.length c] 26))
  have FM : Hid (FMid w #[.int .i64 kind, .int .i64 src, .int .i64 dst, .int .i64 sess, .int .i64 seq, .bool last, .slice va vec.length vc, .slice a ops.length c] (w.alloc (.cells #[.int .i64 kind, .int .i64 src, .int .i64 dst, .int .i64 sess, .int .i64 seq, .bool last, .slice va vec.length vc, .slice a ops.length c] 26))) := Lib.hid ⟨Blk.new _ _ _, AL.out⟩
  by_cases h1 : kind < 1
  · go_enter Tryz.func7, Tryz.ntmps7
    go_wp2
    go_ret
    exact ⟨ret_b (fmay_head (by unfold HeadP; (try simp only); omega)).symm, AL.out⟩
  by_cases h2 : 4 < kind
  · go_enter Tryz.func7, Tryz.ntmps7
    go_wp2
    go_ret
    exact ⟨ret_b (fmay_head (by unfold HeadP; (try simp only); omega)).symm, AL.out⟩
  by_cases h3 : src < 0
  · go_enter Tryz.func7, Tryz.ntmps7
    go_wp2
    go_ret
    exact ⟨ret_b (fmay_head (by unfold HeadP; (try simp only); omega)).symm, AL.out⟩
  by_cases h4 : 64 ≤ src
  · go_enter Tryz.func7, Tryz.ntmps7
    go_wp2
    go_ret
    exact ⟨ret_b (fmay_head (by unfold HeadP; (try simp only); omega)).symm, AL.out⟩
  by_cases h5 : dst < 0
  · go_enter Tryz.func7, Tryz.ntmps7
    go_wp2
    go_ret
    exact ⟨ret_b (fmay_head (by unfold HeadP; (try simp only); omega)).symm, AL.out⟩
  by_cases h6 : 64 ≤ dst
  · go_enter Tryz.func7, Tryz.ntmps7
    go_wp2
    go_ret
    exact ⟨ret_b (fmay_head (by unfold HeadP; (try simp only); omega)).symm, AL.out⟩
  by_cases h7 : src = dst
  · subst h7
    go_enter Tryz.func7, Tryz.ntmps7
    go_wp2
    go_ret
    exact ⟨ret_b (fmay_head (by unfold HeadP; (try simp only); omega)).symm, AL.out⟩
  by_cases h8 : sess < 1
  · go_enter Tryz.func7, Tryz.ntmps7
    go_wp2
    go_ret
    exact ⟨ret_b (fmay_head (by unfold HeadP; (try simp only); omega)).symm, AL.out⟩
  by_cases h9 : 1152921504606846976 < sess
  · go_enter Tryz.func7, Tryz.ntmps7
    go_wp2
    go_ret
    exact ⟨ret_b (fmay_head (by unfold HeadP; (try simp only); omega)).symm, AL.out⟩
  by_cases h10 : seq < 0
  · go_enter Tryz.func7, Tryz.ntmps7
    go_wp2
    go_ret
    exact ⟨ret_b (fmay_head (by unfold HeadP; (try simp only); omega)).symm, AL.out⟩
  by_cases h11 : 1073741824 < seq
  · go_enter Tryz.func7, Tryz.ntmps7
    go_wp2
    go_ret
    exact ⟨ret_b (fmay_head (by unfold HeadP; (try simp only); omega)).symm, AL.out⟩
  cases hvk : vokB vec
  · rw [hvk] at KR
    have HVK := Lib.hid hvk
    clear hvk
    go_enter Tryz.func7, Tryz.ntmps7
    go_wp2_with fail
    refine (KR.out _ AL.out).mono ?_
    rintro e w1 ⟨rfl, rfl⟩
    go_wp2
    go_ret
    exact ⟨ret_b (fmay_vec HVK.out).symm, AL.out⟩
  rw [hvk] at KR
  have HVK := Lib.hid hvk
  clear hvk
  by_cases l8 : 8 < ops.length
  · have l8i : (8 : Int) < ops.length := by omega
    go_enter Tryz.func7, Tryz.ntmps7
    go_wp2_with fail
    refine (KR.out _ AL.out).mono ?_
    rintro e w1 ⟨rfl, rfl⟩
    go_wp2
    go_ret
    exact ⟨ret_b (fmay_fit (by unfold FitP; (try simp only); omega)).symm, AL.out⟩
  have l8i : ¬ ((8 : Int) < ops.length) := by omega
  by_cases k3 : kind = 3
  · subst k3
    have HH : Hid (HeadP ⟨3, src, dst, sess, seq, last, vec, ops⟩) := Lib.hid (by unfold HeadP; simp only; omega)
    have HF : Hid (FitP ⟨3, src, dst, sess, seq, last, vec, ops⟩) := Lib.hid ⟨by first | (left; rfl) | (right; exact ⟨rfl, by (try simp only); omega⟩), by first | (right; rfl) | (simp only; omega), by simp only; omega⟩
    go_enter Tryz.func7, Tryz.ntmps7
    go_wp2_with fail
    refine (KR.out _ AL.out).mono ?_
    rintro e w1 ⟨rfl, rfl⟩
    go_wp2
    go_loopw [3] (fun iv wr => ∃ i : Nat, i ≤ ops.length ∧ iv = .int .i64 i ∧ (ops.take i).all mayB = true ∧ FMid w #[.int .i64 (3), .int .i64 src, .int .i64 dst, .int .i64 sess, .int .i64 (seq), .bool (last), .slice va vec.length vc, .slice a ops.length c] wr) (fun iv _ => ops.length - (intOf iv).toNat)
    case atStart => exact ⟨0, by omega, rfl, by simp, FM.out⟩
    case round =>
      obtain ⟨i, hil, rfl, hall, hmid⟩ := hrel
      have MM := Lib.hid hmid
      have HA := Lib.hid hall
      have hwz := hmid.blk.lt
      clear hmid hall
      by_cases hlt : i < ops.length
      · obtain ⟨q, hq⟩ : ∃ q, ops[i]? = some q := ⟨_, List.getElem?_eq_getElem hlt⟩
        obtain ⟨b, ob, d, s, rfl, hA⟩ := HO.out i q hq
        obtain ⟨da, dn, dc, rfl⟩ := hA.dat.shape
        obtain ⟨sa, sn, sc, rfl⟩ := hA.see.shape
        have OA := Lib.hid (hA.below MM.out.bel)
        have q0 : (0 : Int) ≤ i := by omega
        have q1 : (i : Int) < ops.length := by omega
        have c_0 : wr.cell? ⟨b, ob + i * 11, none⟩ = some (.int .i64 (q).time) := (OA.out).cell 0 _ rfl
        have c_1 : wr.cell? ⟨b, ob + i * 11 + 1, none⟩ = some (.int .i64 (q).node) := (OA.out).cell 1 _ rfl
        have c_2 : wr.cell? ⟨b, ob + i * 11 + 2, none⟩ = some (.int .i64 (q).seq) := (OA.out).cell 2 _ rfl
        have c_3 : wr.cell? ⟨b, ob + i * 11 + 3, none⟩ = some (.int .i64 (q).kind) := (OA.out).cell 3 _ rfl
        have c_4 : wr.cell? ⟨b, ob + i * 11 + 4, none⟩ = some (.int .i64 (q).ot) := (OA.out).cell 4 _ rfl
        have c_5 : wr.cell? ⟨b, ob + i * 11 + 5, none⟩ = some (.int .i64 (q).on) := (OA.out).cell 5 _ rfl
        have c_6 : wr.cell? ⟨b, ob + i * 11 + 6, none⟩ = some (.int .i64 (q).pt) := (OA.out).cell 6 _ rfl
        have c_7 : wr.cell? ⟨b, ob + i * 11 + 7, none⟩ = some (.int .i64 (q).pn) := (OA.out).cell 7 _ rfl
        have c_8 : wr.cell? ⟨b, ob + i * 11 + 8, none⟩ = some (.string (q).name) := (OA.out).cell 8 _ rfl
        have c_9 : wr.cell? ⟨b, ob + i * 11 + 9, none⟩ = some (.slice da dn dc) := (OA.out).cell 9 _ rfl
        have c_10 : wr.cell? ⟨b, ob + i * 11 + 10, none⟩ = some (.slice sa sn sc) := (OA.out).cell 10 _ rfl
        have bz : b < wr.heap.size := World.block_lt_of_cell? wr _ c_0
        have g_7 : wr.cell? ⟨w.heap.size, 7, none⟩ = some (.slice (some ⟨b, ob, none⟩) ops.length c) := MM.out.blk.cell (o := 7) rfl
        have KM := Lib.hid (fun w' hw => refMayOp q (.slice da dn dc) (.slice sa sn sc) w' (OA.out.dat.below hw) (OA.out.see.below hw) (HN.out q (List.mem_of_getElem? hq)) : ∀ w', Below wr.heap.size wr w' → _)
        have HQ := Lib.hid hq
        clear hA hq
        cases hm : mayB q
        · rw [hm] at KM
          have HB := Lib.hid (all_bad HQ.out hm)
          clear hm
          go_wp2_with fail
          refine (KM.out _ (Below.refl _ _)).mono ?_
          rintro e w1 ⟨rfl, hb1⟩
          have HX := Lib.hid (MM.out.below hb1)
          clear hb1 c_0 c_1 c_2 c_3 c_4 c_5 c_6 c_7 c_8 c_9 c_10 g_7
          go_wp2
          go_ret
          exact ⟨ret_b (fmay_ops HB.out).symm, HX.out.bel⟩
        · rw [hm] at KM
          have HB := Lib.hid (all_snoc HQ.out HA.out hm)
          clear hm
          go_wp2_with fail
          refine (KM.out _ (Below.refl _ _)).mono ?_
          rintro e w1 ⟨rfl, hb1⟩
          have HX := Lib.hid (MM.out.below hb1)
          clear hb1 c_0 c_1 c_2 c_3 c_4 c_5 c_6 c_7 c_8 c_9 c_10 g_7
          go_wp2
          go_roundw
          case rel => exact ⟨i + 1, by omega, by go_num, HB.out, HX.out⟩
          case measure => simp [intOf]; omega
      · obtain rfl : i = ops.length := by omega
        have HG := Lib.hid (fmay_good HH.out HF.out (by have := HA.out; rwa [List.take_length] at this))
        have g_7 : wr.cell? ⟨w.heap.size, 7, none⟩ = some (.slice a ops.length c) := MM.out.blk.cell (o := 7) rfl
        clear HA
        go_wp2
        go_ret
        exact ⟨ret_b (by rw [HG.out, HVK.out]), MM.out.bel⟩
  have k3b : (kind != 3) = true := by simp [k3]
  by_cases l0 : 0 < ops.length
  · have l0i : (0 : Int) < ops.length := by omega
    go_enter Tryz.func7, Tryz.ntmps7
    go_wp2_with fail
    refine (KR.out _ AL.out).mono ?_
    rintro e w1 ⟨rfl, rfl⟩
    go_wp2
    go_ret
    exact ⟨ret_b (fmay_fit (by unfold FitP; (try simp only); omega)).symm, AL.out⟩
  have l0i : ¬ ((0 : Int) < ops.length) := by omega
  cases last
  rotate_left
  · go_enter Tryz.func7, Tryz.ntmps7
    go_wp2_with fail
    refine (KR.out _ AL.out).mono ?_
    rintro e w1 ⟨rfl, rfl⟩
    go_wp2
    go_ret
    exact ⟨ret_b (fmay_fit (by unfold FitP; simp only; intro hh; have h2 := hh.1.resolve_left k3; cases h2.1)).symm, AL.out⟩
  by_cases k2 : kind ≤ 2
  · by_cases s0 : seq = 0
    · subst s0
      have HH : Hid (HeadP ⟨kind, src, dst, sess, 0, false, vec, ops⟩) := Lib.hid (by unfold HeadP; simp only; omega)
      have HF : Hid (FitP ⟨kind, src, dst, sess, 0, false, vec, ops⟩) := Lib.hid ⟨by first | (left; rfl) | (right; exact ⟨rfl, by (try simp only); omega⟩), by first | (right; rfl) | (simp only; omega), by simp only; omega⟩
      go_enter Tryz.func7, Tryz.ntmps7
      go_wp2_with fail
      refine (KR.out _ AL.out).mono ?_
      rintro e w1 ⟨rfl, rfl⟩
      go_wp2
      go_loopw [3] (fun iv wr => ∃ i : Nat, i ≤ ops.length ∧ iv = .int .i64 i ∧ (ops.take i).all mayB = true ∧ FMid w #[.int .i64 (kind), .int .i64 src, .int .i64 dst, .int .i64 sess, .int .i64 (0), .bool (false), .slice va vec.length vc, .slice a ops.length c] wr) (fun iv _ => ops.length - (intOf iv).toNat)
      case atStart => exact ⟨0, by omega, rfl, by simp, FM.out⟩
      case round =>
        obtain ⟨i, hil, rfl, hall, hmid⟩ := hrel
        have MM := Lib.hid hmid
        have HA := Lib.hid hall
        have hwz := hmid.blk.lt
        clear hmid hall
        by_cases hlt : i < ops.length
        · exact absurd hlt (by omega)
        · obtain rfl : i = ops.length := by omega
          have HG := Lib.hid (fmay_good HH.out HF.out (by have := HA.out; rwa [List.take_length] at this))
          have g_7 : wr.cell? ⟨w.heap.size, 7, none⟩ = some (.slice a ops.length c) := MM.out.blk.cell (o := 7) rfl
          clear HA
          go_wp2
          go_ret
          exact ⟨ret_b (by rw [HG.out, HVK.out]), MM.out.bel⟩
    · have s0b : (seq != 0) = true := by simp [s0]
      go_enter Tryz.func7, Tryz.ntmps7
      go_wp2_with fail
      refine (KR.out _ AL.out).mono ?_
      rintro e w1 ⟨rfl, rfl⟩
      go_wp2
      go_ret
      exact ⟨ret_b (fmay_fit (by unfold FitP; (try simp only); omega)).symm, AL.out⟩
  · have HH : Hid (HeadP ⟨kind, src, dst, sess, seq, false, vec, ops⟩) := Lib.hid (by unfold HeadP; simp only; omega)
    have HF : Hid (FitP ⟨kind, src, dst, sess, seq, false, vec, ops⟩) := Lib.hid ⟨by first | (left; rfl) | (right; exact ⟨rfl, by (try simp only); omega⟩), by first | (right; rfl) | (simp only; omega), by simp only; omega⟩
    go_enter Tryz.func7, Tryz.ntmps7
    go_wp2_with fail
    refine (KR.out _ AL.out).mono ?_
    rintro e w1 ⟨rfl, rfl⟩
    go_wp2
    go_loopw [3] (fun iv wr => ∃ i : Nat, i ≤ ops.length ∧ iv = .int .i64 i ∧ (ops.take i).all mayB = true ∧ FMid w #[.int .i64 (kind), .int .i64 src, .int .i64 dst, .int .i64 sess, .int .i64 (seq), .bool (false), .slice va vec.length vc, .slice a ops.length c] wr) (fun iv _ => ops.length - (intOf iv).toNat)
    case atStart => exact ⟨0, by omega, rfl, by simp, FM.out⟩
    case round =>
      obtain ⟨i, hil, rfl, hall, hmid⟩ := hrel
      have MM := Lib.hid hmid
      have HA := Lib.hid hall
      have hwz := hmid.blk.lt
      clear hmid hall
      by_cases hlt : i < ops.length
      · exact absurd hlt (by omega)
      · obtain rfl : i = ops.length := by omega
        have HG := Lib.hid (fmay_good HH.out HF.out (by have := HA.out; rwa [List.take_length] at this))
        have g_7 : wr.cell? ⟨w.heap.size, 7, none⟩ = some (.slice a ops.length c) := MM.out.blk.cell (o := 7) rfl
        clear HA
        go_wp2
        go_ret
        exact ⟨ret_b (by rw [HG.out, HVK.out]), MM.out.bel⟩
end Go.Proofs.YthbalmoafpggdaaGreat
namespace Go.Proofs.YthbalmoafpggdaaGreat
open Go.RowKit
set_option linter.unusedVariables false
set_option linter.unusedSimpArgs false
def CrcBegun (w : World) (e : Ending) (w' : World) : Prop := e = .returned (.bool true) ∧ Below w.heap.size w w'
theorem bgc1 : unfL (frameL [97, 98, 99]) = ([97, 98, 99], 11, 0) := by decide +kernel
theorem bgc2 : flip32 (crcR (flip32 0) [49, 50, 51, 52, 53, 54, 55, 56, 57]) = 3421780262 := by decide +kernel
theorem bgc3 : crcOf [49, 50, 51, 52, 53, 54, 55, 56, 57] = 3421780262 := by decide +kernel
theorem frameL_byt {l : List Int} (h : Byt l) : Byt (frameL l) := ((le4_byt _).append (le4_byt _)).append h
def abc : List Int := [97, 98, 99]
def one9 : List Int := [49, 50, 51, 52, 53, 54, 55, 56, 57]
theorem abc_byt : Byt abc := by intro q hq; simp [abc] at hq; omega
theorem one9_byt : Byt one9 := by intro q hq; simp [one9] at hq; omega
end Go.Proofs.YthbalmoafpggdaaGreat

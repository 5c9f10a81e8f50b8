/- The laws of package bitmap: begun, BitmapNone, BitmapLoad. -/
import Derived.Test.YtgpfkdlnmifiiaaChecked
import Derived.WalkKit
import Derived.Outline
import Derived.WalkSpells
import Derived.WalkLawsBesides
import Derived.Deep.QuietTactic
import Derived.Deep.RegionWith
import Derived.Deep.DeepMust
import Derived.BigQuiet
import Derived.Test.YtgpfkdlnmifiiaaMem
import Derived.RegionTactic
import Derived.ChangeAlike
import Derived.StillTailTactics
import Derived.Deep.RegionHeld3
import Derived.Test.YtgpfkdlnmifiiaaBm3
import Derived.Test.YtgpfkdlnmifiiaaFr
namespace Go.Proofs.Ytgpfkdlnmifiiaa
open Go.RowKit
set_option linter.unusedVariables false
set_option linter.unusedSimpArgs false
def TruePost (w : World) (e : Ending) (w' : World) : Prop := e = .returned (.bool true) ∧ Below w.heap.size w w'
theorem BmPost.weak {err : Int} {b u : Nat} {us : List Bool} {w w' : World} {e : Ending} (h : BmPost err b u us w e w') (hb : Nat → Prop) : True := trivial
theorem bmBelow {w w1 w2 : World} {u : Nat} (h : Below w.heap.size w w1) (hu : w.heap.size ≤ u) (g : Chg (· = u) w1 w2) : Below w.heap.size w w2 :=
  Chg.below_trans h g h.size (fun i hi e => by omega)
theorem bmGive0 (b u : Nat) (us : List Bool) (w : World) (h : MapAt w b u (true :: us)) (hne : u ≠ b) : Calls Try.prog 75 #[.pointer (some ⟨b, 0, none⟩), .int .i64 0] w (BmPost 0 b u (false :: us) w) := by
  have := bmGive b u (true :: us) 0 w h hne
  have e1 : inB (true :: us) 0 = true := by simp [inB]
  simpa [e1] using this
set_option maxHeartbeats 2000000 in
set_option maxRecDepth 100000 in
theorem bmBegun (w : World) : Calls Try.prog 64 #[] w (TruePost w) := by
  go_enter Try.func64, Try.ntmps64
  go_wp2_with fail
  refine (bmNew_ok 10 w (by omega)).mono ?_
  rintro e w1 ⟨b, u, rfl, z1, z2, hne, hm, hb⟩
  have hm0 : MapAt w1 b u [false, false, false, false, false, false, false, false, false, false] := hm
  have HM := Lib.hid hm0
  have HB := Lib.hid hb
  clear hm hb hm0
  go_wp2_with fail
  refine (bmTake b u _ 0 w1 HM.out hne (by simp) (by intro j hj; obtain rfl : j = 0 := by omega
                                                     decide) (by decide)).mono ?_
  rintro e w2 ⟨rfl, hm, hg⟩
  have hm0 : MapAt w2 b u [true, false, false, false, false, false, false, false, false, false] := hm
  have HM2 := Lib.hid hm0
  have HB2 := Lib.hid (bmBelow HB.out z2 hg)
  clear hm hg hm0 HM HB
  go_wp2_with fail
  refine (bmRun b u _ 3 3 w2 HM2.out hne (by omega) (by simp) (by simp) (by intro j hj; have : j = 0 ∨ j = 1 ∨ j = 2 ∨ j = 3 := by omega
                                                                            rcases this with rfl | rfl | rfl | rfl <;> decide) (by decide)).mono ?_
  rintro e w3 ⟨rfl, hm, hg⟩
  have hm0 : MapAt w3 b u [true, true, true, true, false, false, false, false, false, false] := hm
  have HM3 := Lib.hid hm0
  have HB3 := Lib.hid (bmBelow HB2.out z2 hg)
  clear hm hg hm0 HM2 HB2
  go_wp2_with fail
  refine (bmGive0 b u _ w3 HM3.out hne).mono ?_
  rintro e w4 ⟨rfl, hm, hg⟩
  have HM4 := Lib.hid hm
  have HB4 := Lib.hid (bmBelow HB3.out z2 hg)
  clear hm hg HM3 HB3
  go_wp2_with fail
  refine (bmBytes' b u _ w4 HM4.out).mono ?_
  rintro e w5 ⟨v5, rfl, hr, hb⟩
  have HB5 := Lib.hid (HB4.out.trans (hb.mono HB4.out.size))
  have HR5 := Lib.hid hr
  clear hr hb HB4 HM4
  go_wp2_with fail
  refine (bmLoad v5 _ 10 w5 (by omega) HR5.out (pack_byt _)).mono ?_
  rintro e w6 ⟨hb, hif⟩
  rw [if_pos (by decide)] at hif
  obtain ⟨b', u', rfl, q1, q2, q3, hm⟩ := hif
  have e10 : bitsOf (pack [false, true, true, true, false, false, false, false, false, false]) 10 = [false, true, true, true, false, false, false, false, false, false] := by decide
  rw [e10] at hm
  have HB6 := Lib.hid (HB5.out.trans (hb.mono HB5.out.size))
  have K1 := Lib.hid (bmUsed b' u' _ 2 w6 hm)
  have HM6 := Lib.hid hm
  clear hb hm e10 HB5 HR5
  go_wp2_with fail
  refine K1.out.mono ?_
  rintro e w7 ⟨he, n7, rfl⟩
  obtain rfl : e = .returned (.bool true) := he
  go_wp2_with fail
  have HM7 := HM6.out.of_below (Drw.below ⟨n7, rfl⟩)
  refine (bmFree b' u' _ (w6.drewN n7) HM7).mono ?_
  rintro e w8 ⟨he, rfl⟩
  obtain rfl : e = .returned (.int .i64 7) := he
  go_wp2_with fail
  refine (bmUsed b' u' _ 0 (w6.drewN n7) HM7).mono ?_
  rintro e w9 ⟨he, n9, rfl⟩
  obtain rfl : e = .returned (.bool false) := he
  clear HM7
  go_wp2
  go_ret
  exact ⟨rfl, HB6.out.trans ((Drw.below ⟨n7 + n9, by simp⟩).mono HB6.out.size)⟩
set_option maxHeartbeats 2000000 in
theorem bitmapNone_walk (w : World) : Calls Try.prog 14 #[] w (TruePost w) := by
  go_enter Try.func14, Try.ntmps14
  go_wp2_with (first | (go_at_call 72; refine (bmTakeNil _).mono ?_; rintro e w1 ⟨rfl, rfl⟩) | (go_at_call 73; refine (bmRunNil _).mono ?_; rintro e w1 ⟨rfl, rfl⟩) | (go_at_call 64; refine (bmBegun _).mono ?_; rintro e wb ⟨rfl, hbb⟩) | (go_at_call 74; refine (bmSetNil _ _).mono ?_; rintro e w1 ⟨rfl, rfl⟩) | (go_at_call 75; refine (bmGiveNil _ _).mono ?_; rintro e w1 ⟨rfl, rfl⟩) | (go_at_call 76; refine (bmSizeNil _).mono ?_; rintro e w1 ⟨rfl, rfl⟩) | (go_at_call 77; refine (bmFreeNil _).mono ?_; rintro e w1 ⟨rfl, rfl⟩) | (go_at_call 78; refine (bmUsedNil _ _).mono ?_; rintro e w1 ⟨rfl, rfl⟩) | (go_at_call 66; refine (bmBytesNil _).mono ?_; rintro e w1 ⟨rfl, rfl⟩))
  go_ret
  exact ⟨rfl, hbb⟩

set_option maxHeartbeats 2000000 in
set_option maxRecDepth 100000 in
theorem bmLaw_bad (v : Value) (a : Option Addr) (m c : Nat) (n : Int) (w : World) (hv : v = .slice a m c) (h1 : m ≤ c) (h2 : c ≤ 9223372036854775807) (hn : n < 0 ∨ 65536 < n) (hnb : -9223372036854775808 ≤ n ∧ n ≤ 9223372036854775807) : Calls Try.prog 12 #[v, .int .i64 n] w (TruePost w) := by
  subst hv
  by_cases h40 : 40 < m
  all_goals
    by_cases hn0 : n < 0
    all_goals
      go_enter Try.func12, Try.ntmps12
      go_wp2_with (first | (go_at_call 64; refine (bmBegun _).mono ?_; rintro e wb ⟨rfl, hbb⟩) | (go_at_call 65; refine (bmLoad_bad _ _ _ hn).mono ?_; rintro e w1 ⟨rfl, rfl⟩))
      go_ret
      exact ⟨rfl, hbb⟩
theorem pow_cast (t : Nat) : (2 : Int) ^ t = ((2 ^ t : Nat) : Int) := by simp [Int.natCast_pow]
theorem below_under {w w1 w2 : World} (h : Below w.heap.size w w1) (g : Below w1.heap.size w1 w2) : Below w.heap.size w w2 := h.trans (g.mono h.size)
set_option maxHeartbeats 2000000 in
set_option maxRecDepth 100000 in
/-- Behind the cut: bytes that are fine or not. -/
theorem bmLaw_ok (a : Option Addr) (m c : Nat) (l : List Int) (n : Nat) (w : World) (h : Rdv (.int .u8) w (.slice a m c) l) (hl : ∀ q ∈ l, 0 ≤ q ∧ q < 256) (hn : n ≤ 65536) : Calls Try.prog 12 #[.slice a m c, .int .i64 n] w (TruePost w) := by
  obtain ⟨rfl, h1, h2, h3⟩ := h.cap
  unfold maxLen at h2
  have hT := Lib.hid h.take
  have H0 := Lib.hid h
  clear h h3
  by_cases h40 : 40 < l.length
  · have hR := Lib.hid (hT.out 40 c (by omega) (by omega) (by omega))
    have HLC := Lib.hid (fun q (hq : q ∈ l.take 40) => hl q (List.mem_of_mem_take hq))
    have hl4 : (l.take 40).length = 40 := by simp; omega
    go_enter Try.func12, Try.ntmps12
    go_wp2_with (go_at_call 64; refine (bmBegun _).mono ?_; rintro e wb ⟨rfl, hbb⟩)
    generalize hL : (l.take 40) = L at *
    have hlc : ∀ q ∈ L, 0 ≤ q ∧ q < 256 := HLC.out
    by_cases hlen : L.length = (n + 7) / 8
    · by_cases h8 : n % 8 = 0
      · have hfin : fineB L n = true := by simp [fineB, hlen, h8]
        go_wp2_with fail
        refine (bmLoad _ _ n _ hn (hR.out.below hbb) hlc).mono ?_
        rintro e w1 ⟨hb1, hif⟩
        have hB := Lib.hid (below_under hbb hb1)
        have hr1 := Lib.hid ((hR.out.below hbb).below hb1)
        clear hbb hb1
        have hd0 : (0 : Int) ≤ (n : Int) := by omega
        have hd1 : (n : Int) ≤ 65536 := by omega
        rw [if_pos hfin] at hif
        obtain ⟨b, u, rfl, _, _, hne, hm⟩ := hif
        have e1 : ((40 : Int) == ((n : Int) + 7) / 8) = true := by rw [beq_iff_eq]; omega
        have e2 : ((n : Int) % 8 != 0) = false := by simp; omega
        have hp : Hid (pack (bitsOf L n) = L) := Lib.hid (by have := pack_bits L n hlc; rw [hfin] at this; simpa using this)
        clear hlen h8 hfin
        have KB : Hid (∀ w', Below w1.heap.size w1 w' → Calls Try.prog 66 #[.pointer (some ⟨b, 0, none⟩)] w' (BytesPost' (bitsOf L n) w')) := Lib.hid fun w' h => bmBytes' b u _ w' (hm.of_below h)
        have KC : Hid (∀ w', Below w1.heap.size w1 w' → (convert 46 9 (.slice a 40 c)).run Try.prog w' = .ok (.string (strOfNums L)) w') := Lib.hid fun w' h => conv_rdv (P := Try.prog) 46 5 Try.underlying46 Try.underlying5 (hr1.out.below h) 9 Try.underlying9
        clear hm
        go_wp2
        go_region_held (fun w' => Below w1.heap.size w1 w' ∧ (convert 46 9 (.slice a 40 c)).run Try.prog w' = .ok (.string (strOfNums L)) w') ((first | exact ⟨Below.refl _ _, KC.out _ (Below.refl _ _)⟩ | exact ⟨(Below.refl _ _).drew, KC.out _ (Below.refl _ _).drew⟩ | exact ⟨by assumption, by assumption⟩)) (first | (go_at_call 66; (with_reducible refine (KB.out _ ?hB).mono ?_); (case hB => exact (Below.refl _ _).drew); rintro e w2 ⟨v2, rfl, hr2, hb2⟩; have kr2 := conv_rdv (P := Try.prog) 46 5 Try.underlying46 Try.underlying5 hr2 9 Try.underlying9; have hb3 := below_under (Below.drew (Below.refl w1.heap.size w1)) hb2; have kc3 := KC.out _ hb3))
        all_goals
          go_wp2
          go_ret
          exact ⟨ret_b (by rw [hp.out]; simp), below_under hB.out (by assumption)⟩
      · have hpos : 0 < L.length := by omega
        obtain ⟨bl, ol, rfl, hcell⟩ : ∃ bl ol, a = some ⟨bl, ol, none⟩ ∧ ∀ w', Below w.heap.size w w' → w'.cell? ⟨bl, ol + 39, none⟩ = some (.int .u8 (L.getD (L.length - 1) 0)) := by
          obtain ⟨_, _, _, h4⟩ := hR.out.cap
          obtain ⟨bl, ol, rfl⟩ := h4 (by intro e; rw [e] at hpos; simp at hpos)
          refine ⟨bl, ol, rfl, fun w' hw' => ?_⟩
          obtain ⟨a', c', e, _, _, h5⟩ := hR.out.below hw'
          rw [Value.slice.injEq] at e
          obtain ⟨rfl, _, _⟩ := e
          rcases h5 with rfl | ⟨b1, o1, e1, h5⟩
          · simp at hpos
          · injection e1 with e1
            injection e1 with e1 e2
            subst e1; subst e2
            have := h5 (L.length - 1) (by omega)
            rwa [show L.length - 1 = 39 by omega, show L.getD 39 0 = L.getD (L.length - 1) 0 by rw [show L.length - 1 = 39 by omega]] at this
        have HCE := Lib.hid hcell
        obtain ⟨q, hqe⟩ := Int.eq_ofNat_of_zero_le (hlc (L.getD (L.length - 1) 0) (by rw [List.getD_eq_getElem?_getD, List.getElem?_eq_getElem (by omega)]; exact List.getElem_mem _)).1
        have hq2 := (hlc (L.getD (L.length - 1) 0) (by rw [List.getD_eq_getElem?_getD, List.getElem?_eq_getElem (by omega)]; exact List.getElem_mem _)).2
        rw [hqe] at hq2
        have HQ := Lib.hid hqe
        clear hcell hqe
        by_cases hz : q / 2 ^ (n % 8) = 0
        · have hfin : fineB L n = true := by simp [fineB, hlen, h8]; rw [← hlen, ← List.getD_eq_getElem?_getD, HQ.out, Int.toNat_natCast]; exact (Nat.div_eq_zero_iff_lt (Nat.two_pow_pos _)).1 hz
          go_wp2_with fail
          refine (bmLoad _ _ n _ hn (hR.out.below hbb) hlc).mono ?_
          rintro e w1 ⟨hb1, hif⟩
          have hB := Lib.hid (below_under hbb hb1)
          have hr1 := Lib.hid ((hR.out.below hbb).below hb1)
          clear hbb hb1
          have hd0 : (0 : Int) ≤ (n : Int) := by omega
          have hd1 : (n : Int) ≤ 65536 := by omega
          rw [if_pos hfin] at hif
          obtain ⟨b, u, rfl, _, _, hne, hm⟩ := hif
          have e1 : ((40 : Int) == ((n : Int) + 7) / 8) = true := by rw [beq_iff_eq]; omega
          have e2 : ((n : Int) % 8 != 0) = true := by simp; omega
          have hp : Hid (pack (bitsOf L n) = L) := Lib.hid (by have := pack_bits L n hlc; rw [hfin] at this; simpa using this)
          have hc9 := HCE.out w1 hB.out
          rw [HQ.out] at hc9
          have e3 : ((q : Int) / 2 ^ (n % 8) == 0) = true := by rw [pow_cast, ← Int.natCast_ediv, beq_iff_eq, hz]; rfl
          have hix : (0 : Int) ≤ (40 : Int) - 1 := by omega
          clear hlen h8 hfin
          have KB : Hid (∀ w', Below w1.heap.size w1 w' → Calls Try.prog 66 #[.pointer (some ⟨b, 0, none⟩)] w' (BytesPost' (bitsOf L n) w')) := Lib.hid fun w' h => bmBytes' b u _ w' (hm.of_below h)
          have KC : Hid (∀ w', Below w1.heap.size w1 w' → (convert 46 9 (.slice (some ⟨bl, ol, none⟩) 40 c)).run Try.prog w' = .ok (.string (strOfNums L)) w') := Lib.hid fun w' h => conv_rdv (P := Try.prog) 46 5 Try.underlying46 Try.underlying5 (hr1.out.below h) 9 Try.underlying9
          clear hm
          go_wp2
          go_region_held (fun w' => Below w1.heap.size w1 w' ∧ (convert 46 9 (.slice (some ⟨bl, ol, none⟩) 40 c)).run Try.prog w' = .ok (.string (strOfNums L)) w') ((first | exact ⟨Below.refl _ _, KC.out _ (Below.refl _ _)⟩ | exact ⟨(Below.refl _ _).drew, KC.out _ (Below.refl _ _).drew⟩ | exact ⟨by assumption, by assumption⟩)) (first | (go_at_call 66; (with_reducible refine (KB.out _ ?hB).mono ?_); (case hB => exact (Below.refl _ _).drew); rintro e w2 ⟨v2, rfl, hr2, hb2⟩; have kr2 := conv_rdv (P := Try.prog) 46 5 Try.underlying46 Try.underlying5 hr2 9 Try.underlying9; have hb3 := below_under (Below.drew (Below.refl w1.heap.size w1)) hb2; have kc3 := KC.out _ hb3))
          all_goals
            go_wp2
            go_ret
            exact ⟨ret_b (by rw [hp.out]; simp), below_under hB.out (by assumption)⟩
        · have hfin : fineB L n = false := by simp [fineB, hlen, h8]; rw [← hlen, ← List.getD_eq_getElem?_getD, HQ.out, Int.toNat_natCast]; exact Nat.le_of_not_lt fun h => hz ((Nat.div_eq_zero_iff_lt (Nat.two_pow_pos _)).2 h)
          go_wp2_with fail
          refine (bmLoad _ _ n _ hn (hR.out.below hbb) hlc).mono ?_
          rintro e w1 ⟨hb1, hif⟩
          have hB := Lib.hid (below_under hbb hb1)
          have hr1 := Lib.hid ((hR.out.below hbb).below hb1)
          clear hbb hb1
          have hd0 : (0 : Int) ≤ (n : Int) := by omega
          have hd1 : (n : Int) ≤ 65536 := by omega
          rw [if_neg (by rw [hfin]; simp)] at hif
          subst hif
          have e1 : ((40 : Int) == ((n : Int) + 7) / 8) = true := by rw [beq_iff_eq]; omega
          have e2 : ((n : Int) % 8 != 0) = true := by simp; omega
          have hc9 := HCE.out w1 hB.out
          rw [HQ.out] at hc9
          have e3 : ((q : Int) / 2 ^ (n % 8) == 0) = false := by rw [pow_cast, ← Int.natCast_ediv, beq_eq_false_iff_ne]; intro h; exact hz (by omega)
          have hix : (0 : Int) ≤ (40 : Int) - 1 := by omega
          clear hlen h8 hfin
          go_wp2
          go_ret
          exact ⟨rfl, hB.out⟩
    · have hfin : fineB L n = false := by simp [fineB, hlen]
      go_wp2_with fail
      refine (bmLoad _ _ n _ hn (hR.out.below hbb) hlc).mono ?_
      rintro e w1 ⟨hb1, hif⟩
      have hB := Lib.hid (below_under hbb hb1)
      have hr1 := Lib.hid ((hR.out.below hbb).below hb1)
      clear hbb hb1
      have hd0 : (0 : Int) ≤ (n : Int) := by omega
      have hd1 : (n : Int) ≤ 65536 := by omega
      rw [if_neg (by rw [hfin]; simp)] at hif
      subst hif
      have e1 : ((40 : Int) == ((n : Int) + 7) / 8) = false := by rw [beq_eq_false_iff_ne]; omega
      clear hlen hfin
      go_wp2
      go_ret
      exact ⟨rfl, hB.out⟩
  · have HLC := Lib.hid hl
    have hR := H0
    go_enter Try.func12, Try.ntmps12
    go_wp2_with (go_at_call 64; refine (bmBegun _).mono ?_; rintro e wb ⟨rfl, hbb⟩)
    generalize hL : (l) = L at *
    have hlc : ∀ q ∈ L, 0 ≤ q ∧ q < 256 := HLC.out
    by_cases hlen : L.length = (n + 7) / 8
    · by_cases h8 : n % 8 = 0
      · have hfin : fineB L n = true := by simp [fineB, hlen, h8]
        go_wp2_with fail
        refine (bmLoad _ _ n _ hn (hR.out.below hbb) hlc).mono ?_
        rintro e w1 ⟨hb1, hif⟩
        have hB := Lib.hid (below_under hbb hb1)
        have hr1 := Lib.hid ((hR.out.below hbb).below hb1)
        clear hbb hb1
        have hd0 : (0 : Int) ≤ (n : Int) := by omega
        have hd1 : (n : Int) ≤ 65536 := by omega
        rw [if_pos hfin] at hif
        obtain ⟨b, u, rfl, _, _, hne, hm⟩ := hif
        have e1 : ((L.length : Int) == ((n : Int) + 7) / 8) = true := by rw [beq_iff_eq]; omega
        have e2 : ((n : Int) % 8 != 0) = false := by simp; omega
        have hp : Hid (pack (bitsOf L n) = L) := Lib.hid (by have := pack_bits L n hlc; rw [hfin] at this; simpa using this)
        clear hlen h8 hfin
        have KB : Hid (∀ w', Below w1.heap.size w1 w' → Calls Try.prog 66 #[.pointer (some ⟨b, 0, none⟩)] w' (BytesPost' (bitsOf L n) w')) := Lib.hid fun w' h => bmBytes' b u _ w' (hm.of_below h)
        have KC : Hid (∀ w', Below w1.heap.size w1 w' → (convert 46 9 (.slice a L.length c)).run Try.prog w' = .ok (.string (strOfNums L)) w') := Lib.hid fun w' h => conv_rdv (P := Try.prog) 46 5 Try.underlying46 Try.underlying5 (hr1.out.below h) 9 Try.underlying9
        clear hm
        go_wp2
        go_region_held (fun w' => Below w1.heap.size w1 w' ∧ (convert 46 9 (.slice a L.length c)).run Try.prog w' = .ok (.string (strOfNums L)) w') ((first | exact ⟨Below.refl _ _, KC.out _ (Below.refl _ _)⟩ | exact ⟨(Below.refl _ _).drew, KC.out _ (Below.refl _ _).drew⟩ | exact ⟨by assumption, by assumption⟩)) (first | (go_at_call 66; (with_reducible refine (KB.out _ ?hB).mono ?_); (case hB => exact (Below.refl _ _).drew); rintro e w2 ⟨v2, rfl, hr2, hb2⟩; have kr2 := conv_rdv (P := Try.prog) 46 5 Try.underlying46 Try.underlying5 hr2 9 Try.underlying9; have hb3 := below_under (Below.drew (Below.refl w1.heap.size w1)) hb2; have kc3 := KC.out _ hb3))
        all_goals
          go_wp2
          go_ret
          exact ⟨ret_b (by rw [hp.out]; simp), below_under hB.out (by assumption)⟩
      · have hpos : 0 < L.length := by omega
        obtain ⟨bl, ol, rfl, hcell⟩ : ∃ bl ol, a = some ⟨bl, ol, none⟩ ∧ ∀ w', Below w.heap.size w w' → w'.cell? ⟨bl, ol + (L.length - 1), none⟩ = some (.int .u8 (L.getD (L.length - 1) 0)) := by
          obtain ⟨_, _, _, h4⟩ := hR.out.cap
          obtain ⟨bl, ol, rfl⟩ := h4 (by intro e; rw [e] at hpos; simp at hpos)
          refine ⟨bl, ol, rfl, fun w' hw' => ?_⟩
          obtain ⟨a', c', e, _, _, h5⟩ := hR.out.below hw'
          rw [Value.slice.injEq] at e
          obtain ⟨rfl, _, _⟩ := e
          rcases h5 with rfl | ⟨b1, o1, e1, h5⟩
          · simp at hpos
          · injection e1 with e1
            injection e1 with e1 e2
            subst e1; subst e2
            have := h5 (L.length - 1) (by omega)
            rwa [show L.length - 1 = (L.length - 1) by omega, show L.getD (L.length - 1) 0 = L.getD (L.length - 1) 0 by rw [show L.length - 1 = (L.length - 1) by omega]] at this
        have HCE := Lib.hid hcell
        obtain ⟨q, hqe⟩ := Int.eq_ofNat_of_zero_le (hlc (L.getD (L.length - 1) 0) (by rw [List.getD_eq_getElem?_getD, List.getElem?_eq_getElem (by omega)]; exact List.getElem_mem _)).1
        have hq2 := (hlc (L.getD (L.length - 1) 0) (by rw [List.getD_eq_getElem?_getD, List.getElem?_eq_getElem (by omega)]; exact List.getElem_mem _)).2
        rw [hqe] at hq2
        have HQ := Lib.hid hqe
        clear hcell hqe
        by_cases hz : q / 2 ^ (n % 8) = 0
        · have hfin : fineB L n = true := by simp [fineB, hlen, h8]; rw [← hlen, ← List.getD_eq_getElem?_getD, HQ.out, Int.toNat_natCast]; exact (Nat.div_eq_zero_iff_lt (Nat.two_pow_pos _)).1 hz
          go_wp2_with fail
          refine (bmLoad _ _ n _ hn (hR.out.below hbb) hlc).mono ?_
          rintro e w1 ⟨hb1, hif⟩
          have hB := Lib.hid (below_under hbb hb1)
          have hr1 := Lib.hid ((hR.out.below hbb).below hb1)
          clear hbb hb1
          have hd0 : (0 : Int) ≤ (n : Int) := by omega
          have hd1 : (n : Int) ≤ 65536 := by omega
          rw [if_pos hfin] at hif
          obtain ⟨b, u, rfl, _, _, hne, hm⟩ := hif
          have e1 : ((L.length : Int) == ((n : Int) + 7) / 8) = true := by rw [beq_iff_eq]; omega
          have e2 : ((n : Int) % 8 != 0) = true := by simp; omega
          have hp : Hid (pack (bitsOf L n) = L) := Lib.hid (by have := pack_bits L n hlc; rw [hfin] at this; simpa using this)
          have hc9 := HCE.out w1 hB.out
          rw [HQ.out] at hc9
          have e3 : ((q : Int) / 2 ^ (n % 8) == 0) = true := by rw [pow_cast, ← Int.natCast_ediv, beq_iff_eq, hz]; rfl
          have hix : (0 : Int) ≤ (L.length : Int) - 1 := by omega
          clear hlen h8 hfin
          have KB : Hid (∀ w', Below w1.heap.size w1 w' → Calls Try.prog 66 #[.pointer (some ⟨b, 0, none⟩)] w' (BytesPost' (bitsOf L n) w')) := Lib.hid fun w' h => bmBytes' b u _ w' (hm.of_below h)
          have KC : Hid (∀ w', Below w1.heap.size w1 w' → (convert 46 9 (.slice (some ⟨bl, ol, none⟩) L.length c)).run Try.prog w' = .ok (.string (strOfNums L)) w') := Lib.hid fun w' h => conv_rdv (P := Try.prog) 46 5 Try.underlying46 Try.underlying5 (hr1.out.below h) 9 Try.underlying9
          clear hm
          go_wp2
          go_region_held (fun w' => Below w1.heap.size w1 w' ∧ (convert 46 9 (.slice (some ⟨bl, ol, none⟩) L.length c)).run Try.prog w' = .ok (.string (strOfNums L)) w') ((first | exact ⟨Below.refl _ _, KC.out _ (Below.refl _ _)⟩ | exact ⟨(Below.refl _ _).drew, KC.out _ (Below.refl _ _).drew⟩ | exact ⟨by assumption, by assumption⟩)) (first | (go_at_call 66; (with_reducible refine (KB.out _ ?hB).mono ?_); (case hB => exact (Below.refl _ _).drew); rintro e w2 ⟨v2, rfl, hr2, hb2⟩; have kr2 := conv_rdv (P := Try.prog) 46 5 Try.underlying46 Try.underlying5 hr2 9 Try.underlying9; have hb3 := below_under (Below.drew (Below.refl w1.heap.size w1)) hb2; have kc3 := KC.out _ hb3))
          all_goals
            go_wp2
            go_ret
            exact ⟨ret_b (by rw [hp.out]; simp), below_under hB.out (by assumption)⟩
        · have hfin : fineB L n = false := by simp [fineB, hlen, h8]; rw [← hlen, ← List.getD_eq_getElem?_getD, HQ.out, Int.toNat_natCast]; exact Nat.le_of_not_lt fun h => hz ((Nat.div_eq_zero_iff_lt (Nat.two_pow_pos _)).2 h)
          go_wp2_with fail
          refine (bmLoad _ _ n _ hn (hR.out.below hbb) hlc).mono ?_
          rintro e w1 ⟨hb1, hif⟩
          have hB := Lib.hid (below_under hbb hb1)
          have hr1 := Lib.hid ((hR.out.below hbb).below hb1)
          clear hbb hb1
          have hd0 : (0 : Int) ≤ (n : Int) := by omega
          have hd1 : (n : Int) ≤ 65536 := by omega
          rw [if_neg (by rw [hfin]; simp)] at hif
          subst hif
          have e1 : ((L.length : Int) == ((n : Int) + 7) / 8) = true := by rw [beq_iff_eq]; omega
          have e2 : ((n : Int) % 8 != 0) = true := by simp; omega
          have hc9 := HCE.out w1 hB.out
          rw [HQ.out] at hc9
          have e3 : ((q : Int) / 2 ^ (n % 8) == 0) = false := by rw [pow_cast, ← Int.natCast_ediv, beq_eq_false_iff_ne]; intro h; exact hz (by omega)
          have hix : (0 : Int) ≤ (L.length : Int) - 1 := by omega
          clear hlen h8 hfin
          go_wp2
          go_ret
          exact ⟨rfl, hB.out⟩
    · have hfin : fineB L n = false := by simp [fineB, hlen]
      go_wp2_with fail
      refine (bmLoad _ _ n _ hn (hR.out.below hbb) hlc).mono ?_
      rintro e w1 ⟨hb1, hif⟩
      have hB := Lib.hid (below_under hbb hb1)
      have hr1 := Lib.hid ((hR.out.below hbb).below hb1)
      clear hbb hb1
      have hd0 : (0 : Int) ≤ (n : Int) := by omega
      have hd1 : (n : Int) ≤ 65536 := by omega
      rw [if_neg (by rw [hfin]; simp)] at hif
      subst hif
      have e1 : ((L.length : Int) == ((n : Int) + 7) / 8) = false := by rw [beq_eq_false_iff_ne]; omega
      clear hlen hfin
      go_wp2
      go_ret
      exact ⟨rfl, hB.out⟩
theorem bitmapLoad_walk (v : Value) (n : Int) (l : List Int) (w : World) (h : Rdv (.int .u8) w v l) (hl : ∀ q ∈ l, 0 ≤ q ∧ q < 256) (hn : -9223372036854775808 ≤ n ∧ n ≤ 9223372036854775807) : Calls Try.prog 12 #[v, .int .i64 n] w (TruePost w) := by
  obtain ⟨a, m, c, rfl⟩ := h.shape
  by_cases hb : n < 0 ∨ 65536 < n
  · obtain ⟨_, h1, h2, _⟩ := h.cap
    unfold maxLen at h2
    exact bmLaw_bad _ a m c n w rfl h1 h2 hb hn
  · obtain ⟨k, rfl⟩ := Int.eq_ofNat_of_zero_le (show 0 ≤ n by omega)
    exact bmLaw_ok a m c l k w h hl (by omega)
theorem bytes_of_row {w : World} {a : Option Addr} {len cap : Nat} {zs : List Int} (h : IsRow .u8 w a len cap zs) : ∀ q ∈ zs.take len, 0 ≤ q ∧ q < 256 := fun q hq => by
  have := bounds_u8 (h.wf q hq)
  omega
end Go.Proofs.Ytgpfkdlnmifiiaa

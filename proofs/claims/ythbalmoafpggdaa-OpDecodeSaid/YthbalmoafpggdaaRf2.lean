/- The reference's reader: bytes, truths, done. -/
import Derived.Test.YthbalmoafpggdaaChecked
import Derived.WalkKit
import Derived.Outline
import Derived.WalkSpells
import Derived.WalkLawsBesides
import Derived.Deep.QuietTactic
import Derived.Deep.RegionWith
import Derived.Deep.DeepMust
import Derived.BigQuiet
import Derived.Test.YthbalmoafpggdaaMem
import Derived.RegionTactic
import Derived.ChangeAlike
import Derived.StillTailTactics
import Derived.Deep.LoopGhost
import Derived.Test.YthbalmoafpggdaaRf
namespace Go.Proofs.Ythbalmoafpggdaa
open Go.RowKit
set_option linter.unusedVariables false
set_option linter.unusedSimpArgs false
theorem fNum' (r B : Nat) (v : Value) (s : RS) (w : World) (h : Rf w r B v s) {n : Nat} {s1 : RS} (hq : numS s = (n, s1)) : Calls Try.prog 63 #[.pointer (some ⟨r, 0, none⟩)] w fun e w' => e = .returned (.int .i64 (n : Nat)) ∧ FStep r B w s1 w' := by
  have := fNum r B v s w h
  unfold FNumPost at this
  rw [hq] at this
  exact this
def FBytesPost (r B : Nat) (s : RS) (w : World) (e : Ending) (w' : World) : Prop := ∃ v, e = .returned v ∧ FreshB w v (bytesS s).1 w' ∧ FStep r B w (bytesS s).2 w'
set_option maxHeartbeats 4000000 in
set_option maxRecDepth 100000 in
theorem fBytes (r B : Nat) (v : Value) (s : RS) (w : World) (h : Rf w r B v s) : Calls Try.prog 65 #[.pointer (some ⟨r, 0, none⟩)] w (FBytesPost r B s w) := by
  obtain ⟨i0, hi, hz0, hz1, hz2⟩ := info_parts Try.info5
  have hbd := numS_bd s
  have S0 := bytesS_none (s := s)
  have S1 := fun l => bytesS_bad (s := s) (l := l)
  have S2 := fun l => bytesS_ok (s := s) (l := l)
  rcases hq : numS s with ⟨n, s1⟩
  have KN := Lib.hid (fNum' r B v s w h hq)
  rw [hq] at hbd S0 S1 S2
  simp only at hbd S0 S1 S2
  have hrl := h.lt
  have hn0 : (0 : Int) ≤ n := by omega
  have hnm : (n : Int) ≤ 4611686018427387904 := by omega
  clear h hq
  by_cases hgood : ∃ l1, s1 = some l1 ∧ n ≤ 65536 ∧ n ≤ l1.length
  · obtain ⟨l1, rfl, hn1, hn2⟩ := hgood
    have HOKS := Lib.hid (S2 l1 rfl hn1 hn2)
    clear S0 S1 S2
    have hd1 : decide ((65536 : Int) < (n : Int)) = false := decide_eq_false (by omega)
    have hd2 : decide (l1.length < n) = false := decide_eq_false (by omega)
    have hl1n : (n : Int) ≤ 65536 := by omega
    have hl2n : (n : Int) ≤ (l1.length : Int) := by omega
    go_enter Try.func65, Try.ntmps65
    go_wp2_with fail
    refine KN.out.mono ?_
    rintro e w1 ⟨rfl, v1, h1, g1⟩
    have pc0 : w1.cell? ⟨r, 0, none⟩ = some v1 := h1.blk.cell (o := 0) rfl
    have pc1 : w1.cell? ⟨r, 1, none⟩ = some (.bool false) := h1.blk.cell (o := 1) rfl
    have hrd : Rdv u8v w1 v1 l1 := h1.rdv
    have hll : l1.length ≤ 100000000000 := h1.len
    have hbt : Byt (l1.drop n) := fun q hq => h1.byt q (List.mem_of_mem_drop hq)
    have HBT := Lib.hid hbt
    have hlt3 := h1.lt
    have H3 := Lib.hid h1
    have G3 := Lib.hid g1
    have hsz : w.heap.size ≤ w1.heap.size := G3.out.size
    rcases h1.inB with rfl | ⟨o3, n3, vc, rfl⟩
    · have hl0 : l1 = [] := by
        obtain ⟨_, _, _, h4⟩ := hrd.cap
        by_cases hl0 : l1 = []
        · exact hl0
        · obtain ⟨_, _, h⟩ := h4 hl0; cases h
      subst hl0
      obtain rfl : n = 0 := by simp at hn2; exact hn2
      have HR := Lib.hid hrd
      clear h1 g1 hrd hbt
      go_wp2_with (at_builtin; refine wpList_append_rd rfl (.const (.slice none 0 0)) _ 24 rfl w.heap.size 5 i0 (.int .u8 0) 1 Try.underlying24 hi hz0 hz1 hz2 rfl (.slice none 0 0) 0 [] rfl (World.ownsRow_nil _ _ _ _) (.slice none 0 0) u8v [] rfl HR.out (fun _ => rfl) ?c1 ?c2 ?c3 ?_)
      case c1 => unfold maxLen; simp
      case c2 => simp
      case c3 => omega
      intro v4 w4 ho4 g4 _
      have hb4 : Below w1.heap.size w1 w4 := (Below.refl _ w1).grown g4 (Nat.le_refl _) (fun k hk => by simp [Value.ownBlock] at hk)
      have H4 := Lib.hid (H3.out.below hb4)
      have pc4 : w4.cell? ⟨r, 0, none⟩ = some (.slice none 0 0) := H4.out.blk.cell (o := 0) rfl
      have pf4 := H4.out.blk.free 0
      have pz4 := H4.out.lt
      have G4 : Hid (Chg (· = r) w w4) := Lib.hid (G3.out.trans (Chg.of_below hb4 (fun i h1 h2 => by omega)))
      have O4 : Hid (w4.ownsRow w.heap.size 5 1 v4 0 [] ∧ ∀ b, v4.ownBlock = some b → ¬ b = r) := Lib.hid ⟨ho4, fun b hb => by have := (ho4.lt b hb).1; omega⟩
      obtain ⟨a4, c4, rfl, _⟩ := own_shape ho4
      clear ho4 g4 hb4 pc0 pc1
      go_wp2
      go_ret
      refine ⟨_, rfl, ?_, ?_⟩
      · rw [HOKS.out]
        exact ownsRow_chg O4.out.1 (Chg.set (S := (· = r)) (Chg.refl _ _) (p := ⟨r, 0, none⟩) (fun _ => rfl) _) O4.out.2
      · rw [HOKS.out]
        exact ⟨_, H4.out.put0 _ [] rfl (Rdv.nil _ _) (.inl rfl) (fun q hq => by simp at hq) (by simp) (fun ⟨_, _, _, e⟩ => by rw [Value.slice.injEq] at e; cases e.1), G4.out.set (fun _ => rfl) _⟩
    · obtain ⟨rfl, hv1, hv2, _⟩ := hrd.cap
      unfold maxLen at hv2
      have HT := Lib.hid (hrd.take n vc hn2 (by omega) (Nat.le_refl _))
      have HR := Lib.hid hrd
      have htl : (l1.take n).length = n := by simp; omega
      have HTL := Lib.hid htl
      clear h1 g1 hrd hbt htl
      go_wp2_with (at_builtin; refine wpList_append_rd rfl (.const (.slice none 0 0)) _ 24 rfl w.heap.size 5 i0 (.int .u8 0) 1 Try.underlying24 hi hz0 hz1 hz2 rfl (.slice none 0 0) 0 [] rfl (World.ownsRow_nil _ _ _ _) (.slice (some ⟨B, o3, none⟩) n vc) u8v (l1.take n) rfl HT.out (fun _ => rfl) ?c1 ?c2 ?c3 ?_)
      case c1 => rw [HTL.out]; unfold maxLen; omega
      case c2 => rw [HTL.out]; omega
      case c3 => omega
      intro v4 w4 ho4 g4 _
      have hb4 : Below w1.heap.size w1 w4 := (Below.refl _ w1).grown g4 (Nat.le_refl _) (fun k hk => by simp [Value.ownBlock] at hk)
      have H4 := Lib.hid (H3.out.below hb4)
      have HR4 := Lib.hid (HR.out.below hb4)
      have pc4 : w4.cell? ⟨r, 0, none⟩ = some (.slice (some ⟨B, o3, none⟩) l1.length vc) := H4.out.blk.cell (o := 0) rfl
      have pf4 := H4.out.blk.free 0
      have pz4 := H4.out.lt
      have G4 : Hid (Chg (· = r) w w4) := Lib.hid (G3.out.trans (Chg.of_below hb4 (fun i h1 h2 => by omega)))
      have O4 : Hid (w4.ownsRow w.heap.size 5 1 v4 (l1.take n).length ((l1.take n).map u8v) ∧ ∀ b, v4.ownBlock = some b → ¬ b = r) := Lib.hid ⟨by rw [HTL.out, List.map_take]; exact ho4, fun b hb => by have := (ho4.lt b hb).1; omega⟩
      obtain ⟨a4, c4, rfl, _⟩ := own_shape ho4
      clear ho4 g4 hb4 pc0 pc1
      go_wp2
      all_goals
        go_ret
        refine ⟨_, rfl, ?_, ?_⟩
        · rw [HOKS.out]
          exact ownsRow_chg O4.out.1 (Chg.set (S := (· = r)) (Chg.refl _ _) (p := ⟨r, 0, none⟩) (fun _ => rfl) _) O4.out.2
        · rw [HOKS.out]
          first
          | exact ⟨_, H4.out.put0 _ (l1.drop n) rfl (HR4.out.drop n (by omega)) (.inr ⟨_, _, _, rfl⟩) HBT.out (by simp; omega) (fun _ => H4.out.ne ⟨_, _, _, rfl⟩), G4.out.set (fun _ => rfl) _⟩
          | exact ⟨_, H4.out.put0 _ (l1.drop n) rfl (rdv_dropF HR4.out n (by omega) _ _ (by unfold maxLen; omega)) (.inr ⟨_, _, _, rfl⟩) HBT.out (by simp; omega) (fun _ => H4.out.ne ⟨_, _, _, rfl⟩), G4.out.set (fun _ => rfl) _⟩
  · have HB : Hid (bytesS s = ([], none)) := Lib.hid (by
      rcases s1 with _ | l1
      · exact S0 rfl
      · refine S1 l1 rfl ?_
        by_cases h1 : 65536 < n
        · exact .inl h1
        · exact .inr (Nat.lt_of_not_le fun h2 => hgood ⟨l1, rfl, by omega, h2⟩))
    clear S0 S1 S2
    have fin : s1 = none ∨ 65536 < n ∨ (∃ l1, s1 = some l1 ∧ n ≤ 65536 ∧ l1.length < n) := by
      rcases s1 with _ | l1
      · exact .inl rfl
      · by_cases h1 : 65536 < n
        · exact .inr (.inl h1)
        · exact .inr (.inr ⟨l1, rfl, by omega, Nat.lt_of_not_le fun h2 => hgood ⟨l1, rfl, by omega, h2⟩⟩)
    clear hgood
    rcases fin with rfl | h1 | ⟨l1, rfl, hn1, hn2⟩
    · go_enter Try.func65, Try.ntmps65
      go_wp2_with fail
      refine KN.out.mono ?_
      rintro e w1 ⟨rfl, v1, h1, g1⟩
      have pc0 : w1.cell? ⟨r, 0, none⟩ = some v1 := h1.blk.cell (o := 0) rfl
      have pc1 := h1.blk.cell (o := 1) rfl
      have KF := Lib.hid (refFail r B v1 _ w1 h1)
      have G1 := Lib.hid g1
      obtain ⟨v1a, v1n, v1c, rfl⟩ := h1.rdv.shape
      obtain ⟨hvn, _, _, _⟩ := h1.rdv.cap
      (try simp only [Option.getD_some] at hvn); (try subst hvn)
      (try skip)
      clear h1 g1 KN
      go_wp2_with fail
      (with_reducible refine KF.out.mono ?_)
      rintro e w3 ⟨rfl, h3⟩
      have H3 := Lib.hid (h3.trans G1.out)
      clear h3
      go_wp2
      go_ret
      exact ⟨_, rfl, by rw [HB.out]; exact freshB_nil _ _, by rw [HB.out]; exact H3.out⟩
    · by_cases hs1 : s1.isNone = true
      · go_enter Try.func65, Try.ntmps65
        go_wp2_with fail
        refine KN.out.mono ?_
        rintro e w1 ⟨rfl, v1, h1, g1⟩
        have pc0 : w1.cell? ⟨r, 0, none⟩ = some v1 := h1.blk.cell (o := 0) rfl
        have pc1 := h1.blk.cell (o := 1) rfl
        have KF := Lib.hid (refFail r B v1 _ w1 h1)
        have G1 := Lib.hid g1
        obtain ⟨v1a, v1n, v1c, rfl⟩ := h1.rdv.shape
        obtain ⟨hvn, _, _, _⟩ := h1.rdv.cap
        (try simp only [Option.getD_some] at hvn); (try subst hvn)
        (try rw [hs1] at pc1)
        clear h1 g1 KN
        go_wp2_with fail
        (with_reducible refine KF.out.mono ?_)
        rintro e w3 ⟨rfl, h3⟩
        have H3 := Lib.hid (h3.trans G1.out)
        clear h3
        go_wp2
        go_ret
        exact ⟨_, rfl, by rw [HB.out]; exact freshB_nil _ _, by rw [HB.out]; exact H3.out⟩
      · have hs1' : s1.isNone = false := Bool.eq_false_iff.2 hs1
        have hd1 : decide ((65536 : Int) < (n : Int)) = true := decide_eq_true (by omega)
        have hgt : (65536 : Int) < n := by omega
        clear hs1
        go_enter Try.func65, Try.ntmps65
        go_wp2_with fail
        refine KN.out.mono ?_
        rintro e w1 ⟨rfl, v1, h1, g1⟩
        have pc0 : w1.cell? ⟨r, 0, none⟩ = some v1 := h1.blk.cell (o := 0) rfl
        have pc1 := h1.blk.cell (o := 1) rfl
        have KF := Lib.hid (refFail r B v1 _ w1 h1)
        have G1 := Lib.hid g1
        obtain ⟨v1a, v1n, v1c, rfl⟩ := h1.rdv.shape
        obtain ⟨hvn, _, _, _⟩ := h1.rdv.cap
        (try simp only [Option.getD_some] at hvn); (try subst hvn)
        (try rw [hs1'] at pc1)
        clear h1 g1 KN
        go_wp2_with fail
        (with_reducible refine KF.out.mono ?_)
        rintro e w3 ⟨rfl, h3⟩
        have H3 := Lib.hid (h3.trans G1.out)
        clear h3
        go_wp2
        go_ret
        exact ⟨_, rfl, by rw [HB.out]; exact freshB_nil _ _, by rw [HB.out]; exact H3.out⟩
    · have hd1 : decide ((65536 : Int) < (n : Int)) = false := decide_eq_false (by omega)
      have hd2 : decide (l1.length < n) = true := decide_eq_true hn2
      go_enter Try.func65, Try.ntmps65
      go_wp2_with fail
      refine KN.out.mono ?_
      rintro e w1 ⟨rfl, v1, h1, g1⟩
      have pc0 : w1.cell? ⟨r, 0, none⟩ = some v1 := h1.blk.cell (o := 0) rfl
      have pc1 := h1.blk.cell (o := 1) rfl
      have KF := Lib.hid (refFail r B v1 _ w1 h1)
      have G1 := Lib.hid g1
      obtain ⟨v1a, v1n, v1c, rfl⟩ := h1.rdv.shape
      obtain ⟨hvn, _, _, _⟩ := h1.rdv.cap
      (try simp only [Option.getD_some] at hvn); (try subst hvn)
      (try skip)
      clear h1 g1 KN
      go_wp2_with fail
      (with_reducible refine KF.out.mono ?_)
      rintro e w3 ⟨rfl, h3⟩
      have H3 := Lib.hid (h3.trans G1.out)
      clear h3
      go_wp2
      go_ret
      exact ⟨_, rfl, by rw [HB.out]; exact freshB_nil _ _, by rw [HB.out]; exact H3.out⟩
def FTruthPost (r B : Nat) (s : RS) (w : World) (e : Ending) (w' : World) : Prop := e = .returned (.bool (truthS s).1) ∧ FStep r B w (truthS s).2 w'
theorem truthS_nil (s : RS) (h : s.getD [] = []) : truthS s = (false, none) := by
  have h2 : numS s = (0, none) := numS_getD s (by rw [h]; exact rd_end [] 9 0 0 (by simp))
  rw [truthS_eq, h2]
theorem truthS_cons (c : Nat) (l : List Int) (hc : c < 256) : truthS (some ((c : Int) :: l)) = if 1 < c then (false, none) else (decide (c = 1), some l) := by
  rw [truthS_eq]
  by_cases h128 : c < 128
  · have h : numR ((c : Int) :: l) = some (c, 1) := by
      have := rd_ret ((c : Int) :: l) 0 0 c (by omega) (by simp) rfl h128 (by omega) (by simp; omega)
      rw [Nat.mod_eq_of_lt h128] at this
      unfold numR
      simpa using this
    rw [numS_of_some h]
    rfl
  · rw [if_pos (by omega)]
    rcases hn : numR ((c : Int) :: l) with _ | ⟨n, k⟩
    · rw [numS_of_none hn]
    · rw [numS_of_some hn]
      have h1 := rd_cont ((c : Int) :: l) 0 0 c (by omega) (by simp) rfl (by omega)
      have h2 : rdN ((c : Int) :: l) (9 - (0 + 1)) (0 + 1) (0 + c % 128 * 2 ^ (7 * 0)) = some (n, k) := h1.symm.trans hn
      have := rdN_low _ _ _ _ _ _ (by omega) h2
      simp at this
      exact if_pos (by omega)
set_option maxHeartbeats 1000000 in
theorem fTruth (r B : Nat) (v : Value) (s : RS) (w : World) (h : Rf w r B v s) : Calls Try.prog 67 #[.pointer (some ⟨r, 0, none⟩)] w (FTruthPost r B s w) := by
  have KF := Lib.hid (refFail r B v s w h)
  have pc0 : w.cell? ⟨r, 0, none⟩ = some v := h.blk.cell (o := 0) rfl
  have pc1 := h.blk.cell (o := 1) rfl
  have pf0 := h.blk.free 0
  have pz := h.lt
  have hlen := h.len
  rcases s with _ | l
  · have HT := Lib.hid (truthS_nil none rfl)
    have pc1' : w.cell? ⟨r, 1, none⟩ = some (.bool true) := pc1
    clear pc1 h
    go_enter Try.func67, Try.ntmps67
    go_wp2_with fail
    (with_reducible refine KF.out.mono ?_)
    rintro e w3 ⟨rfl, h3⟩
    have H3 := Lib.hid h3
    clear h3
    go_wp2
    go_ret
    exact ⟨by rw [HT.out]; rfl, by rw [HT.out]; exact H3.out⟩
  · have pc1' : w.cell? ⟨r, 1, none⟩ = some (.bool false) := pc1
    clear pc1
    rcases l with _ | ⟨x, l⟩
    · have HT := Lib.hid (truthS_nil (some []) rfl)
      obtain ⟨va, vn, vc, rfl⟩ := h.rdv.shape
      obtain ⟨hvn, _, _, _⟩ := h.rdv.cap
      simp at hvn
      subst hvn
      clear h
      go_enter Try.func67, Try.ntmps67
      go_wp2_with fail
      (with_reducible refine KF.out.mono ?_)
      rintro e w3 ⟨rfl, h3⟩
      have H3 := Lib.hid h3
      clear h3
      go_wp2
      go_ret
      exact ⟨by rw [HT.out]; rfl, by rw [HT.out]; exact H3.out⟩
    · have hx := h.byt x (by simp)
      obtain ⟨c, rfl⟩ := Int.eq_ofNat_of_zero_le hx.1
      have hc : c < 256 := by omega
      have hrd : Rdv u8v w v ((c : Int) :: l) := h.rdv
      obtain ⟨va, vn, vc, rfl⟩ := hrd.shape
      obtain ⟨rfl, hv1, hv2, hv3⟩ := hrd.cap
      unfold maxLen at hv2
      simp only [List.length_cons] at *
      obtain ⟨bl, ol, rfl⟩ := hv3 (by simp)
      have hcell := hrd.cell0
      have H1 := Lib.hid h
      have HR := Lib.hid hrd
      have HNE : Hid (bl = B) := Lib.hid (inB_at h.inB _ _ _ _ rfl)
      have HBD : Hid (Byt l) := Lib.hid fun q hq => h.byt q (by simp [hq])
      have hll : l.length ≤ 100000000000 := by have := h.len; simp at this; omega
      have hl0 : ((l.length : Int) + 1 == 0) = false := beq_false_of_ne (by omega)
      by_cases h1 : 1 < c
      · have HT : Hid (truthS (some ((c : Int) :: l)) = (false, none)) := Lib.hid (by rw [truthS_cons c l hc, if_pos h1])
        clear h hrd hv3 hlen
        go_enter Try.func67, Try.ntmps67
        go_wp2_with fail
        (with_reducible refine KF.out.mono ?_)
        rintro e w3 ⟨rfl, h3⟩
        have H3 := Lib.hid h3
        clear h3
        go_wp2
        go_ret
        exact ⟨by rw [HT.out]; rfl, by rw [HT.out]; exact H3.out⟩
      · have HT : Hid (truthS (some ((c : Int) :: l)) = (decide (c = 1), some l)) := Lib.hid (by rw [truthS_cons c l hc, if_neg h1])
        have hc2 : c = 0 ∨ c = 1 := by omega
        have hce : ((c : Int) == 1) = decide (c = 1) := by rcases hc2 with rfl | rfl <;> rfl
        generalize decide (c = 1) = q at *
        have hc1 : (c : Int) ≤ 1 := by omega
        have hcd : decide ((1 : Int) < (c : Int)) = false := decide_eq_false (by omega)
        clear h hrd hv3 hlen hc2
        go_enter Try.func67, Try.ntmps67
        go_wp2
        all_goals
          go_ret
          refine ⟨by rw [HT.out]; rfl, ?_⟩
          rw [HT.out]
          first
          | exact ⟨_, H1.out.put0 _ l rfl (by have := HR.out.drop 1 (by omega); simpa using this) (.inr ⟨_, _, _, by rw [HNE.out]⟩) HBD.out hll (fun _ => H1.out.ne ⟨_, _, _, by rw [HNE.out]⟩), Chg.set (S := (· = r)) (Chg.refl _ _) (p := ⟨r, 0, none⟩) (fun _ => rfl) _⟩
          | exact ⟨_, H1.out.put0 _ l rfl (by have := rdv_dropF HR.out 1 (by omega) (some ⟨bl, ol, none⟩) 0 (by unfold maxLen; omega); simpa using this) (.inr ⟨_, _, _, by rw [HNE.out]⟩) HBD.out hll (fun _ => H1.out.ne ⟨_, _, _, by rw [HNE.out]⟩), Chg.set (S := (· = r)) (Chg.refl _ _) (p := ⟨r, 0, none⟩) (fun _ => rfl) _⟩
theorem fDone (r B : Nat) (v : Value) (s : RS) (w : World) (h : Rf w r B v s) : Calls Try.prog 23 #[.pointer (some ⟨r, 0, none⟩)] w fun e w' => e = .returned (.bool (decide (s = some []))) ∧ w = w' := by
  have pc0 : w.cell? ⟨r, 0, none⟩ = some v := h.blk.cell (o := 0) rfl
  have pc1 := h.blk.cell (o := 1) rfl
  have pz := h.lt
  obtain ⟨va, vn, vc, rfl⟩ := h.rdv.shape
  obtain ⟨hvn, _, _, _⟩ := h.rdv.cap
  subst hvn
  rcases s with _ | l
  · have pc1' : w.cell? ⟨r, 1, none⟩ = some (.bool true) := pc1
    clear pc1 h
    go_enter Try.func23, Try.ntmps23
    go_wp2
    go_ret
    exact ⟨rfl, rfl⟩
  · have pc1' : w.cell? ⟨r, 1, none⟩ = some (.bool false) := pc1
    clear pc1 h
    rcases l with _ | ⟨x, l⟩
    all_goals
      simp only [Option.getD_some, List.length_cons, List.length_nil] at *
      go_enter Try.func23, Try.ntmps23
      go_wp2
      go_ret
      exact ⟨ret_b (by first | (simp; done) | (simp; omega)), rfl⟩
end Go.Proofs.Ythbalmoafpggdaa

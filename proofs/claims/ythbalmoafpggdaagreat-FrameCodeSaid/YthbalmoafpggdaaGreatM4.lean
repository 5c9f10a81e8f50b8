/- The reference's reader. The reference's reader: bytes, truths, done. The reference's reader: IDs. The reference's reader: vectors. -/
import Derived.Test.YthbalmoafpggdaaGreatChecked
import Derived.WalkKit
import Derived.Outline
import Derived.WalkSpells
import Derived.WalkLawsBesides
import Derived.Deep.QuietTactic
import Derived.Deep.RegionWith
import Derived.Deep.DeepMust
import Derived.BigQuiet
import Derived.RegionTactic
import Derived.ChangeAlike
import Derived.StillTailTactics
import Derived.Deep.LoopGhost
import Derived.Test.YthbalmoafpggdaaGreatM1
import Derived.Test.YthbalmoafpggdaaGreatM3
namespace Go.Proofs.YthbalmoafpggdaaGreat
open Go.RowKit
set_option linter.unusedVariables false
set_option linter.unusedSimpArgs false
abbrev Rf := RdT 79
abbrev FStep := RStepT 79
theorem refFail (r B : Nat) (v : Value) (s : RS) (w : World) (h : Rf w r B v s) : Calls Tryz.prog 86 #[.pointer (some ⟨r, 0, none⟩)] w fun e w' => e = .returned (.tuple #[]) ∧ FStep r B w none w' := by
  have pc0 : w.cell? ⟨r, 0, none⟩ = some v := h.blk.cell (o := 0) rfl
  have pc1 : w.cell? ⟨r, 1, none⟩ = some (.bool s.isNone) := h.blk.cell (o := 1) rfl
  have pf0 := h.blk.free 0
  have pf1 := h.blk.free 1
  have pz := h.lt
  obtain ⟨va, vn, vc, rfl⟩ := h.rdv.shape
  have H := Lib.hid h
  clear h
  have g1 : ∀ q, Chg (· = r) w (w.setCell ⟨r, 1, none⟩ (.bool q)) := fun q => Chg.set (S := (· = r)) (Chg.refl _ _) (p := ⟨r, 1, none⟩) (fun _ => rfl) _
  have G1 := Lib.hid g1
  clear g1
  go_enter Tryz.func86, Tryz.ntmps86
  go_wp2
  go_end0
  exact ⟨rfl, _, H.out.kill, (G1.out true).set (fun _ => rfl) _⟩
def FNumPost (r B : Nat) (s : RS) (w : World) (e : Ending) (w' : World) : Prop := e = .returned (.int .i64 ((numS s).1 : Nat)) ∧ FStep r B w (numS s).2 w'
theorem numS_getD (s : RS) (h : numR (s.getD []) = none) : numS s = (0, none) := by
  rcases s with _ | l
  · rfl
  · exact numS_of_none h
theorem numS_getD_some (s : RS) {n k : Nat} (h : numR (s.getD []) = some (n, k)) : s = some (s.getD []) ∧ numS s = (n, some ((s.getD []).drop k)) := by
  rcases s with _ | l
  · have : numR [] = none := rd_end [] 9 0 0 (by simp)
    simp only [Option.getD_none] at h
    rw [this] at h; cases h
  · exact ⟨rfl, numS_of_some h⟩
set_option maxHeartbeats 8000000 in
set_option maxRecDepth 100000 in
theorem fNum (r B : Nat) (v : Value) (s : RS) (w : World) (h : Rf w r B v s) : Calls Tryz.prog 45 #[.pointer (some ⟨r, 0, none⟩)] w (FNumPost r B s w) := by
  have KF := Lib.hid (refFail r B v s w h)
  have hlen := h.len
  have hbyt : Hid (Byt (s.getD [])) := Lib.hid h.byt
  have pc0 : w.cell? ⟨r, 0, none⟩ = some v := h.blk.cell (o := 0) rfl
  have pf0 := h.blk.free 0
  have pz := h.lt
  have hrd := h.rdv
  have H1 := Lib.hid h
  obtain ⟨va, vn, vc, rfl⟩ := hrd.shape
  obtain ⟨hvn, hv1, hv2, _⟩ := hrd.cap
  unfold maxLen at hv2
  have HSG := Lib.hid (fun n k => numS_getD_some s (n := n) (k := k))
  generalize hl : s.getD [] = l at *
  subst hvn
  have HR := Lib.hid hrd
  have HL := Lib.hid hl
  clear h hrd hl
  go_enter Tryz.func45, Tryz.ntmps45
  go_wp2_with fail
  go_loop [3, 4] (fun nv i => ∃ k n : Nat, k ≤ l.length ∧ k ≤ 9 ∧ i = .int .i64 k ∧ nv = .int .i64 n ∧ n < 2 ^ (7 * k) ∧ rdN l (9 - k) k n = numR l) (fun _ i => 9 - (intOf i).toNat)
  case atStart => exact ⟨0, 0, by omega, by omega, rfl, rfl, by simp, rfl⟩
  case round =>
    obtain ⟨k, n, hk, hk9, rfl, rfl, hn, hrd⟩ := hrel
    have HN := Lib.hid hn
    have HD : Hid (rdN l (9 - k) k n = numR (s.getD [])) := Lib.hid (by rw [HL.out]; exact hrd)
    clear hn hrd
    by_cases hk8 : k < 9
    · by_cases hlt : k < l.length
      · obtain ⟨bl, ol, rfl, hcell⟩ := rdv_at HR.out k hlt
        obtain ⟨c, hce, hc⟩ := hbyt.out.at_ k hlt
        rw [hce] at hcell
        have HC := Lib.hid hce
        clear hce
        obtain ⟨X, hX⟩ : ∃ X, X = c % 128 * 2 ^ (7 * k) := ⟨_, rfl⟩
        have h63 : n + X < 9223372036854775808 := by
          have hp : 2 ^ (7 * (k + 1)) = 128 * 2 ^ (7 * k) := by rw [show 7 * (k + 1) = 7 + 7 * k by omega, Nat.pow_add]
          have h1 : c % 128 * 2 ^ (7 * k) ≤ 127 * 2 ^ (7 * k) := Nat.mul_le_mul_right _ (by omega)
          have h56 : 2 ^ (7 * (k + 1)) ≤ 9223372036854775808 := Nat.pow_le_pow_right (by omega) (by omega : 7 * (k + 1) ≤ 63)
          have := HN.out
          omega
        have hsmall : Hid (n + X < 2 ^ (7 * (k + 1))) := Lib.hid (by
          have hp : 2 ^ (7 * (k + 1)) = 128 * 2 ^ (7 * k) := by rw [show 7 * (k + 1) = 7 + 7 * k by omega, Nat.pow_add]
          have h1 : c % 128 * 2 ^ (7 * k) ≤ 127 * 2 ^ (7 * k) := Nat.mul_le_mul_right _ (by omega)
          have := HN.out
          omega)
        have hXw : wrap64 ((c : Int) % 128 * 2 ^ (7 * k)) = (X : Int) := by
          rw [show (c : Int) % 128 = ((c % 128 : Nat) : Int) by omega, pow_cast', ← Int.natCast_mul, ← hX, wrap64_nat _ (by omega)]
        have HX := Lib.hid hX
        clear hX
        by_cases h128 : c < 128
        · by_cases hc0 : c = 0
          · have hcz : ((c : Int) == 0) = true := by rw [beq_iff_eq]; omega
            have HC0 := Lib.hid hc0
            by_cases hk0 : 0 < k
            · clear hc0
              have HS := Lib.hid (numS_getD s (HD.out ▸ (rd_none l k n c (by omega) hlt HC.out (.inl ⟨h128, .inl ⟨HC0.out, hk0⟩⟩))))
              go_wp2_with fail
              (with_reducible refine KF.out.mono ?_)
              rintro e w2 ⟨rfl, h2⟩
              have H2 := Lib.hid h2
              clear h2
              go_wp2
              go_ret
              exact ⟨by rw [HS.out]; rfl, by rw [HS.out]; exact H2.out⟩
            · have hkz : k ≤ 0 := by omega
              have hnb : n + X ≤ 4611686018427387904 := by
                have h1 := HX.out
                have h2 := HN.out
                rw [hc0] at h1
                have hk' : k = 0 := by omega
                rw [hk'] at h2
                simp at h1
                simp at h2
                omega
              have HG : Hid (¬ (c = 0 ∧ 0 < k)) := Lib.hid (by omega)
              clear hc0 hk0
              have HSS := Lib.hid (HSG.out (n + X) (k + 1) (HL.out ▸ HD.out ▸ HL.out ▸ (by rw [rd_ret l k n c (by omega) hlt HC.out h128 HG.out (by rw [← HX.out]; exact hnb), ← HX.out] : rdN l (9 - k) k n = some (n + X, k + 1)) : numR l = some (n + X, k + 1)))
              have hbd : Byt (l.drop (k + 1)) := fun q hq => hbyt.out q (List.mem_of_mem_drop hq)
              have HBD := Lib.hid hbd
              have HNE : Hid (bl = B) := Lib.hid (inB_at H1.out.inB _ _ _ _ rfl)
              clear hbd
              go_wp2
              all_goals
                go_ret
                refine ⟨by rw [HSS.out.2]; first | rfl | exact ret_i (by omega), ?_⟩
                rw [HSS.out.2]
                first
                | exact ⟨_, H1.out.put0 _ (l.drop (k + 1)) (by rw [HSS.out.1]; rfl) (HR.out.drop (k + 1) (by omega)) (.inr ⟨_, _, _, by rw [HNE.out]⟩) HBD.out (by simp; omega) (fun _ => H1.out.ne ⟨_, _, _, by rw [HNE.out]⟩), Chg.set (S := (· = r)) (Chg.refl _ _) (p := ⟨r, 0, none⟩) (fun _ => rfl) _⟩
                | exact ⟨_, H1.out.put0 _ (l.drop (k + 1)) (by rw [HSS.out.1]; rfl) (rdv_dropF HR.out (k + 1) (by omega) _ _ (by unfold maxLen; omega)) (.inr ⟨_, _, _, by rw [HNE.out]⟩) HBD.out (by simp; omega) (fun _ => H1.out.ne ⟨_, _, _, by rw [HNE.out]⟩), Chg.set (S := (· = r)) (Chg.refl _ _) (p := ⟨r, 0, none⟩) (fun _ => rfl) _⟩
          · have hcz : ((c : Int) == 0) = false := beq_false_of_ne (by omega)
            have HG : Hid (¬ (c = 0 ∧ 0 < k)) := Lib.hid (by omega)
            clear hc0
            by_cases hbig : 4611686018427387904 < n + X
            · have HS := Lib.hid (numS_getD s (HD.out ▸ (rd_none l k n c (by omega) hlt HC.out (.inl ⟨h128, .inr (by rw [← HX.out]; exact hbig)⟩))))
              go_wp2_with fail
              (with_reducible refine KF.out.mono ?_)
              rintro e w2 ⟨rfl, h2⟩
              have H2 := Lib.hid h2
              clear h2
              go_wp2
              go_ret
              exact ⟨by rw [HS.out]; rfl, by rw [HS.out]; exact H2.out⟩
            · have hnb : n + X ≤ 4611686018427387904 := by omega
              clear hbig
              have HSS := Lib.hid (HSG.out (n + X) (k + 1) (HL.out ▸ HD.out ▸ HL.out ▸ (by rw [rd_ret l k n c (by omega) hlt HC.out h128 HG.out (by rw [← HX.out]; exact hnb), ← HX.out] : rdN l (9 - k) k n = some (n + X, k + 1)) : numR l = some (n + X, k + 1)))
              have hbd : Byt (l.drop (k + 1)) := fun q hq => hbyt.out q (List.mem_of_mem_drop hq)
              have HBD := Lib.hid hbd
              have HNE : Hid (bl = B) := Lib.hid (inB_at H1.out.inB _ _ _ _ rfl)
              clear hbd
              go_wp2
              all_goals
                go_ret
                refine ⟨by rw [HSS.out.2]; first | rfl | exact ret_i (by omega), ?_⟩
                rw [HSS.out.2]
                first
                | exact ⟨_, H1.out.put0 _ (l.drop (k + 1)) (by rw [HSS.out.1]; rfl) (HR.out.drop (k + 1) (by omega)) (.inr ⟨_, _, _, by rw [HNE.out]⟩) HBD.out (by simp; omega) (fun _ => H1.out.ne ⟨_, _, _, by rw [HNE.out]⟩), Chg.set (S := (· = r)) (Chg.refl _ _) (p := ⟨r, 0, none⟩) (fun _ => rfl) _⟩
                | exact ⟨_, H1.out.put0 _ (l.drop (k + 1)) (by rw [HSS.out.1]; rfl) (rdv_dropF HR.out (k + 1) (by omega) _ _ (by unfold maxLen; omega)) (.inr ⟨_, _, _, by rw [HNE.out]⟩) HBD.out (by simp; omega) (fun _ => H1.out.ne ⟨_, _, _, by rw [HNE.out]⟩), Chg.set (S := (· = r)) (Chg.refl _ _) (p := ⟨r, 0, none⟩) (fun _ => rfl) _⟩
        · by_cases hk8e : k = 8
          · have HK := Lib.hid hk8e
            have HCT := Lib.hid (rd_none l k n c (by omega) hlt HC.out (.inr ⟨by omega, hk8e⟩))
            clear hk8e
            go_wp2
            go_round
            case rel => exact ⟨k + 1, n + X, by omega, by omega, by go_num, by go_num, hsmall.out, by rw [show 9 - (k + 1) = 0 by have := HK.out; omega, ← HL.out, ← HD.out, HL.out, HCT.out]; rfl⟩
            case measure => simp [intOf]; omega
          · have HCT := Lib.hid (rd_cont l k n c (by omega) hlt HC.out (by omega))
            clear hk8e
            go_wp2
            go_round
            case rel => exact ⟨k + 1, n + X, by omega, by omega, by go_num, by go_num, hsmall.out, by rw [HX.out, ← HCT.out, ← HL.out, ← HD.out, HL.out]⟩
            case measure => simp [intOf]; omega
      · have HS := Lib.hid (numS_getD s (HD.out ▸ (rd_end l (9 - k) k n (by omega))))
        go_wp2_with fail
        (with_reducible refine KF.out.mono ?_)
        rintro e w2 ⟨rfl, h2⟩
        have H2 := Lib.hid h2
        clear h2
        go_wp2
        go_ret
        exact ⟨by rw [HS.out]; rfl, by rw [HS.out]; exact H2.out⟩
    · have HS := Lib.hid (numS_getD s (HD.out ▸ ((by rw [show 9 - k = 0 by omega]; rfl : rdN l (9 - k) k n = none))))
      go_wp2_with fail
      (with_reducible refine KF.out.mono ?_)
      rintro e w2 ⟨rfl, h2⟩
      have H2 := Lib.hid h2
      clear h2
      go_wp2
      go_ret
      exact ⟨by rw [HS.out]; rfl, by rw [HS.out]; exact H2.out⟩
end Go.Proofs.YthbalmoafpggdaaGreat
namespace Go.Proofs.YthbalmoafpggdaaGreat
open Go.RowKit
set_option linter.unusedVariables false
set_option linter.unusedSimpArgs false
theorem fNum' (r B : Nat) (v : Value) (s : RS) (w : World) (h : Rf w r B v s) {n : Nat} {s1 : RS} (hq : numS s = (n, s1)) : Calls Tryz.prog 45 #[.pointer (some ⟨r, 0, none⟩)] w fun e w' => e = .returned (.int .i64 (n : Nat)) ∧ FStep r B w s1 w' := by
  have := fNum r B v s w h
  unfold FNumPost at this
  rw [hq] at this
  exact this
def FBytesPost (r B : Nat) (s : RS) (w : World) (e : Ending) (w' : World) : Prop := ∃ v, e = .returned v ∧ FreshB w v (bytesS s).1 w' ∧ FStep r B w (bytesS s).2 w'
set_option maxHeartbeats 4000000 in
set_option maxRecDepth 100000 in
theorem fBytes (r B : Nat) (v : Value) (s : RS) (w : World) (h : Rf w r B v s) : Calls Tryz.prog 88 #[.pointer (some ⟨r, 0, none⟩)] w (FBytesPost r B s w) := by
  obtain ⟨i0, hi, hz0, hz1, hz2⟩ := info_parts Tryz.info5
  have hbd := numS_bd s
  have S0 := bytesS_none (s := s)
  have S1 := fun l => bytesS_bad (s := s) (l := l)
  have S2 := fun l => bytesS_ok (s := s) (l := l)
  rcases hq : numS s with ⟨n, s1⟩
  have KN := Lib.hid (fNum' r B v s w h hq)
  rw [hq] at hbd S0 S1 S2
  simp only at hbd S0 S1 S2
  have hrl := h.lt
  have hn0 : (0 : Int) ≤ n := by omega
  have hnm : (n : Int) ≤ 4611686018427387904 := by omega
  clear h hq
  by_cases hgood : ∃ l1, s1 = some l1 ∧ n ≤ 65536 ∧ n ≤ l1.length
  · obtain ⟨l1, rfl, hn1, hn2⟩ := hgood
    have HOKS := Lib.hid (S2 l1 rfl hn1 hn2)
    clear S0 S1 S2
    have hd1 : decide ((65536 : Int) < (n : Int)) = false := decide_eq_false (by omega)
    have hd2 : decide (l1.length < n) = false := decide_eq_false (by omega)
    have hl1n : (n : Int) ≤ 65536 := by omega
    have hl2n : (n : Int) ≤ (l1.length : Int) := by omega
    go_enter Tryz.func88, Tryz.ntmps88
    go_wp2_with fail
    refine KN.out.mono ?_
    rintro e w1 ⟨rfl, v1, h1, g1⟩
    have pc0 : w1.cell? ⟨r, 0, none⟩ = some v1 := h1.blk.cell (o := 0) rfl
    have pc1 : w1.cell? ⟨r, 1, none⟩ = some (.bool false) := h1.blk.cell (o := 1) rfl
    have hrd : Rdv u8v w1 v1 l1 := h1.rdv
    have hll : l1.length ≤ 100000000000 := h1.len
    have hbt : Byt (l1.drop n) := fun q hq => h1.byt q (List.mem_of_mem_drop hq)
    have HBT := Lib.hid hbt
    have hlt3 := h1.lt
    have H3 := Lib.hid h1
    have G3 := Lib.hid g1
    have hsz : w.heap.size ≤ w1.heap.size := G3.out.size
    rcases h1.inB with rfl | ⟨o3, n3, vc, rfl⟩
    · have hl0 : l1 = [] := by
        obtain ⟨_, _, _, h4⟩ := hrd.cap
        by_cases hl0 : l1 = []
        · exact hl0
        · obtain ⟨_, _, h⟩ := h4 hl0; cases h
      subst hl0
      obtain rfl : n = 0 := by simp at hn2; exact hn2
      have HR := Lib.hid hrd
      clear h1 g1 hrd hbt
      go_wp2_with (at_builtin; refine wpList_append_rd rfl (.const (.slice none 0 0)) _ 30 rfl w.heap.size 5 i0 (.int .u8 0) 1 Tryz.underlying30 hi hz0 hz1 hz2 rfl (.slice none 0 0) 0 [] rfl (World.ownsRow_nil _ _ _ _) (.slice none 0 0) u8v [] rfl HR.out (fun _ => rfl) ?c1 ?c2 ?c3 ?_)
      case c1 => unfold maxLen; simp
      case c2 => simp
      case c3 => omega
      intro v4 w4 ho4 g4 _
      have hb4 : Below w1.heap.size w1 w4 := (Below.refl _ w1).grown g4 (Nat.le_refl _) (fun k hk => by simp [Value.ownBlock] at hk)
      have H4 := Lib.hid (H3.out.below hb4)
      have pc4 : w4.cell? ⟨r, 0, none⟩ = some (.slice none 0 0) := H4.out.blk.cell (o := 0) rfl
      have pf4 := H4.out.blk.free 0
      have pz4 := H4.out.lt
      have G4 : Hid (Chg (· = r) w w4) := Lib.hid (G3.out.trans (Chg.of_below hb4 (fun i h1 h2 => by omega)))
      have O4 : Hid (w4.ownsRow w.heap.size 5 1 v4 0 [] ∧ ∀ b, v4.ownBlock = some b → ¬ b = r) := Lib.hid ⟨ho4, fun b hb => by have := (ho4.lt b hb).1; omega⟩
      obtain ⟨a4, c4, rfl, _⟩ := own_shape ho4
      clear ho4 g4 hb4 pc0 pc1
      go_wp2
      go_ret
      refine ⟨_, rfl, ?_, ?_⟩
      · rw [HOKS.out]
        exact ownsRow_chg O4.out.1 (Chg.set (S := (· = r)) (Chg.refl _ _) (p := ⟨r, 0, none⟩) (fun _ => rfl) _) O4.out.2
      · rw [HOKS.out]
        exact ⟨_, H4.out.put0 _ [] rfl (Rdv.nil _ _) (.inl rfl) (fun q hq => by simp at hq) (by simp) (fun ⟨_, _, _, e⟩ => by rw [Value.slice.injEq] at e; cases e.1), G4.out.set (fun _ => rfl) _⟩
    · obtain ⟨rfl, hv1, hv2, _⟩ := hrd.cap
      unfold maxLen at hv2
      have HT := Lib.hid (hrd.take n vc hn2 (by omega) (Nat.le_refl _))
      have HR := Lib.hid hrd
      have htl : (l1.take n).length = n := by simp; omega
      have HTL := Lib.hid htl
      clear h1 g1 hrd hbt htl
      go_wp2_with (at_builtin; refine wpList_append_rd rfl (.const (.slice none 0 0)) _ 30 rfl w.heap.size 5 i0 (.int .u8 0) 1 Tryz.underlying30 hi hz0 hz1 hz2 rfl (.slice none 0 0) 0 [] rfl (World.ownsRow_nil _ _ _ _) (.slice (some ⟨B, o3, none⟩) n vc) u8v (l1.take n) rfl HT.out (fun _ => rfl) ?c1 ?c2 ?c3 ?_)
      case c1 => rw [HTL.out]; unfold maxLen; omega
      case c2 => rw [HTL.out]; omega
      case c3 => omega
      intro v4 w4 ho4 g4 _
      have hb4 : Below w1.heap.size w1 w4 := (Below.refl _ w1).grown g4 (Nat.le_refl _) (fun k hk => by simp [Value.ownBlock] at hk)
      have H4 := Lib.hid (H3.out.below hb4)
      have HR4 := Lib.hid (HR.out.below hb4)
      have pc4 : w4.cell? ⟨r, 0, none⟩ = some (.slice (some ⟨B, o3, none⟩) l1.length vc) := H4.out.blk.cell (o := 0) rfl
      have pf4 := H4.out.blk.free 0
      have pz4 := H4.out.lt
      have G4 : Hid (Chg (· = r) w w4) := Lib.hid (G3.out.trans (Chg.of_below hb4 (fun i h1 h2 => by omega)))
      have O4 : Hid (w4.ownsRow w.heap.size 5 1 v4 (l1.take n).length ((l1.take n).map u8v) ∧ ∀ b, v4.ownBlock = some b → ¬ b = r) := Lib.hid ⟨by rw [HTL.out, List.map_take]; exact ho4, fun b hb => by have := (ho4.lt b hb).1; omega⟩
      obtain ⟨a4, c4, rfl, _⟩ := own_shape ho4
      clear ho4 g4 hb4 pc0 pc1
      go_wp2
      all_goals
        go_ret
        refine ⟨_, rfl, ?_, ?_⟩
        · rw [HOKS.out]
          exact ownsRow_chg O4.out.1 (Chg.set (S := (· = r)) (Chg.refl _ _) (p := ⟨r, 0, none⟩) (fun _ => rfl) _) O4.out.2
        · rw [HOKS.out]
          first
          | exact ⟨_, H4.out.put0 _ (l1.drop n) rfl (HR4.out.drop n (by omega)) (.inr ⟨_, _, _, rfl⟩) HBT.out (by simp; omega) (fun _ => H4.out.ne ⟨_, _, _, rfl⟩), G4.out.set (fun _ => rfl) _⟩
          | exact ⟨_, H4.out.put0 _ (l1.drop n) rfl (rdv_dropF HR4.out n (by omega) _ _ (by unfold maxLen; omega)) (.inr ⟨_, _, _, rfl⟩) HBT.out (by simp; omega) (fun _ => H4.out.ne ⟨_, _, _, rfl⟩), G4.out.set (fun _ => rfl) _⟩
  · have HB : Hid (bytesS s = ([], none)) := Lib.hid (by
      rcases s1 with _ | l1
      · exact S0 rfl
      · refine S1 l1 rfl ?_
        by_cases h1 : 65536 < n
        · exact .inl h1
        · exact .inr (Nat.lt_of_not_le fun h2 => hgood ⟨l1, rfl, by omega, h2⟩))
    clear S0 S1 S2
    have fin : s1 = none ∨ 65536 < n ∨ (∃ l1, s1 = some l1 ∧ n ≤ 65536 ∧ l1.length < n) := by
      rcases s1 with _ | l1
      · exact .inl rfl
      · by_cases h1 : 65536 < n
        · exact .inr (.inl h1)
        · exact .inr (.inr ⟨l1, rfl, by omega, Nat.lt_of_not_le fun h2 => hgood ⟨l1, rfl, by omega, h2⟩⟩)
    clear hgood
    rcases fin with rfl | h1 | ⟨l1, rfl, hn1, hn2⟩
    · go_enter Tryz.func88, Tryz.ntmps88
      go_wp2_with fail
      refine KN.out.mono ?_
      rintro e w1 ⟨rfl, v1, h1, g1⟩
      have pc0 : w1.cell? ⟨r, 0, none⟩ = some v1 := h1.blk.cell (o := 0) rfl
      have pc1 := h1.blk.cell (o := 1) rfl
      have KF := Lib.hid (refFail r B v1 _ w1 h1)
      have G1 := Lib.hid g1
      obtain ⟨v1a, v1n, v1c, rfl⟩ := h1.rdv.shape
      obtain ⟨hvn, _, _, _⟩ := h1.rdv.cap
      (try simp only [Option.getD_some] at hvn); (try subst hvn)
      (try skip)
      clear h1 g1 KN
      go_wp2_with fail
      (with_reducible refine KF.out.mono ?_)
      rintro e w3 ⟨rfl, h3⟩
      have H3 := Lib.hid (h3.trans G1.out)
      clear h3
      go_wp2
      go_ret
      exact ⟨_, rfl, by rw [HB.out]; exact freshB_nil _ _, by rw [HB.out]; exact H3.out⟩
    · by_cases hs1 : s1.isNone = true
      · go_enter Tryz.func88, Tryz.ntmps88
        go_wp2_with fail
        refine KN.out.mono ?_
        rintro e w1 ⟨rfl, v1, h1, g1⟩
        have pc0 : w1.cell? ⟨r, 0, none⟩ = some v1 := h1.blk.cell (o := 0) rfl
        have pc1 := h1.blk.cell (o := 1) rfl
        have KF := Lib.hid (refFail r B v1 _ w1 h1)
        have G1 := Lib.hid g1
        obtain ⟨v1a, v1n, v1c, rfl⟩ := h1.rdv.shape
        obtain ⟨hvn, _, _, _⟩ := h1.rdv.cap
        (try simp only [Option.getD_some] at hvn); (try subst hvn)
        (try rw [hs1] at pc1)
        clear h1 g1 KN
        go_wp2_with fail
        (with_reducible refine KF.out.mono ?_)
        rintro e w3 ⟨rfl, h3⟩
        have H3 := Lib.hid (h3.trans G1.out)
        clear h3
        go_wp2
        go_ret
        exact ⟨_, rfl, by rw [HB.out]; exact freshB_nil _ _, by rw [HB.out]; exact H3.out⟩
      · have hs1' : s1.isNone = false := Bool.eq_false_iff.2 hs1
        have hd1 : decide ((65536 : Int) < (n : Int)) = true := decide_eq_true (by omega)
        have hgt : (65536 : Int) < n := by omega
        clear hs1
        go_enter Tryz.func88, Tryz.ntmps88
        go_wp2_with fail
        refine KN.out.mono ?_
        rintro e w1 ⟨rfl, v1, h1, g1⟩
        have pc0 : w1.cell? ⟨r, 0, none⟩ = some v1 := h1.blk.cell (o := 0) rfl
        have pc1 := h1.blk.cell (o := 1) rfl
        have KF := Lib.hid (refFail r B v1 _ w1 h1)
        have G1 := Lib.hid g1
        obtain ⟨v1a, v1n, v1c, rfl⟩ := h1.rdv.shape
        obtain ⟨hvn, _, _, _⟩ := h1.rdv.cap
        (try simp only [Option.getD_some] at hvn); (try subst hvn)
        (try rw [hs1'] at pc1)
        clear h1 g1 KN
        go_wp2_with fail
        (with_reducible refine KF.out.mono ?_)
        rintro e w3 ⟨rfl, h3⟩
        have H3 := Lib.hid (h3.trans G1.out)
        clear h3
        go_wp2
        go_ret
        exact ⟨_, rfl, by rw [HB.out]; exact freshB_nil _ _, by rw [HB.out]; exact H3.out⟩
    · have hd1 : decide ((65536 : Int) < (n : Int)) = false := decide_eq_false (by omega)
      have hd2 : decide (l1.length < n) = true := decide_eq_true hn2
      go_enter Tryz.func88, Tryz.ntmps88
      go_wp2_with fail
      refine KN.out.mono ?_
      rintro e w1 ⟨rfl, v1, h1, g1⟩
      have pc0 : w1.cell? ⟨r, 0, none⟩ = some v1 := h1.blk.cell (o := 0) rfl
      have pc1 := h1.blk.cell (o := 1) rfl
      have KF := Lib.hid (refFail r B v1 _ w1 h1)
      have G1 := Lib.hid g1
      obtain ⟨v1a, v1n, v1c, rfl⟩ := h1.rdv.shape
      obtain ⟨hvn, _, _, _⟩ := h1.rdv.cap
      (try simp only [Option.getD_some] at hvn); (try subst hvn)
      (try skip)
      clear h1 g1 KN
      go_wp2_with fail
      (with_reducible refine KF.out.mono ?_)
      rintro e w3 ⟨rfl, h3⟩
      have H3 := Lib.hid (h3.trans G1.out)
      clear h3
      go_wp2
      go_ret
      exact ⟨_, rfl, by rw [HB.out]; exact freshB_nil _ _, by rw [HB.out]; exact H3.out⟩
def FTruthPost (r B : Nat) (s : RS) (w : World) (e : Ending) (w' : World) : Prop := e = .returned (.bool (truthS s).1) ∧ FStep r B w (truthS s).2 w'
theorem truthS_nil (s : RS) (h : s.getD [] = []) : truthS s = (false, none) := by
  have h2 : numS s = (0, none) := numS_getD s (by rw [h]; exact rd_end [] 9 0 0 (by simp))
  rw [truthS_eq, h2]
theorem truthS_cons (c : Nat) (l : List Int) (hc : c < 256) : truthS (some ((c : Int) :: l)) = if 1 < c then (false, none) else (decide (c = 1), some l) := by
  rw [truthS_eq]
  by_cases h128 : c < 128
  · have h : numR ((c : Int) :: l) = some (c, 1) := by
      have := rd_ret ((c : Int) :: l) 0 0 c (by omega) (by simp) rfl h128 (by omega) (by simp; omega)
      rw [Nat.mod_eq_of_lt h128] at this
      unfold numR
      simpa using this
    rw [numS_of_some h]
    rfl
  · rw [if_pos (by omega)]
    rcases hn : numR ((c : Int) :: l) with _ | ⟨n, k⟩
    · rw [numS_of_none hn]
    · rw [numS_of_some hn]
      have h1 := rd_cont ((c : Int) :: l) 0 0 c (by omega) (by simp) rfl (by omega)
      have h2 : rdN ((c : Int) :: l) (9 - (0 + 1)) (0 + 1) (0 + c % 128 * 2 ^ (7 * 0)) = some (n, k) := h1.symm.trans hn
      have := rdN_low _ _ _ _ _ _ (by omega) h2
      simp at this
      exact if_pos (by omega)
set_option maxHeartbeats 1000000 in
theorem fTruth (r B : Nat) (v : Value) (s : RS) (w : World) (h : Rf w r B v s) : Calls Tryz.prog 46 #[.pointer (some ⟨r, 0, none⟩)] w (FTruthPost r B s w) := by
  have KF := Lib.hid (refFail r B v s w h)
  have pc0 : w.cell? ⟨r, 0, none⟩ = some v := h.blk.cell (o := 0) rfl
  have pc1 := h.blk.cell (o := 1) rfl
  have pf0 := h.blk.free 0
  have pz := h.lt
  have hlen := h.len
  rcases s with _ | l
  · have HT := Lib.hid (truthS_nil none rfl)
    have pc1' : w.cell? ⟨r, 1, none⟩ = some (.bool true) := pc1
    clear pc1 h
    go_enter Tryz.func46, Tryz.ntmps46
    go_wp2_with fail
    (with_reducible refine KF.out.mono ?_)
    rintro e w3 ⟨rfl, h3⟩
    have H3 := Lib.hid h3
    clear h3
    go_wp2
    go_ret
    exact ⟨by rw [HT.out]; rfl, by rw [HT.out]; exact H3.out⟩
  · have pc1' : w.cell? ⟨r, 1, none⟩ = some (.bool false) := pc1
    clear pc1
    rcases l with _ | ⟨x, l⟩
    · have HT := Lib.hid (truthS_nil (some []) rfl)
      obtain ⟨va, vn, vc, rfl⟩ := h.rdv.shape
      obtain ⟨hvn, _, _, _⟩ := h.rdv.cap
      simp at hvn
      subst hvn
      clear h
      go_enter Tryz.func46, Tryz.ntmps46
      go_wp2_with fail
      (with_reducible refine KF.out.mono ?_)
      rintro e w3 ⟨rfl, h3⟩
      have H3 := Lib.hid h3
      clear h3
      go_wp2
      go_ret
      exact ⟨by rw [HT.out]; rfl, by rw [HT.out]; exact H3.out⟩
    · have hx := h.byt x (by simp)
      obtain ⟨c, rfl⟩ := Int.eq_ofNat_of_zero_le hx.1
      have hc : c < 256 := by omega
      have hrd : Rdv u8v w v ((c : Int) :: l) := h.rdv
      obtain ⟨va, vn, vc, rfl⟩ := hrd.shape
      obtain ⟨rfl, hv1, hv2, hv3⟩ := hrd.cap
      unfold maxLen at hv2
      simp only [List.length_cons] at *
      obtain ⟨bl, ol, rfl⟩ := hv3 (by simp)
      have hcell := hrd.cell0
      have H1 := Lib.hid h
      have HR := Lib.hid hrd
      have HNE : Hid (bl = B) := Lib.hid (inB_at h.inB _ _ _ _ rfl)
      have HBD : Hid (Byt l) := Lib.hid fun q hq => h.byt q (by simp [hq])
      have hll : l.length ≤ 100000000000 := by have := h.len; simp at this; omega
      have hl0 : ((l.length : Int) + 1 == 0) = false := beq_false_of_ne (by omega)
      by_cases h1 : 1 < c
      · have HT : Hid (truthS (some ((c : Int) :: l)) = (false, none)) := Lib.hid (by rw [truthS_cons c l hc, if_pos h1])
        clear h hrd hv3 hlen
        go_enter Tryz.func46, Tryz.ntmps46
        go_wp2_with fail
        (with_reducible refine KF.out.mono ?_)
        rintro e w3 ⟨rfl, h3⟩
        have H3 := Lib.hid h3
        clear h3
        go_wp2
        go_ret
        exact ⟨by rw [HT.out]; rfl, by rw [HT.out]; exact H3.out⟩
      · have HT : Hid (truthS (some ((c : Int) :: l)) = (decide (c = 1), some l)) := Lib.hid (by rw [truthS_cons c l hc, if_neg h1])
        have hc2 : c = 0 ∨ c = 1 := by omega
        have hce : ((c : Int) == 1) = decide (c = 1) := by rcases hc2 with rfl | rfl <;> rfl
        generalize decide (c = 1) = q at *
        have hc1 : (c : Int) ≤ 1 := by omega
        have hcd : decide ((1 : Int) < (c : Int)) = false := decide_eq_false (by omega)
        clear h hrd hv3 hlen hc2
        go_enter Tryz.func46, Tryz.ntmps46
        go_wp2
        all_goals
          go_ret
          refine ⟨by rw [HT.out]; rfl, ?_⟩
          rw [HT.out]
          first
          | exact ⟨_, H1.out.put0 _ l rfl (by have := HR.out.drop 1 (by omega); simpa using this) (.inr ⟨_, _, _, by rw [HNE.out]⟩) HBD.out hll (fun _ => H1.out.ne ⟨_, _, _, by rw [HNE.out]⟩), Chg.set (S := (· = r)) (Chg.refl _ _) (p := ⟨r, 0, none⟩) (fun _ => rfl) _⟩
          | exact ⟨_, H1.out.put0 _ l rfl (by have := rdv_dropF HR.out 1 (by omega) (some ⟨bl, ol, none⟩) 0 (by unfold maxLen; omega); simpa using this) (.inr ⟨_, _, _, by rw [HNE.out]⟩) HBD.out hll (fun _ => H1.out.ne ⟨_, _, _, by rw [HNE.out]⟩), Chg.set (S := (· = r)) (Chg.refl _ _) (p := ⟨r, 0, none⟩) (fun _ => rfl) _⟩
theorem fDone (r B : Nat) (v : Value) (s : RS) (w : World) (h : Rf w r B v s) : Calls Tryz.prog 49 #[.pointer (some ⟨r, 0, none⟩)] w fun e w' => e = .returned (.bool (decide (s = some []))) ∧ w = w' := by
  have pc0 : w.cell? ⟨r, 0, none⟩ = some v := h.blk.cell (o := 0) rfl
  have pc1 := h.blk.cell (o := 1) rfl
  have pz := h.lt
  obtain ⟨va, vn, vc, rfl⟩ := h.rdv.shape
  obtain ⟨hvn, _, _, _⟩ := h.rdv.cap
  subst hvn
  rcases s with _ | l
  · have pc1' : w.cell? ⟨r, 1, none⟩ = some (.bool true) := pc1
    clear pc1 h
    go_enter Tryz.func49, Tryz.ntmps49
    go_wp2
    go_ret
    exact ⟨rfl, rfl⟩
  · have pc1' : w.cell? ⟨r, 1, none⟩ = some (.bool false) := pc1
    clear pc1 h
    rcases l with _ | ⟨x, l⟩
    all_goals
      simp only [Option.getD_some, List.length_cons, List.length_nil] at *
      go_enter Tryz.func49, Tryz.ntmps49
      go_wp2
      go_ret
      exact ⟨ret_b (by first | (simp; done) | (simp; omega)), rfl⟩
end Go.Proofs.YthbalmoafpggdaaGreat
namespace Go.Proofs.YthbalmoafpggdaaGreat
open Go.RowKit
set_option linter.unusedVariables false
set_option linter.unusedSimpArgs false
def FIDPost (r B : Nat) (s : RS) (w : World) (e : Ending) (w' : World) : Prop := e = .returned (.agg #[.int .i64 ((idS s).1.1 : Nat), .int .i64 ((idS s).1.2 : Nat)]) ∧ FStep r B w (idS s).2 w'
set_option maxHeartbeats 4000000 in
set_option maxRecDepth 100000 in
theorem fID (r B : Nat) (v : Value) (s : RS) (w : World) (h : Rf w r B v s) (hBl : B < w.heap.size) : Calls Tryz.prog 87 #[.pointer (some ⟨r, 0, none⟩)] w (FIDPost r B s w) := by
  have b0 : Below w.heap.size w (w.alloc (.cells #[.int .i64 0, .int .i64 0] 44)) := (Below.refl _ _).alloc (Nat.le_refl _) _
  have hz := numS_zero (numS s).2
  have hI := idS_eq s
  have hbd := numS_bd s
  have hbd2 := numS_bd (numS s).2
  have hz0 := numS_zero s
  rcases hq : numS s with ⟨t, s1⟩
  rw [hq] at hz hI hbd hbd2 hz0
  simp only at hz hI hbd hbd2 hz0
  rcases hq2 : numS s1 with ⟨n, s2⟩
  rw [hq2] at hz hI hbd2
  simp only at hz hI hbd2
  have KN := Lib.hid (fNum' r B v s _ (h.below b0) hq)
  have HQ2 := Lib.hid hq2
  have hrl := h.lt
  have HB0 := Lib.hid b0
  have BX := Blk.new w #[.int .i64 0, .int .i64 0] 44
  have HBX := Lib.hid BX
  have ht0 : (0 : Int) ≤ t := by omega
  have hn0 : (0 : Int) ≤ n := by omega
  clear h hq hq2 b0 BX
  go_enter Tryz.func87, Tryz.ntmps87
  go_wp2_with fail
  refine KN.out.mono ?_
  rintro e w1 ⟨rfl, v1, h1, g1⟩
  have hs1 := g1.size
  simp only [World.size_alloc] at hs1
  have a1 : Below w1.heap.size w1 (w1.alloc (.cells #[.int .i64 t, .int .i64 0] 44)) := (Below.refl _ _).alloc (Nat.le_refl _) _
  have KN2 := Lib.hid (fNum' r B v1 s1 _ (h1.below a1) HQ2.out)
  have G1 : Hid (Chg (· = r) (w.alloc (.cells #[.int .i64 0, .int .i64 0] 44)) (w1.alloc (.cells #[.int .i64 t, .int .i64 0] 44))) := Lib.hid (g1.trans (Chg.of_below a1 (fun i h1 h2 => by omega)))
  have X1 := Lib.hid ((g1.blk HBX.out (by omega)).alloc (.cells #[.int .i64 t, .int .i64 0] 44))
  have Y1 := Lib.hid (Blk.new w1 #[.int .i64 t, .int .i64 0] 44)
  clear h1 g1 KN a1
  go_wp2_with fail
  refine KN2.out.mono ?_
  rintro e w2 ⟨rfl, v2, h2, g2⟩
  have X2 := Lib.hid (g2.blk X1.out (by omega))
  have Y2 := Lib.hid (g2.blk Y1.out (by omega))
  have G2 := Lib.hid (G1.out.trans g2)
  have x20 := X2.out.cell (o := 0) rfl
  have x21 := X2.out.cell (o := 1) rfl
  have xf0 := X2.out.free 0
  have xf1 := X2.out.free 1
  have xz := X2.out.lt
  have y20 := Y2.out.cell (o := 0) rfl
  have y21 := Y2.out.cell (o := 1) rfl
  have yf0 := Y2.out.free 0
  have yf1 := Y2.out.free 1
  have yz := Y2.out.lt
  have q1 := h2.blk.cell (o := 1) rfl
  have H2 := Lib.hid h2
  have KF : Hid (Calls Tryz.prog 86 #[.pointer (some ⟨r, 0, none⟩)] w2 fun e w3 => e = .returned (.tuple #[]) ∧ FStep r B w none w3 ∧ Blk w3 w.heap.size #[.int .i64 0, .int .i64 0] 44) := Lib.hid ((refFail r B v2 s2 w2 h2).mono fun e w3 h => by
    obtain ⟨rfl, v3, h3, g3⟩ := h
    exact ⟨rfl, RStepT.pre HB0.out ⟨v3, h3, G2.out.trans g3⟩, g3.blk X2.out (by omega)⟩)
  have H2S : Hid (FStep r B w s2 w2) := Lib.hid (RStepT.pre HB0.out ⟨v2, h2, G2.out⟩)
  clear h2 g2 KN2 G1 X1 Y1
  have cases4 : (∃ l, s2 = some l ∧ t ≤ 1152921504606846976 ∧ n < 64) ∨ (s2 = none) ∨ ((∃ l, s2 = some l) ∧ 1152921504606846976 < t) ∨ ((∃ l, s2 = some l) ∧ t ≤ 1152921504606846976 ∧ 64 ≤ n) := by
    rcases s2 with _ | l
    · exact .inr (.inl rfl)
    · by_cases h1 : t ≤ 1152921504606846976
      · by_cases h2 : n < 64
        · exact .inl ⟨l, rfl, h1, h2⟩
        · exact .inr (.inr (.inr ⟨⟨l, rfl⟩, h1, by omega⟩))
      · exact .inr (.inr (.inl ⟨⟨l, rfl⟩, by omega⟩))
  rcases cases4 with ⟨l, rfl, c1, c2⟩ | rfl | ⟨⟨l, rfl⟩, c1⟩ | ⟨⟨l, rfl⟩, c1, c2⟩
  · have HI : Hid (idS s = ((t, n), some l)) := Lib.hid (by rw [hI]; exact if_neg (by omega))
    have q1' : w2.cell? ⟨r, 1, none⟩ = some (.bool false) := q1
    have hd1 : decide ((1152921504606846976 : Int) < (t : Int)) = false := decide_eq_false (by omega)
    have hd2 : decide ((64 : Int) ≤ (n : Int)) = false := decide_eq_false (by omega)
    clear hI hz q1
    go_wp2
    refine bodyPost_ret (v := .agg #[.int .i64 t, .int .i64 n]) (by simp [results, Tryz.results87, go_sem, y20, y21, x20, x21]) rfl ⟨?_, ?_⟩
    · rw [HI.out]
    · rw [HI.out]
      exact ((H2S.out.setNew w1.heap.size 1 _ (by omega) (by omega) (by omega)).setNew w.heap.size 0 _ (Nat.le_refl _) (by omega) (by omega)).setNew w.heap.size 1 _ (Nat.le_refl _) (by omega) (by omega)
  · have HI : Hid (idS s = ((0, 0), none)) := Lib.hid (hI.trans (by first | rfl | exact if_pos (by omega)))
    have q1' : w2.cell? ⟨r, 1, none⟩ = some (.bool true) := q1
    skip
    clear hI hz q1
    go_wp2_with fail
    (with_reducible refine KF.out.mono ?_)
    rintro e w3 ⟨rfl, h3, X3⟩
    have z0 := X3.cell (o := 0) rfl
    have z1 := X3.cell (o := 1) rfl
    have zf0 := X3.free 0
    have zf1 := X3.free 1
    have zz := X3.lt
    have H3 := Lib.hid h3
    clear h3 x20 x21 xf0 xf1 xz y20 y21 yf0 yf1 yz
    go_wp2
    refine bodyPost_ret (v := .agg #[.int .i64 0, .int .i64 0]) (by simp [results, Tryz.results87, go_sem, z0, z1]) rfl ⟨?_, ?_⟩
    · rw [HI.out]; rfl
    · rw [HI.out]
      exact (H3.out.setNew w.heap.size 0 _ (Nat.le_refl _) (by omega) (by omega)).setNew w.heap.size 1 _ (Nat.le_refl _) (by omega) (by omega)
  · have HI : Hid (idS s = ((0, 0), none)) := Lib.hid (hI.trans (by first | rfl | exact if_pos (by omega)))
    have q1' : w2.cell? ⟨r, 1, none⟩ = some (.bool false) := q1
    have hd1 : decide ((1152921504606846976 : Int) < (t : Int)) = true := decide_eq_true (by omega)
    clear hI hz q1
    go_wp2_with fail
    (with_reducible refine KF.out.mono ?_)
    rintro e w3 ⟨rfl, h3, X3⟩
    have z0 := X3.cell (o := 0) rfl
    have z1 := X3.cell (o := 1) rfl
    have zf0 := X3.free 0
    have zf1 := X3.free 1
    have zz := X3.lt
    have H3 := Lib.hid h3
    clear h3 x20 x21 xf0 xf1 xz y20 y21 yf0 yf1 yz
    go_wp2
    refine bodyPost_ret (v := .agg #[.int .i64 0, .int .i64 0]) (by simp [results, Tryz.results87, go_sem, z0, z1]) rfl ⟨?_, ?_⟩
    · rw [HI.out]; rfl
    · rw [HI.out]
      exact (H3.out.setNew w.heap.size 0 _ (Nat.le_refl _) (by omega) (by omega)).setNew w.heap.size 1 _ (Nat.le_refl _) (by omega) (by omega)
  · have HI : Hid (idS s = ((0, 0), none)) := Lib.hid (hI.trans (by first | rfl | exact if_pos (by omega)))
    have q1' : w2.cell? ⟨r, 1, none⟩ = some (.bool false) := q1
    have hd1 : decide ((1152921504606846976 : Int) < (t : Int)) = false := decide_eq_false (by omega)
    have hd2 : decide ((64 : Int) ≤ (n : Int)) = true := decide_eq_true (by omega)
    clear hI hz q1
    go_wp2_with fail
    (with_reducible refine KF.out.mono ?_)
    rintro e w3 ⟨rfl, h3, X3⟩
    have z0 := X3.cell (o := 0) rfl
    have z1 := X3.cell (o := 1) rfl
    have zf0 := X3.free 0
    have zf1 := X3.free 1
    have zz := X3.lt
    have H3 := Lib.hid h3
    clear h3 x20 x21 xf0 xf1 xz y20 y21 yf0 yf1 yz
    go_wp2
    refine bodyPost_ret (v := .agg #[.int .i64 0, .int .i64 0]) (by simp [results, Tryz.results87, go_sem, z0, z1]) rfl ⟨?_, ?_⟩
    · rw [HI.out]; rfl
    · rw [HI.out]
      exact (H3.out.setNew w.heap.size 0 _ (Nat.le_refl _) (by omega) (by omega)).setNew w.heap.size 1 _ (Nat.le_refl _) (by omega) (by omega)
end Go.Proofs.YthbalmoafpggdaaGreat
namespace Go.Proofs.YthbalmoafpggdaaGreat
open Go.RowKit
set_option linter.unusedVariables false
set_option linter.unusedSimpArgs false
theorem vecMayB_takeF (xs : List Int) (m k : Nat) (hkm : k < m) (hm : m ≤ xs.length) (hf : ¬ (0 ≤ xs.getD k 0 ∧ xs.getD k 0 ≤ 1152921504606846976)) : vecMayB (xs.take m) = false := by
  refine vecMayB_false (xs.take m) k (by simp; omega) ?_
  rw [List.getD_eq_getElem?_getD, List.getElem?_take_of_lt hkm, ← List.getD_eq_getElem?_getD]
  exact hf
set_option maxHeartbeats 1000000 in
theorem refMay (v : Value) (xs : List Int) (w : World) (h : Rdv i64c w v xs) : Calls Tryz.prog 17 #[v] w fun e w' => e = .returned (.bool (vecMayB (cutL xs) && decide ((cutL xs).length ≤ 64))) ∧ w = w' := by
  obtain ⟨a, n, c, rfl⟩ := h.shape
  obtain ⟨rfl, h1, h2, h3⟩ := h.cap
  unfold maxLen at h2
  have HX := Lib.hid h
  have HCL := Lib.hid (cutL_len xs)
  clear h h3
  go_enter Tryz.func17, Tryz.ntmps17
  go_wp2
  go_loop [3] (fun nv => ∃ m : Nat, m ≤ xs.length ∧ nv = .int .i64 m ∧ cutTo xs xs.length = cutTo xs m) (fun nv => (intOf nv).toNat)
  case atStart => exact ⟨_, Nat.le_refl _, rfl, rfl⟩
  case round =>
    obtain ⟨m, hm, rfl, he⟩ := hrel
    have HE := Lib.hid he
    clear he
    have fin : ∀ m : Nat, m ≤ xs.length → cutTo xs xs.length = m → cutL xs = xs.take m ∧ (cutL xs).length = m := fun m hm e => by
      refine ⟨by unfold cutL; rw [e], by rw [HCL.out, e]⟩
    have FIN := Lib.hid fin
    clear fin
    have done : m = 0 ∨ (0 < m ∧ xs.getD (m - 1) 0 ≠ 0) ∨ (0 < m ∧ xs.getD (m - 1) 0 = 0) := by omega
    rcases done with hm0 | ⟨hm0, hz⟩ | ⟨hm0, hz⟩
    · subst hm0
      obtain ⟨e1, e2⟩ := FIN.out 0 (by omega) (by rw [HE.out]; rfl)
      have HR : Hid ((vecMayB (cutL xs) && decide ((cutL xs).length ≤ 64)) = true) := Lib.hid (by rw [e2, e1]; simp [vecMayB])
      clear e1 e2
      go_wp2
      go_loop [4] (fun i => i = .int .i64 0) (fun _ => 0)
      case atStart => rfl
      case round =>
        obtain rfl := hrel
        go_wp2
        go_ret
        exact ⟨ret_b HR.out.symm, rfl⟩
    · obtain ⟨k, rfl⟩ : ∃ k, m = k + 1 := ⟨m - 1, by omega⟩
      rw [Nat.add_sub_cancel] at hz
      obtain ⟨e1, e2⟩ := FIN.out (k + 1) hm (by rw [HE.out, cutTo_stop xs k hz])
      have HR : Hid ((vecMayB (cutL xs) && decide ((cutL xs).length ≤ 64)) = (vecMayB (xs.take (k + 1)) && decide (k + 1 ≤ 64))) := Lib.hid (by rw [e2, e1])
      obtain ⟨bl, ol, rfl, hcell⟩ := rdv_at HX.out k (by omega)
      have hzb : (xs.getD k 0 == 0) = false := beq_false_of_ne hz
      generalize hq : xs.getD k 0 = q at *
      clear hz e1 e2 hq
      by_cases h64 : k + 1 ≤ 64
      · go_wp2
        go_loop [4] (fun i => ∃ j : Nat, j ≤ k + 1 ∧ i = .int .i64 j ∧ vecMayB (xs.take j) = true) (fun i => k + 1 - (intOf i).toNat)
        case atStart => exact ⟨0, Nat.zero_le _, rfl, rfl⟩
        case round =>
          obtain ⟨j, hj, rfl, hok⟩ := hrel
          have HOK := Lib.hid hok
          clear hok hcell
          by_cases hlt : j < k + 1
          · obtain ⟨bl', ol', hbe, hcell⟩ := rdv_at HX.out j (by omega)
            injection hbe with hbe
            injection hbe with hb1 hb2
            subst hb1; subst hb2
            by_cases hq : 0 ≤ xs.getD j 0 ∧ xs.getD j 0 ≤ 1152921504606846976
            · have HV : Hid (vecMayB (xs.take (j + 1)) = true) := Lib.hid (by rw [vecMayB_take xs j (by omega), HOK.out, decide_eq_true hq.1, decide_eq_true hq.2]; rfl)
              obtain ⟨q1, q2⟩ := hq
              generalize xs.getD j 0 = q' at *
              go_wp2
              go_round
              case rel => exact ⟨j + 1, by omega, by go_num, HV.out⟩
              case measure => simp [intOf]; omega
            · have HV := Lib.hid (vecMayB_takeF xs (k + 1) j hlt hm hq)
              by_cases q0 : xs.getD j 0 < 0
              · generalize xs.getD j 0 = q' at *
                clear hq
                go_wp2
                go_ret
                exact ⟨ret_b (by rw [HR.out, HV.out]; rfl), rfl⟩
              · have q1 : 1152921504606846976 < xs.getD j 0 := by omega
                generalize xs.getD j 0 = q' at *
                clear hq
                go_wp2
                go_ret
                exact ⟨ret_b (by rw [HR.out, HV.out]; rfl), rfl⟩
          · obtain rfl : j = k + 1 := by omega
            have HF : Hid ((vecMayB (xs.take (k + 1)) && decide (k + 1 ≤ 64)) = true) := Lib.hid (by rw [HOK.out, decide_eq_true h64]; rfl)
            go_wp2
            go_ret
            exact ⟨ret_b (by rw [HR.out, HF.out]), rfl⟩
      · have HF : Hid ((vecMayB (xs.take (k + 1)) && decide (k + 1 ≤ 64)) = false) := Lib.hid (by rw [decide_eq_false h64, Bool.and_false])
        have h65 : 64 < k + 1 := by omega
        clear h64
        go_wp2
        go_ret
        exact ⟨ret_b (by rw [HR.out, HF.out]), rfl⟩
    · obtain ⟨k, rfl⟩ : ∃ k, m = k + 1 := ⟨m - 1, by omega⟩
      rw [Nat.add_sub_cancel] at hz
      obtain ⟨bl, ol, rfl, hcell⟩ := rdv_at HX.out k (by omega)
      have HE2 := Lib.hid (HE.out.trans (cutTo_down xs k hz))
      rw [hz] at hcell
      clear hz
      go_wp2
      go_round
      case rel => exact ⟨k, by omega, by go_num, HE2.out⟩
      case measure => simp [intOf]
def FVecPost (r B : Nat) (s : RS) (w : World) (e : Ending) (w' : World) : Prop := ∃ v, e = .returned v ∧ w'.ownsRow w.heap.size 2 1 v (vecS s).1.length ((vecS s).1.map i64c) ∧ FStep r B w (vecS s).2 w'
theorem cutL_all (ys : List Int) (h : ys = [] ∨ ys.getD (ys.length - 1) 0 ≠ 0) : cutL ys = ys := by
  unfold cutL
  rw [(cutTo_iff ys).2 h, List.take_length]
set_option maxHeartbeats 4000000 in
set_option maxRecDepth 100000 in
theorem fVector (r B : Nat) (v : Value) (s : RS) (w : World) (h : Rf w r B v s) (hBl : B < w.heap.size) : Calls Tryz.prog 47 #[.pointer (some ⟨r, 0, none⟩)] w (FVecPost r B s w) := by
  obtain ⟨i0, hi, hz0, hz1, hz2⟩ := info_parts Cd.infoI64
  have hz := numS_zero s
  have hI := vecS_eq s
  have hbd := numS_bd s
  rcases hq : numS s with ⟨n, s1⟩
  rw [hq] at hz hI hbd
  simp only at hz hI hbd
  have KN := Lib.hid (fNum' r B v s w h hq)
  have hrl := h.lt
  have hn0 : (0 : Int) ≤ n := by omega
  clear h hq
  rcases s1 with _ | l
  · have HI : Hid (vecS s = ([], none)) := Lib.hid hI
    clear hI hz
    go_enter Tryz.func47, Tryz.ntmps47
    go_wp2_with fail
    refine KN.out.mono ?_
    rintro e w1 ⟨rfl, v1, h1, g1⟩
    have pc1 : w1.cell? ⟨r, 1, none⟩ = some (.bool true) := h1.blk.cell (o := 1) rfl
    have KF := Lib.hid (refFail r B v1 none w1 h1)
    have G1 := Lib.hid g1
    clear h1 g1 KN
    go_wp2_with fail
    (with_reducible refine KF.out.mono ?_)
    rintro e w3 ⟨rfl, h3⟩
    have H3 := Lib.hid (h3.trans G1.out)
    clear h3
    go_wp2
    go_ret
    exact ⟨_, rfl, by rw [HI.out]; exact World.ownsRow_nil _ _ _ _, by rw [HI.out]; exact H3.out⟩
  · by_cases h64 : 64 < n
    · have HI : Hid (vecS s = ([], none)) := Lib.hid (by rw [hI]; exact if_pos h64)
      have hd : decide ((64 : Int) < (n : Int)) = true := decide_eq_true (by omega)
      clear hI hz
      go_enter Tryz.func47, Tryz.ntmps47
      go_wp2_with fail
      refine KN.out.mono ?_
      rintro e w1 ⟨rfl, v1, h1, g1⟩
      have pc1 : w1.cell? ⟨r, 1, none⟩ = some (.bool false) := h1.blk.cell (o := 1) rfl
      have KF := Lib.hid (refFail r B v1 (some l) w1 h1)
      have G1 := Lib.hid g1
      clear h1 g1 KN
      go_wp2_with fail
      (with_reducible refine KF.out.mono ?_)
      rintro e w3 ⟨rfl, h3⟩
      have H3 := Lib.hid (h3.trans G1.out)
      clear h3
      go_wp2
      go_ret
      exact ⟨_, rfl, by rw [HI.out]; exact World.ownsRow_nil _ _ _ _, by rw [HI.out]; exact H3.out⟩
    · have hd : decide ((64 : Int) < (n : Int)) = false := decide_eq_false (by omega)
      have hn64 : n ≤ 64 := by omega
      have HI : Hid (vecS s = (match (numsS n (some l)).2 with | none => ([], none) | some l' => if vecOkB (numsS n (some l)).1 = true then ((numsS n (some l)).1, some l') else ([], none))) := Lib.hid (hI.trans (if_neg h64))
      clear hI hz h64
      go_enter Tryz.func47, Tryz.ntmps47
      go_wp2_with fail
      refine KN.out.mono ?_
      rintro e w1 ⟨rfl, v1, h1, g1⟩
      have pc1 : w1.cell? ⟨r, 1, none⟩ = some (.bool false) := h1.blk.cell (o := 1) rfl
      have H3 := Lib.hid h1
      have G3 := Lib.hid g1
      clear h1 g1 KN
      go_wp2_with fail
      go_loopw [4, 5] (fun vv i wr => ∃ k : Nat, k ≤ n ∧ i = .int .i64 k ∧ wr.ownsRow w.heap.size 2 1 vv k ((numsS k (some l)).1.map i64c) ∧ (∃ v', Rf wr r B v' (numsS k (some l)).2) ∧ Chg (· = r) w wr) (fun _ i _ => n - (intOf i).toNat)
      case atStart => exact ⟨0, by omega, rfl, World.ownsRow_nil _ _ _ _, ⟨v1, H3.out⟩, G3.out⟩
      case round =>
        obtain ⟨k, hk, rfl, ho, ⟨v', hR⟩, hC⟩ := hrel
        have HO := Lib.hid ho
        have HR := Lib.hid hR
        have HC := Lib.hid hC
        have hws := hC.size
        clear pc1
        by_cases hlt : k < n
        · have KM := Lib.hid (fNum r B v' _ wr hR)
          clear ho hR hC
          go_wp2_with fail
          refine KM.out.mono ?_
          rintro e w4 ⟨rfl, v4, h4, g4⟩
          have ho4 := ownsRow_chg HO.out g4 (fun b hb e => by have := (HO.out.lt b hb).1; omega)
          have C4 := Lib.hid (HC.out.trans g4)
          have H4 := Lib.hid h4
          have hws4 : w.heap.size ≤ w4.heap.size := C4.out.size
          have KV : Hid (numsS (k + 1) (some l) = ((numsS k (some l)).1 ++ [((numS (numsS k (some l)).2).1 : Int)], (numS (numsS k (some l)).2).2)) := Lib.hid rfl
          generalize (numS (numsS k (some l)).2).1 = q at *
          clear h4 g4
          go_wp2_with (at_builtin; refine wpList_append_own_at _ rfl _ _ 23 rfl w.heap.size 2 i0 (.int .i64 0) 1 8 Tryz.underlying23 hi hz0 hz1 hz2 rfl (by decide) _ _ _ rfl (ho4.alloc _) ⟨w4.heap.size, 0, none⟩ 1 1 [.int .i64 (q : Int)] rfl rfl ?c1 ?c2 ?c3 ?c4 ?c5 ?_)
          case c1 => exact cell_one_new _ _ _
          case c2 => intro u hu; simp at hu; subst hu; rfl
          case c3 => unfold maxLen; omega
          case c4 => omega
          case c5 => simp; omega
          intro v5 w5 o5 g5 _ b5
          have R5 := Lib.hid ((H4.out.below ((Below.refl _ _).alloc (Nat.le_refl _) _)).grown g5 (fun k hk => (ho4.lt k hk).1) hrl hBl)
          have C5 : Hid (Chg (· = r) w w5) := Lib.hid (C4.out.trans' ((((Chg.refl (fun k => w.heap.size ≤ k) w4).alloc _)).grown g5 (fun k hk _ => (ho4.lt k hk).1)) (fun i hi hs => by omega))
          have O5 := Lib.hid o5
          obtain ⟨v5a, v5c, rfl, _⟩ := own_shape o5
          clear o5 g5 b5 ho4
          go_wp2
          go_roundw
          case rel => exact ⟨k + 1, by omega, by go_num, by rw [KV.out]; have := O5.out; simpa using this, ⟨_, by rw [KV.out]; exact R5.out⟩, C5.out⟩
          case measure => simp [intOf]; omega
        · obtain rfl : k = n := by omega
          clear hC
          obtain ⟨va, vc, rfl, hv1, hv2, _⟩ := own_shape ho
          have hvl := numsS_len k (some l)
          generalize hNS : numsS k (some l) = NS at *
          obtain ⟨ys, s5⟩ := NS
          simp only at *
          subst hvl
          have hrd := Rdv.of_owns (enc := i64c) (xs := ys) ho
          have KM := refMay (.slice va ys.length vc) ys wr hrd
          have HRD := Lib.hid hrd
          have pq1 := hR.blk.cell (o := 1) rfl
          have KF2 := Lib.hid (refFail r B v' s5 wr hR)
          clear ho hrd
          rcases s5 with _ | l'
          · have HI2 : Hid (vecS s = ([], none)) := Lib.hid HI.out
            have pq1' : wr.cell? ⟨r, 1, none⟩ = some (.bool true) := pq1
            clear pq1 KM hR
            go_wp2_with fail
            (with_reducible refine KF2.out.mono ?_)
            rintro e w5 ⟨rfl, h5⟩
            have H5 := Lib.hid (h5.trans HC.out)
            clear h5
            go_wp2
            go_ret
            exact ⟨_, rfl, by rw [HI2.out]; exact World.ownsRow_nil _ _ _ _, by rw [HI2.out]; exact H5.out⟩
          · have pq1' : wr.cell? ⟨r, 1, none⟩ = some (.bool false) := pq1
            have hI3 : vecS s = if vecOkB ys = true then (ys, some l') else ([], none) := HI.out
            have hOkd : vecOkB ys = (vecMayB ys && decide (ys = [] ∨ ys.getD (ys.length - 1) 0 ≠ 0)) := rfl
            clear pq1 hR
            rcases Nat.eq_zero_or_pos ys.length with hy0 | hy0
            · have hyn : ys = [] := List.length_eq_zero_iff.1 hy0
              subst hyn
              have HI2 : Hid (vecS s = ([], some l')) := Lib.hid hI3
              rw [show (vecMayB (cutL []) && decide ((cutL []).length ≤ 64)) = true from rfl] at KM
              have KM := Lib.hid KM
              have H5 : Hid (FStep r B w (some l') wr) := Lib.hid ⟨v', HR.out, HC.out⟩
              clear hI3 hOkd hy0
              simp only [List.length_nil] at *
              go_wp2_with fail
              refine KM.out.mono ?_
              rintro e w4 ⟨rfl, rfl⟩
              go_wp2
              go_ret
              exact ⟨_, rfl, by rw [HI2.out]; exact HO.out, by rw [HI2.out]; exact H5.out⟩
            · obtain ⟨k, hkk⟩ : ∃ k, ys.length = k + 1 := ⟨ys.length - 1, by omega⟩
              obtain ⟨bl, ol, rfl, hcell⟩ := rdv_at HRD.out k (by omega)
              rw [show k = ys.length - 1 by omega] at hcell
              have hix0 : (0 : Int) ≤ (ys.length : Int) - 1 := by omega
              have hpos : (0 : Int) < (ys.length : Int) := by omega
              by_cases hz : ys.getD k 0 = 0
              · rw [show ys.getD (ys.length - 1) 0 = 0 by rw [show ys.length - 1 = k by omega]; exact hz] at hcell
                have hOk : vecOkB ys = false := by
                  rw [hOkd, decide_eq_false (by rw [hkk, Nat.add_sub_cancel]; intro h; rcases h with h | h; (rw [h] at hkk; simp at hkk); exact h hz), Bool.and_false]
                have HI2 : Hid (vecS s = ([], none)) := Lib.hid (by rw [hI3, hOk]; rfl)
                clear hI3 hOkd hOk hz
                cases hm : (vecMayB (cutL ys) && decide ((cutL ys).length ≤ 64))
                all_goals
                  rw [hm] at KM
                  have KM := Lib.hid KM
                  have HKK := Lib.hid hkk
                  clear hm hkk
                  go_wp2_with fail
                  refine KM.out.mono ?_
                  rintro e w4 ⟨rfl, rfl⟩
                  go_wp2_with fail
                  (with_reducible refine KF2.out.mono ?_)
                  rintro e w5 ⟨rfl, h5⟩
                  have H5 := Lib.hid (h5.trans HC.out)
                  clear h5
                  go_wp2
                  go_ret
                  exact ⟨_, rfl, by rw [HI2.out]; exact World.ownsRow_nil _ _ _ _, by rw [HI2.out]; exact H5.out⟩
              · have hz2 : ys.getD (ys.length - 1) 0 ≠ 0 := by rw [show ys.length - 1 = k by omega]; exact hz
                have hzb : (ys.getD (ys.length - 1) 0 == 0) = false := beq_false_of_ne hz2
                rw [cutL_all ys (.inr hz2), show decide (ys.length ≤ 64) = true from decide_eq_true hn64, Bool.and_true] at KM
                rw [decide_eq_true (show ys = [] ∨ ys.getD (ys.length - 1) 0 ≠ 0 from .inr hz2), Bool.and_true] at hOkd
                generalize ys.getD (ys.length - 1) 0 = q at *
                cases hm : vecMayB ys
                · rw [hm] at KM hOkd
                  have HI2 : Hid (vecS s = ([], none)) := Lib.hid (by rw [hI3, hOkd]; rfl)
                  have KM := Lib.hid KM
                  clear hm hkk hz hz2 hI3 hOkd
                  go_wp2_with fail
                  refine KM.out.mono ?_
                  rintro e w4 ⟨rfl, rfl⟩
                  go_wp2_with fail
                  (with_reducible refine KF2.out.mono ?_)
                  rintro e w5 ⟨rfl, h5⟩
                  have H5 := Lib.hid (h5.trans HC.out)
                  clear h5
                  go_wp2
                  go_ret
                  exact ⟨_, rfl, by rw [HI2.out]; exact World.ownsRow_nil _ _ _ _, by rw [HI2.out]; exact H5.out⟩
                · rw [hm] at KM hOkd
                  have HI2 : Hid (vecS s = (ys, some l')) := Lib.hid (by rw [hI3, hOkd]; rfl)
                  have KM := Lib.hid KM
                  have H5 : Hid (FStep r B w (some l') wr) := Lib.hid ⟨v', HR.out, HC.out⟩
                  clear hm hkk hz hz2 hI3 hOkd
                  go_wp2_with fail
                  refine KM.out.mono ?_
                  rintro e w4 ⟨rfl, rfl⟩
                  go_wp2
                  go_ret
                  exact ⟨_, rfl, by rw [HI2.out]; exact HO.out, by rw [HI2.out]; exact H5.out⟩
end Go.Proofs.YthbalmoafpggdaaGreat

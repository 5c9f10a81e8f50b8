/- The reference's reader. -/
import Derived.Test.YthbalmoafpggdaaChecked
import Derived.WalkKit
import Derived.Outline
import Derived.WalkSpells
import Derived.WalkLawsBesides
import Derived.Deep.QuietTactic
import Derived.Deep.RegionWith
import Derived.Deep.DeepMust
import Derived.BigQuiet
import Derived.Test.YthbalmoafpggdaaMem
import Derived.RegionTactic
import Derived.ChangeAlike
import Derived.StillTailTactics
import Derived.Deep.LoopGhost
import Derived.Test.YthbalmoafpggdaaRd5
namespace Go.Proofs.Ythbalmoafpggdaa
open Go.RowKit
set_option linter.unusedVariables false
set_option linter.unusedSimpArgs false
abbrev Rf := RdT 40
abbrev FStep := RStepT 40
theorem refFail (r B : Nat) (v : Value) (s : RS) (w : World) (h : Rf w r B v s) : Calls Try.prog 104 #[.pointer (some ⟨r, 0, none⟩)] w fun e w' => e = .returned (.tuple #[]) ∧ FStep r B w none w' := by
  have pc0 : w.cell? ⟨r, 0, none⟩ = some v := h.blk.cell (o := 0) rfl
  have pc1 : w.cell? ⟨r, 1, none⟩ = some (.bool s.isNone) := h.blk.cell (o := 1) rfl
  have pf0 := h.blk.free 0
  have pf1 := h.blk.free 1
  have pz := h.lt
  obtain ⟨va, vn, vc, rfl⟩ := h.rdv.shape
  have H := Lib.hid h
  clear h
  have g1 : ∀ q, Chg (· = r) w (w.setCell ⟨r, 1, none⟩ (.bool q)) := fun q => Chg.set (S := (· = r)) (Chg.refl _ _) (p := ⟨r, 1, none⟩) (fun _ => rfl) _
  have G1 := Lib.hid g1
  clear g1
  go_enter Try.func104, Try.ntmps104
  go_wp2
  go_end0
  exact ⟨rfl, _, H.out.kill, (G1.out true).set (fun _ => rfl) _⟩
def FNumPost (r B : Nat) (s : RS) (w : World) (e : Ending) (w' : World) : Prop := e = .returned (.int .i64 ((numS s).1 : Nat)) ∧ FStep r B w (numS s).2 w'
theorem numS_getD (s : RS) (h : numR (s.getD []) = none) : numS s = (0, none) := by
  rcases s with _ | l
  · rfl
  · exact numS_of_none h
theorem numS_getD_some (s : RS) {n k : Nat} (h : numR (s.getD []) = some (n, k)) : s = some (s.getD []) ∧ numS s = (n, some ((s.getD []).drop k)) := by
  rcases s with _ | l
  · have : numR [] = none := rd_end [] 9 0 0 (by simp)
    simp only [Option.getD_none] at h
    rw [this] at h; cases h
  · exact ⟨rfl, numS_of_some h⟩
set_option maxHeartbeats 8000000 in
set_option maxRecDepth 100000 in
theorem fNum (r B : Nat) (v : Value) (s : RS) (w : World) (h : Rf w r B v s) : Calls Try.prog 63 #[.pointer (some ⟨r, 0, none⟩)] w (FNumPost r B s w) := by
  have KF := Lib.hid (refFail r B v s w h)
  have hlen := h.len
  have hbyt : Hid (Byt (s.getD [])) := Lib.hid h.byt
  have pc0 : w.cell? ⟨r, 0, none⟩ = some v := h.blk.cell (o := 0) rfl
  have pf0 := h.blk.free 0
  have pz := h.lt
  have hrd := h.rdv
  have H1 := Lib.hid h
  obtain ⟨va, vn, vc, rfl⟩ := hrd.shape
  obtain ⟨hvn, hv1, hv2, _⟩ := hrd.cap
  unfold maxLen at hv2
  have HSG := Lib.hid (fun n k => numS_getD_some s (n := n) (k := k))
  generalize hl : s.getD [] = l at *
  subst hvn
  have HR := Lib.hid hrd
  have HL := Lib.hid hl
  clear h hrd hl
  go_enter Try.func63, Try.ntmps63
  go_wp2_with fail
  go_loop [3, 4] (fun nv i => ∃ k n : Nat, k ≤ l.length ∧ k ≤ 9 ∧ i = .int .i64 k ∧ nv = .int .i64 n ∧ n < 2 ^ (7 * k) ∧ rdN l (9 - k) k n = numR l) (fun _ i => 9 - (intOf i).toNat)
  case atStart => exact ⟨0, 0, by omega, by omega, rfl, rfl, by simp, rfl⟩
  case round =>
    obtain ⟨k, n, hk, hk9, rfl, rfl, hn, hrd⟩ := hrel
    have HN := Lib.hid hn
    have HD : Hid (rdN l (9 - k) k n = numR (s.getD [])) := Lib.hid (by rw [HL.out]; exact hrd)
    clear hn hrd
    by_cases hk8 : k < 9
    · by_cases hlt : k < l.length
      · obtain ⟨bl, ol, rfl, hcell⟩ := rdv_at HR.out k hlt
        obtain ⟨c, hce, hc⟩ := hbyt.out.at_ k hlt
        rw [hce] at hcell
        have HC := Lib.hid hce
        clear hce
        obtain ⟨X, hX⟩ : ∃ X, X = c % 128 * 2 ^ (7 * k) := ⟨_, rfl⟩
        have h63 : n + X < 9223372036854775808 := by
          have hp : 2 ^ (7 * (k + 1)) = 128 * 2 ^ (7 * k) := by rw [show 7 * (k + 1) = 7 + 7 * k by omega, Nat.pow_add]
          have h1 : c % 128 * 2 ^ (7 * k) ≤ 127 * 2 ^ (7 * k) := Nat.mul_le_mul_right _ (by omega)
          have h56 : 2 ^ (7 * (k + 1)) ≤ 9223372036854775808 := Nat.pow_le_pow_right (by omega) (by omega : 7 * (k + 1) ≤ 63)
          have := HN.out
          omega
        have hsmall : Hid (n + X < 2 ^ (7 * (k + 1))) := Lib.hid (by
          have hp : 2 ^ (7 * (k + 1)) = 128 * 2 ^ (7 * k) := by rw [show 7 * (k + 1) = 7 + 7 * k by omega, Nat.pow_add]
          have h1 : c % 128 * 2 ^ (7 * k) ≤ 127 * 2 ^ (7 * k) := Nat.mul_le_mul_right _ (by omega)
          have := HN.out
          omega)
        have hXw : wrap64 ((c : Int) % 128 * 2 ^ (7 * k)) = (X : Int) := by
          rw [show (c : Int) % 128 = ((c % 128 : Nat) : Int) by omega, pow_cast', ← Int.natCast_mul, ← hX, wrap64_nat _ (by omega)]
        have HX := Lib.hid hX
        clear hX
        by_cases h128 : c < 128
        · by_cases hc0 : c = 0
          · have hcz : ((c : Int) == 0) = true := by rw [beq_iff_eq]; omega
            have HC0 := Lib.hid hc0
            by_cases hk0 : 0 < k
            · clear hc0
              have HS := Lib.hid (numS_getD s (HD.out ▸ (rd_none l k n c (by omega) hlt HC.out (.inl ⟨h128, .inl ⟨HC0.out, hk0⟩⟩))))
              go_wp2_with fail
              (with_reducible refine KF.out.mono ?_)
              rintro e w2 ⟨rfl, h2⟩
              have H2 := Lib.hid h2
              clear h2
              go_wp2
              go_ret
              exact ⟨by rw [HS.out]; rfl, by rw [HS.out]; exact H2.out⟩
            · have hkz : k ≤ 0 := by omega
              have hnb : n + X ≤ 4611686018427387904 := by
                have h1 := HX.out
                have h2 := HN.out
                rw [hc0] at h1
                have hk' : k = 0 := by omega
                rw [hk'] at h2
                simp at h1
                simp at h2
                omega
              have HG : Hid (¬ (c = 0 ∧ 0 < k)) := Lib.hid (by omega)
              clear hc0 hk0
              have HSS := Lib.hid (HSG.out (n + X) (k + 1) (HL.out ▸ HD.out ▸ HL.out ▸ (by rw [rd_ret l k n c (by omega) hlt HC.out h128 HG.out (by rw [← HX.out]; exact hnb), ← HX.out] : rdN l (9 - k) k n = some (n + X, k + 1)) : numR l = some (n + X, k + 1)))
              have hbd : Byt (l.drop (k + 1)) := fun q hq => hbyt.out q (List.mem_of_mem_drop hq)
              have HBD := Lib.hid hbd
              have HNE : Hid (bl = B) := Lib.hid (inB_at H1.out.inB _ _ _ _ rfl)
              clear hbd
              go_wp2
              all_goals
                go_ret
                refine ⟨by rw [HSS.out.2]; first | rfl | exact ret_i (by omega), ?_⟩
                rw [HSS.out.2]
                first
                | exact ⟨_, H1.out.put0 _ (l.drop (k + 1)) (by rw [HSS.out.1]; rfl) (HR.out.drop (k + 1) (by omega)) (.inr ⟨_, _, _, by rw [HNE.out]⟩) HBD.out (by simp; omega) (fun _ => H1.out.ne ⟨_, _, _, by rw [HNE.out]⟩), Chg.set (S := (· = r)) (Chg.refl _ _) (p := ⟨r, 0, none⟩) (fun _ => rfl) _⟩
                | exact ⟨_, H1.out.put0 _ (l.drop (k + 1)) (by rw [HSS.out.1]; rfl) (rdv_dropF HR.out (k + 1) (by omega) _ _ (by unfold maxLen; omega)) (.inr ⟨_, _, _, by rw [HNE.out]⟩) HBD.out (by simp; omega) (fun _ => H1.out.ne ⟨_, _, _, by rw [HNE.out]⟩), Chg.set (S := (· = r)) (Chg.refl _ _) (p := ⟨r, 0, none⟩) (fun _ => rfl) _⟩
          · have hcz : ((c : Int) == 0) = false := beq_false_of_ne (by omega)
            have HG : Hid (¬ (c = 0 ∧ 0 < k)) := Lib.hid (by omega)
            clear hc0
            by_cases hbig : 4611686018427387904 < n + X
            · have HS := Lib.hid (numS_getD s (HD.out ▸ (rd_none l k n c (by omega) hlt HC.out (.inl ⟨h128, .inr (by rw [← HX.out]; exact hbig)⟩))))
              go_wp2_with fail
              (with_reducible refine KF.out.mono ?_)
              rintro e w2 ⟨rfl, h2⟩
              have H2 := Lib.hid h2
              clear h2
              go_wp2
              go_ret
              exact ⟨by rw [HS.out]; rfl, by rw [HS.out]; exact H2.out⟩
            · have hnb : n + X ≤ 4611686018427387904 := by omega
              clear hbig
              have HSS := Lib.hid (HSG.out (n + X) (k + 1) (HL.out ▸ HD.out ▸ HL.out ▸ (by rw [rd_ret l k n c (by omega) hlt HC.out h128 HG.out (by rw [← HX.out]; exact hnb), ← HX.out] : rdN l (9 - k) k n = some (n + X, k + 1)) : numR l = some (n + X, k + 1)))
              have hbd : Byt (l.drop (k + 1)) := fun q hq => hbyt.out q (List.mem_of_mem_drop hq)
              have HBD := Lib.hid hbd
              have HNE : Hid (bl = B) := Lib.hid (inB_at H1.out.inB _ _ _ _ rfl)
              clear hbd
              go_wp2
              all_goals
                go_ret
                refine ⟨by rw [HSS.out.2]; first | rfl | exact ret_i (by omega), ?_⟩
                rw [HSS.out.2]
                first
                | exact ⟨_, H1.out.put0 _ (l.drop (k + 1)) (by rw [HSS.out.1]; rfl) (HR.out.drop (k + 1) (by omega)) (.inr ⟨_, _, _, by rw [HNE.out]⟩) HBD.out (by simp; omega) (fun _ => H1.out.ne ⟨_, _, _, by rw [HNE.out]⟩), Chg.set (S := (· = r)) (Chg.refl _ _) (p := ⟨r, 0, none⟩) (fun _ => rfl) _⟩
                | exact ⟨_, H1.out.put0 _ (l.drop (k + 1)) (by rw [HSS.out.1]; rfl) (rdv_dropF HR.out (k + 1) (by omega) _ _ (by unfold maxLen; omega)) (.inr ⟨_, _, _, by rw [HNE.out]⟩) HBD.out (by simp; omega) (fun _ => H1.out.ne ⟨_, _, _, by rw [HNE.out]⟩), Chg.set (S := (· = r)) (Chg.refl _ _) (p := ⟨r, 0, none⟩) (fun _ => rfl) _⟩
        · by_cases hk8e : k = 8
          · have HK := Lib.hid hk8e
            have HCT := Lib.hid (rd_none l k n c (by omega) hlt HC.out (.inr ⟨by omega, hk8e⟩))
            clear hk8e
            go_wp2
            go_round
            case rel => exact ⟨k + 1, n + X, by omega, by omega, by go_num, by go_num, hsmall.out, by rw [show 9 - (k + 1) = 0 by have := HK.out; omega, ← HL.out, ← HD.out, HL.out, HCT.out]; rfl⟩
            case measure => simp [intOf]; omega
          · have HCT := Lib.hid (rd_cont l k n c (by omega) hlt HC.out (by omega))
            clear hk8e
            go_wp2
            go_round
            case rel => exact ⟨k + 1, n + X, by omega, by omega, by go_num, by go_num, hsmall.out, by rw [HX.out, ← HCT.out, ← HL.out, ← HD.out, HL.out]⟩
            case measure => simp [intOf]; omega
      · have HS := Lib.hid (numS_getD s (HD.out ▸ (rd_end l (9 - k) k n (by omega))))
        go_wp2_with fail
        (with_reducible refine KF.out.mono ?_)
        rintro e w2 ⟨rfl, h2⟩
        have H2 := Lib.hid h2
        clear h2
        go_wp2
        go_ret
        exact ⟨by rw [HS.out]; rfl, by rw [HS.out]; exact H2.out⟩
    · have HS := Lib.hid (numS_getD s (HD.out ▸ ((by rw [show 9 - k = 0 by omega]; rfl : rdN l (9 - k) k n = none))))
      go_wp2_with fail
      (with_reducible refine KF.out.mono ?_)
      rintro e w2 ⟨rfl, h2⟩
      have H2 := Lib.hid h2
      clear h2
      go_wp2
      go_ret
      exact ⟨by rw [HS.out]; rfl, by rw [HS.out]; exact H2.out⟩
end Go.Proofs.Ythbalmoafpggdaa

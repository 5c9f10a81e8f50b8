/- Contracts of package codec: the reader's numbers. Contracts of package codec: the reader's other words. Contracts of package codec: the reader's texts, truths, IDs. Contracts of package codec: the reader's vectors. -/
import Derived.Test.YthbalmoafpggdaaGreatChecked
import Derived.WalkKit
import Derived.Outline
import Derived.WalkSpells
import Derived.WalkLawsBesides
import Derived.Deep.QuietTactic
import Derived.Deep.RegionWith
import Derived.Deep.DeepMust
import Derived.BigQuiet
import Derived.RegionTactic
import Derived.ChangeAlike
import Derived.StillTailTactics
import Derived.Deep.LoopGhost
import Derived.Laws.BitsAllLaws
import Derived.Test.YthbalmoafpggdaaGreatM1
import Derived.Test.YthbalmoafpggdaaGreatM2
namespace Go.Proofs.YthbalmoafpggdaaGreat
open Go.RowKit
set_option linter.unusedVariables false
set_option linter.unusedSimpArgs false
theorem pow_cast' (t : Nat) : (2 : Int) ^ t = ((2 ^ t : Nat) : Int) := by simp [Int.natCast_pow]
theorem wrap64_nat (x : Nat) (h : x < 9223372036854775808) : wrap64 (x : Int) = (x : Int) := by unfold wrap64; omega
theorem num_step (n c k : Nat) (hn : n < 2 ^ (7 * k)) (hk : k ≤ 8) (hc : c < 256) : bits .or .i64 (n : Int) (wrap64 (wrap64 (bits .and .u8 (c : Int) 127) * 2 ^ (7 * k))) = ((n + c % 128 * 2 ^ (7 * k) : Nat) : Int) := by
  have h56 : 2 ^ (7 * k) ≤ 72057594037927936 := Nat.pow_le_pow_right (by omega) (by omega : 7 * k ≤ 56)
  have e1 := u8_and_nat c 127 hc (by omega)
  have e2 : c &&& 127 = c % 128 := Nat.and_two_pow_sub_one_eq_mod c 7
  have hx : c % 128 * 2 ^ (7 * k) ≤ 127 * 72057594037927936 := Nat.mul_le_mul (by omega) h56
  rw [show (127 : Int) = ((127 : Nat) : Int) from rfl, e1, e2, wrap64_nat _ (by omega), pow_cast', ← Int.natCast_mul, wrap64_nat _ (by omega), i64_or_nat _ _ (by omega) (by omega)]
  congr 1
  rw [Nat.or_comm, nat_join (7 * k) (c % 128 * 2 ^ (7 * k)) n (Nat.mul_mod_left _ _) hn, Nat.add_comm]
theorem rd_end (l : List Int) (f k n : Nat) (h : l.length ≤ k) : rdN l f k n = none := by
  cases f with
  | zero => rfl
  | succ f => unfold rdN; rw [List.getElem?_eq_none h]
theorem getD_some {l : List Int} {k : Nat} {c : Int} (hk : k < l.length) (h : l.getD k 0 = c) : l[k]? = some c := by
  rw [List.getD_eq_getElem?_getD, List.getElem?_eq_getElem hk] at h
  rw [List.getElem?_eq_getElem hk, ← h]; rfl
theorem rd_ret (l : List Int) (k n c : Nat) (hk : k ≤ 8) (hl : k < l.length) (hg : l.getD k 0 = (c : Int)) (hc : c < 128) (h0 : ¬ (c = 0 ∧ 0 < k)) (hm : n + c % 128 * 2 ^ (7 * k) ≤ 4611686018427387904) : rdN l (9 - k) k n = some (n + c % 128 * 2 ^ (7 * k), k + 1) := by
  rw [show 9 - k = (8 - k) + 1 by omega]
  unfold rdN
  rw [getD_some hl hg]
  simp only [Int.toNat_natCast]
  rw [if_pos hc, if_neg (by omega)]
theorem rd_none (l : List Int) (k n c : Nat) (hk : k ≤ 8) (hl : k < l.length) (hg : l.getD k 0 = (c : Int)) (h : c < 128 ∧ ((c = 0 ∧ 0 < k) ∨ 4611686018427387904 < n + c % 128 * 2 ^ (7 * k)) ∨ 128 ≤ c ∧ k = 8) : rdN l (9 - k) k n = none := by
  rw [show 9 - k = (8 - k) + 1 by omega]
  unfold rdN
  rw [getD_some hl hg]
  simp only [Int.toNat_natCast]
  rcases h with ⟨h1, h2⟩ | ⟨h1, rfl⟩
  · rw [if_pos h1, if_pos h2]
  · rw [if_neg (by omega)]; rfl
theorem rd_cont (l : List Int) (k n c : Nat) (hk : k < 8) (hl : k < l.length) (hg : l.getD k 0 = (c : Int)) (hc : 128 ≤ c) : rdN l (9 - k) k n = rdN l (9 - (k + 1)) (k + 1) (n + c % 128 * 2 ^ (7 * k)) := by
  rw [show 9 - k = (9 - (k + 1)) + 1 by omega]
  rw [show rdN l (9 - (k + 1) + 1) k n = _ from by unfold rdN; rw [getD_some hl hg]]
  simp only [Int.toNat_natCast]
  rw [if_neg (by omega)]
theorem numS_of_none {l : List Int} (h : numR l = none) : numS (some l) = (0, none) := by unfold numS; simp only [h]
theorem numS_of_some {l : List Int} {n k : Nat} (h : numR l = some (n, k)) : numS (some l) = (n, some (l.drop k)) := by unfold numS; simp only [h]
theorem rd_small (n c k : Nat) (hn : n < 2 ^ (7 * k)) (hk : k < 8) : n + c % 128 * 2 ^ (7 * k) < 2 ^ (7 * (k + 1)) ∧ n + c % 128 * 2 ^ (7 * k) ≤ 4611686018427387904 := by
  have hp : 2 ^ (7 * (k + 1)) = 128 * 2 ^ (7 * k) := by rw [show 7 * (k + 1) = 7 + 7 * k by omega, Nat.pow_add]
  have h1 : c % 128 * 2 ^ (7 * k) ≤ 127 * 2 ^ (7 * k) := Nat.mul_le_mul_right _ (by omega)
  have h56 : 2 ^ (7 * (k + 1)) ≤ 72057594037927936 := Nat.pow_le_pow_right (by omega) (by omega : 7 * (k + 1) ≤ 56)
  omega
theorem rdv_dropF {w : World} {b o n c : Nat} {xs : List Int} (h : Rdv u8v w (.slice (some ⟨b, o, none⟩) n c) xs) (k : Nat) (hk : k = n) (a' : Option Addr) (c' : Nat) (hc : c' ≤ maxLen) : Rdv u8v w (.slice a' (n - k) c') (xs.drop k) := by
  have := h.cap.1
  have e : xs.drop k = [] := List.drop_eq_nil_of_le (by omega)
  rw [e, show n - k = 0 by omega]
  exact Rdv.empty _ _ _ _ hc
def NumPost (r B : Nat) (s : RS) (w : World) (e : Ending) (w' : World) : Prop := e = .returned (.int .i64 ((numS s).1 : Nat)) ∧ RStep r B w (numS s).2 w'
set_option maxHeartbeats 8000000 in
set_option maxRecDepth 100000 in
theorem rNumGood (r B : Nat) (v : Value) (l : List Int) (w : World) (h : Rd w r B v (some l)) : Calls Tryz.prog 36 #[.pointer (some ⟨r, 0, none⟩)] w (NumPost r B (some l) w) := by
  have KF := Lib.hid (rFails r B v (some l) false w h)
  have hlen := h.len
  have hbyt : Hid (Byt l) := Lib.hid h.byt
  simp only [Option.getD_some] at hlen
  clear h
  go_enter Tryz.func36, Tryz.ntmps36
  go_wp2_with fail
  refine KF.out.mono ?_
  rintro e w1 ⟨rfl, v1, h1, g1⟩
  have pc0 : w1.cell? ⟨r, 0, none⟩ = some v1 := h1.blk.cell (o := 0) rfl
  have pf0 := h1.blk.free 0
  have pz := h1.lt
  have hrd : Rdv u8v w1 v1 l := h1.rdv
  obtain ⟨va, vn, vc, rfl⟩ := hrd.shape
  obtain ⟨rfl, hv1, hv2, _⟩ := hrd.cap
  unfold maxLen at hv2
  have H1 : Hid (Rd w1 r B (.slice va l.length vc) (some l)) := Lib.hid h1
  have G1 := Lib.hid g1
  have HR := Lib.hid hrd
  clear h1 g1 hrd
  go_wp2_with fail
  go_loop [3, 13] (fun nv i => ∃ k n : Nat, k ≤ l.length ∧ k ≤ 8 ∧ i = .int .i64 k ∧ nv = .int .i64 n ∧ n < 2 ^ (7 * k) ∧ rdN l (9 - k) k n = numR l) (fun _ i => l.length - (intOf i).toNat)
  case atStart => exact ⟨0, 0, by omega, by omega, rfl, rfl, by simp, rfl⟩
  case round =>
    obtain ⟨k, n, hk, hk8, rfl, rfl, hn, hrd⟩ := hrel
    have hn56 : n < 72057594037927936 := Nat.lt_of_lt_of_le hn (Nat.pow_le_pow_right (by omega) (by omega : 7 * k ≤ 56))
    have HN := Lib.hid hn
    have HD := Lib.hid hrd
    clear hn hrd
    by_cases hlt : k < l.length
    · obtain ⟨bl, ol, rfl, hcell⟩ := rdv_at HR.out k hlt
      obtain ⟨c, hce, hc⟩ := hbyt.out.at_ k hlt
      rw [hce] at hcell
      have HC := Lib.hid hce
      clear hce
      by_cases hk8' : k = 8
      · have hkb : ((k : Int) == 8) = true := by rw [beq_iff_eq]; omega
        have HK8 := Lib.hid hk8'
        have hkp : 0 < k := by omega
        clear hk8'
        by_cases hc64 : 64 < c
        · have HS := Lib.hid (numS_of_none (HD.out ▸ (rd_none l k n c (by omega) hlt HC.out (by have hk8 := HK8.out; subst hk8; rcases Nat.lt_or_ge c 128 with h | h; (exact .inl ⟨h, .inr (by rw [Nat.mod_eq_of_lt h]; omega)⟩); exact .inr ⟨h, rfl⟩)) : numR l = none))
          have KB := Lib.hid (rFails r B _ (some l) true w1 H1.out)
          go_wp2_with fail
          refine KB.out.mono ?_
          rintro e w2 ⟨rfl, h2⟩
          have H2 := Lib.hid (h2.trans G1.out)
          clear h2
          go_wp2
          go_ret
          exact ⟨by rw [HS.out]; rfl, by rw [HS.out]; exact H2.out⟩
        · by_cases hce : c = 64
          · have hcb : ((c : Int) == 64) = true := by rw [beq_iff_eq]; omega
            have HCE := Lib.hid hce
            have hc0 : ((c : Int) == 0) = false := beq_false_of_ne (by omega)
            have h128 : c < 128 := by omega
            clear hce
            by_cases hn0 : 0 < n
            · have HS := Lib.hid (numS_of_none (HD.out ▸ (rd_none l k n c (by omega) hlt HC.out (by have hk8 := HK8.out; have hce := HCE.out; subst hk8; subst hce; exact .inl ⟨by omega, .inr (by omega)⟩)) : numR l = none))
              have KB := Lib.hid (rFails r B _ (some l) true w1 H1.out)
              go_wp2_with fail
              refine KB.out.mono ?_
              rintro e w2 ⟨rfl, h2⟩
              have H2 := Lib.hid (h2.trans G1.out)
              clear h2
              go_wp2
              go_ret
              exact ⟨by rw [HS.out]; rfl, by rw [HS.out]; exact H2.out⟩
            · have hn0' : n ≤ 0 := by omega
              have HM : Hid (n + c % 128 * 2 ^ (7 * k) ≤ 4611686018427387904) := Lib.hid (by have hk8 := HK8.out; have hce := HCE.out; subst hk8; subst hce; omega)
              have HC0 : Hid (¬ (c = 0 ∧ 0 < k)) := Lib.hid (by have hce := HCE.out; omega)
              clear hn0
              have HS := Lib.hid (numS_of_some (HD.out ▸ rd_ret l k n c (by omega) hlt HC.out (by omega) HC0.out (HM.out) : numR l = some (n + c % 128 * 2 ^ (7 * k), k + 1)))
              have HV := Lib.hid (num_step n c k HN.out (by omega) hc)
              have hbd : Byt (l.drop (k + 1)) := fun q hq => hbyt.out q (List.mem_of_mem_drop hq)
              have HBD := Lib.hid hbd
              have HNE : Hid (bl = B) := Lib.hid (inB_at H1.out.inB _ _ _ _ rfl)
              clear hbd
              go_wp2
              all_goals
                go_ret
                refine ⟨by rw [HS.out]; exact ret_i HV.out, ?_⟩
                rw [HS.out]
                first
                | exact ⟨_, H1.out.put0 _ (l.drop (k + 1)) rfl (HR.out.drop (k + 1) (by omega)) (.inr ⟨_, _, _, by rw [HNE.out]⟩) HBD.out (by simp; omega) (fun _ => H1.out.ne ⟨_, _, _, by rw [HNE.out]⟩), G1.out.set (fun _ => rfl) _⟩
                | exact ⟨_, H1.out.put0 _ (l.drop (k + 1)) rfl (rdv_dropF HR.out (k + 1) (by omega) _ _ (by unfold maxLen; omega)) (.inr ⟨_, _, _, by rw [HNE.out]⟩) HBD.out (by simp; omega) (fun _ => H1.out.ne ⟨_, _, _, by rw [HNE.out]⟩), G1.out.set (fun _ => rfl) _⟩
          · have hcb : ((c : Int) == 64) = false := beq_false_of_ne (by omega)
            have h128 : c < 128 := by omega
            by_cases hc0 : c = 0
            · have hcz : ((c : Int) == 0) = true := by rw [beq_iff_eq]; omega
              have HCE := Lib.hid hc0
              clear hc0 hce
              have HS := Lib.hid (numS_of_none (HD.out ▸ (rd_none l k n c (by omega) hlt HC.out (by have hce := HCE.out; subst hce; exact .inl ⟨by omega, .inl ⟨rfl, hkp⟩⟩)) : numR l = none))
              have KB := Lib.hid (rFails r B _ (some l) true w1 H1.out)
              go_wp2_with fail
              refine KB.out.mono ?_
              rintro e w2 ⟨rfl, h2⟩
              have H2 := Lib.hid (h2.trans G1.out)
              clear h2
              go_wp2
              go_ret
              exact ⟨by rw [HS.out]; rfl, by rw [HS.out]; exact H2.out⟩
            · have hcz : ((c : Int) == 0) = false := beq_false_of_ne (by omega)
              have hcl : c < 64 := by omega
              have hcp : 0 < c := by omega
              have HM : Hid (n + c % 128 * 2 ^ (7 * k) ≤ 4611686018427387904) := Lib.hid (by have hk8 := HK8.out; subst hk8; rw [Nat.mod_eq_of_lt h128]; omega)
              have HC0 : Hid (¬ (c = 0 ∧ 0 < k)) := Lib.hid (by omega)
              clear hc0 hce
              have HS := Lib.hid (numS_of_some (HD.out ▸ rd_ret l k n c (by omega) hlt HC.out (by omega) HC0.out (HM.out) : numR l = some (n + c % 128 * 2 ^ (7 * k), k + 1)))
              have HV := Lib.hid (num_step n c k HN.out (by omega) hc)
              have hbd : Byt (l.drop (k + 1)) := fun q hq => hbyt.out q (List.mem_of_mem_drop hq)
              have HBD := Lib.hid hbd
              have HNE : Hid (bl = B) := Lib.hid (inB_at H1.out.inB _ _ _ _ rfl)
              clear hbd
              go_wp2
              all_goals
                go_ret
                refine ⟨by rw [HS.out]; exact ret_i HV.out, ?_⟩
                rw [HS.out]
                first
                | exact ⟨_, H1.out.put0 _ (l.drop (k + 1)) rfl (HR.out.drop (k + 1) (by omega)) (.inr ⟨_, _, _, by rw [HNE.out]⟩) HBD.out (by simp; omega) (fun _ => H1.out.ne ⟨_, _, _, by rw [HNE.out]⟩), G1.out.set (fun _ => rfl) _⟩
                | exact ⟨_, H1.out.put0 _ (l.drop (k + 1)) rfl (rdv_dropF HR.out (k + 1) (by omega) _ _ (by unfold maxLen; omega)) (.inr ⟨_, _, _, by rw [HNE.out]⟩) HBD.out (by simp; omega) (fun _ => H1.out.ne ⟨_, _, _, by rw [HNE.out]⟩), G1.out.set (fun _ => rfl) _⟩
      · have hlt8 : k < 8 := by omega
        clear hk8'
        have HSM := Lib.hid (rd_small n c k HN.out hlt8)
        by_cases hc0 : 0 < k ∧ c = 0
        · obtain ⟨hk0, rfl⟩ := hc0
          have HS := Lib.hid (numS_of_none (HD.out ▸ (rd_none l k n 0 (by omega) hlt HC.out (.inl ⟨by omega, .inl ⟨rfl, hk0⟩⟩)) : numR l = none))
          have KB := Lib.hid (rFails r B _ (some l) true w1 H1.out)
          go_wp2_with fail
          refine KB.out.mono ?_
          rintro e w2 ⟨rfl, h2⟩
          have H2 := Lib.hid (h2.trans G1.out)
          clear h2
          go_wp2
          go_ret
          exact ⟨by rw [HS.out]; rfl, by rw [HS.out]; exact H2.out⟩
        · by_cases h128 : c < 128
          · rcases Nat.eq_zero_or_pos k with hk0 | hk0
            · have hkz : k ≤ 0 := by omega
              have HC0 : Hid (¬ (c = 0 ∧ 0 < k)) := Lib.hid fun h => hc0 ⟨h.2, h.1⟩
              clear hk0 hc0
              have HS := Lib.hid (numS_of_some (HD.out ▸ rd_ret l k n c (by omega) hlt HC.out (by omega) HC0.out (HSM.out.2) : numR l = some (n + c % 128 * 2 ^ (7 * k), k + 1)))
              have HV := Lib.hid (num_step n c k HN.out (by omega) hc)
              have hbd : Byt (l.drop (k + 1)) := fun q hq => hbyt.out q (List.mem_of_mem_drop hq)
              have HBD := Lib.hid hbd
              have HNE : Hid (bl = B) := Lib.hid (inB_at H1.out.inB _ _ _ _ rfl)
              clear hbd
              go_wp2
              all_goals
                go_ret
                refine ⟨by rw [HS.out]; exact ret_i HV.out, ?_⟩
                rw [HS.out]
                first
                | exact ⟨_, H1.out.put0 _ (l.drop (k + 1)) rfl (HR.out.drop (k + 1) (by omega)) (.inr ⟨_, _, _, by rw [HNE.out]⟩) HBD.out (by simp; omega) (fun _ => H1.out.ne ⟨_, _, _, by rw [HNE.out]⟩), G1.out.set (fun _ => rfl) _⟩
                | exact ⟨_, H1.out.put0 _ (l.drop (k + 1)) rfl (rdv_dropF HR.out (k + 1) (by omega) _ _ (by unfold maxLen; omega)) (.inr ⟨_, _, _, by rw [HNE.out]⟩) HBD.out (by simp; omega) (fun _ => H1.out.ne ⟨_, _, _, by rw [HNE.out]⟩), G1.out.set (fun _ => rfl) _⟩
            · have hcp : 0 < c := by omega
              have HC0 : Hid (¬ (c = 0 ∧ 0 < k)) := Lib.hid fun h => hc0 ⟨h.2, h.1⟩
              clear hc0
              have HS := Lib.hid (numS_of_some (HD.out ▸ rd_ret l k n c (by omega) hlt HC.out (by omega) HC0.out (HSM.out.2) : numR l = some (n + c % 128 * 2 ^ (7 * k), k + 1)))
              have HV := Lib.hid (num_step n c k HN.out (by omega) hc)
              have hbd : Byt (l.drop (k + 1)) := fun q hq => hbyt.out q (List.mem_of_mem_drop hq)
              have HBD := Lib.hid hbd
              have HNE : Hid (bl = B) := Lib.hid (inB_at H1.out.inB _ _ _ _ rfl)
              clear hbd
              go_wp2
              all_goals
                go_ret
                refine ⟨by rw [HS.out]; exact ret_i HV.out, ?_⟩
                rw [HS.out]
                first
                | exact ⟨_, H1.out.put0 _ (l.drop (k + 1)) rfl (HR.out.drop (k + 1) (by omega)) (.inr ⟨_, _, _, by rw [HNE.out]⟩) HBD.out (by simp; omega) (fun _ => H1.out.ne ⟨_, _, _, by rw [HNE.out]⟩), G1.out.set (fun _ => rfl) _⟩
                | exact ⟨_, H1.out.put0 _ (l.drop (k + 1)) rfl (rdv_dropF HR.out (k + 1) (by omega) _ _ (by unfold maxLen; omega)) (.inr ⟨_, _, _, by rw [HNE.out]⟩) HBD.out (by simp; omega) (fun _ => H1.out.ne ⟨_, _, _, by rw [HNE.out]⟩), G1.out.set (fun _ => rfl) _⟩
          · have h128' : 128 ≤ c := by omega
            have hcp : 0 < c := by omega
            clear hc0
            have HV := Lib.hid (num_step n c k HN.out (by omega) hc)
            have HCT := Lib.hid (rd_cont l k n c hlt8 hlt HC.out h128')
            rcases Nat.eq_zero_or_pos k with hk0 | hk0
            · have hkz : k ≤ 0 := by omega
              clear hk0
              go_wp2
              go_round
              case rel => exact ⟨k + 1, n + c % 128 * 2 ^ (7 * k), by omega, by omega, by go_num, by rw [← HV.out], HSM.out.1, by rw [← HCT.out]; exact HD.out⟩
              case measure => simp [intOf]; omega
            · go_wp2
              go_round
              case rel => exact ⟨k + 1, n + c % 128 * 2 ^ (7 * k), by omega, by omega, by go_num, by rw [← HV.out], HSM.out.1, by rw [← HCT.out]; exact HD.out⟩
              case measure => simp [intOf]; omega
    · have HS := Lib.hid (numS_of_none (HD.out ▸ (rd_end l (9 - k) k n (by omega)) : numR l = none))
      have KB := Lib.hid (rFails r B _ (some l) true w1 H1.out)
      go_wp2_with fail
      refine KB.out.mono ?_
      rintro e w2 ⟨rfl, h2⟩
      have H2 := Lib.hid (h2.trans G1.out)
      clear h2
      go_wp2
      go_ret
      exact ⟨by rw [HS.out]; rfl, by rw [HS.out]; exact H2.out⟩
theorem rNum (r B : Nat) (v : Value) (s : RS) (w : World) (h : Rd w r B v s) : Calls Tryz.prog 36 #[.pointer (some ⟨r, 0, none⟩)] w (NumPost r B s w) := by
  rcases s with _ | l
  · have KF := Lib.hid (rFails r B v none false w h)
    clear h
    go_enter Tryz.func36, Tryz.ntmps36
    go_wp2_with fail
    refine KF.out.mono ?_
    rintro e w1 ⟨rfl, h1⟩
    have H1 := Lib.hid h1
    clear h1
    go_wp2
    go_ret
    exact ⟨rfl, H1.out⟩
  · exact rNumGood r B v l w h
theorem rNumNil (w : World) : Calls Tryz.prog 36 #[.pointer none] w fun e w' => e = .returned (.int .i64 0) ∧ w = w' := by
  have KF := Lib.hid (rFailsNil false w)
  go_enter Tryz.func36, Tryz.ntmps36
  go_wp2_with (go_at_call 79; refine KF.out.mono ?_; rintro e w1 ⟨rfl, rfl⟩)
  go_ret
  exact ⟨rfl, rfl⟩
end Go.Proofs.YthbalmoafpggdaaGreat
namespace Go.Proofs.YthbalmoafpggdaaGreat
open Go.RowKit
set_option linter.unusedVariables false
set_option linter.unusedSimpArgs false
/-- A fresh row of bytes. -/
def FreshB (w : World) (v : Value) (l : List Int) (w' : World) : Prop := w'.ownsRow w.heap.size 5 1 v l.length (l.map u8v)
theorem ownsRow_base {w : World} {B B' e s : Nat} {v : Value} {n : Nat} {xs : List Value} (h : w.ownsRow B e s v n xs) (hb : B' ≤ B) : w.ownsRow B' e s v n xs := by
  refine ⟨h.1, ?_⟩
  rcases h.2 with h2 | ⟨g, c, cur, h1, h2, h3⟩
  · exact .inl h2
  · exact .inr ⟨g, c, cur, h1, Nat.le_trans hb h2, h3⟩
def RBytesPost (r B : Nat) (s : RS) (w : World) (e : Ending) (w' : World) : Prop := ∃ v, e = .returned v ∧ FreshB w v (bytesS s).1 w' ∧ RStep r B w (bytesS s).2 w'
theorem numS_zero (s : RS) : (numS s).2 = none → (numS s).1 = 0 := by
  intro h
  unfold numS at h ⊢
  split
  · rfl
  · next l =>
    split
    · rfl
    · next h2 => simp only [h2] at h; cases h
theorem bytesS_none {s : RS} (h : (numS s).2 = none) : bytesS s = ([], none) := by
  unfold bytesS
  cases hq : numS s with
  | mk n t => rw [hq] at h; simp only at h; subst h; rfl
theorem bytesS_bad {s : RS} {l : List Int} (h : (numS s).2 = some l) (hb : 65536 < (numS s).1 ∨ l.length < (numS s).1) : bytesS s = ([], none) := by
  unfold bytesS
  cases hq : numS s with
  | mk n t => rw [hq] at h hb; simp only at h hb; subst h; simp only; rw [if_pos hb]
theorem bytesS_ok {s : RS} {l : List Int} (h : (numS s).2 = some l) (h1 : (numS s).1 ≤ 65536) (h2 : (numS s).1 ≤ l.length) : bytesS s = (l.take (numS s).1, some (l.drop (numS s).1)) := by
  unfold bytesS
  cases hq : numS s with
  | mk n t => rw [hq] at h h1 h2; simp only at h h1 h2; subst h; simp only; rw [if_neg (by omega)]
theorem freshB_nil (w w' : World) : FreshB w (.slice none 0 0) [] w' := World.ownsRow_nil _ _ _ _
theorem rNum' (r B : Nat) (v : Value) (s : RS) (w : World) (h : Rd w r B v s) {n : Nat} {s1 : RS} (hq : numS s = (n, s1)) : Calls Tryz.prog 36 #[.pointer (some ⟨r, 0, none⟩)] w fun e w' => e = .returned (.int .i64 (n : Nat)) ∧ RStep r B w s1 w' := by
  have := rNum r B v s w h
  unfold NumPost at this
  rw [hq] at this
  exact this
theorem rFail1 (r B : Nat) (v : Value) (s : RS) (bad : Bool) (w : World) (h : Rd w r B v s) (hb : (s.isNone || bad) = true) : Calls Tryz.prog 79 #[.pointer (some ⟨r, 0, none⟩), .bool bad] w fun e w' => e = .returned (.bool true) ∧ RStep r B w none w' :=
  (rFails r B v s bad w h).mono fun e w2 h => by
    obtain ⟨rfl, h⟩ := h
    rw [hb]
    have hf : failS s bad = none := by
      unfold failS
      cases bad
      · simp at hb; subst hb; rfl
      · rfl
    rw [hf] at h
    exact ⟨rfl, h⟩
set_option maxHeartbeats 4000000 in
set_option maxRecDepth 100000 in
theorem rBytes (r B : Nat) (v : Value) (s : RS) (w : World) (h : Rd w r B v s) : Calls Tryz.prog 82 #[.pointer (some ⟨r, 0, none⟩)] w (RBytesPost r B s w) := by
  have hbd := numS_bd s
  have S0 := bytesS_none (s := s)
  have S1 := fun l => bytesS_bad (s := s) (l := l)
  have S2 := fun l => bytesS_ok (s := s) (l := l)
  have hz := numS_zero s
  rcases hq : numS s with ⟨n, s1⟩
  have KN := Lib.hid (rNum' r B v s w h hq)
  rw [hq] at hbd S0 S1 S2 hz
  simp only at hbd S0 S1 S2 hz
  have hrl := h.lt
  have hn0 : (0 : Int) ≤ n := by omega
  have hnm : (n : Int) ≤ 4611686018427387904 := by omega
  clear h hq
  by_cases hgood : ∃ l1, s1 = some l1 ∧ n ≤ 65536 ∧ n ≤ l1.length
  · obtain ⟨l1, rfl, hn1, hn2⟩ := hgood
    have HOKS := Lib.hid (S2 l1 rfl hn1 hn2)
    clear S0 S1 S2
    have hd1 : decide ((65536 : Int) < (n : Int)) = false := decide_eq_false (by omega)
    have hd2 : decide (l1.length < n) = false := decide_eq_false (by omega)
    have hl1n : (n : Int) ≤ 65536 := by omega
    have hl2n : (n : Int) ≤ (l1.length : Int) := by omega
    go_enter Tryz.func82, Tryz.ntmps82
    go_wp2_with fail
    refine KN.out.mono ?_
    rintro e w1 ⟨rfl, v1, h1, g1⟩
    have KL := Lib.hid (rLeft r B v1 (some l1) w1 h1)
    have KF := Lib.hid (rFails r B v1 (some l1) false w1 h1)
    have G1 := Lib.hid g1
    have hs1 := g1.size
    clear h1 g1 KN
    go_wp2_with fail
    refine KL.out.mono ?_
    rintro e w2 ⟨rfl, rfl⟩
    unfold leftS
    simp only [Option.getD_some]
    go_wp2_with fail
    refine KF.out.mono ?_
    rintro e w3 ⟨rfl, v3, h3, g3⟩
    have pc0 : w3.cell? ⟨r, 0, none⟩ = some v3 := h3.blk.cell (o := 0) rfl
    have hrd : Rdv u8v w3 v3 l1 := h3.rdv
    have hll : l1.length ≤ 100000000000 := h3.len
    have hbt : Byt (l1.drop n) := fun q hq => h3.byt q (List.mem_of_mem_drop hq)
    have HBT := Lib.hid hbt
    have hlt3 := h3.lt
    have H3 := Lib.hid h3
    have G3 := Lib.hid (G1.out.trans g3)
    have hsz : w.heap.size ≤ w3.heap.size := G3.out.size
    rcases h3.inB with rfl | ⟨o3, n3, vc, rfl⟩
    · have hl0 : l1 = [] := by
        obtain ⟨_, _, _, h4⟩ := hrd.cap
        by_cases hl0 : l1 = []
        · exact hl0
        · obtain ⟨_, _, h⟩ := h4 hl0; cases h
      subst hl0
      obtain rfl : n = 0 := by simp at hn2; exact hn2
      have KC := Lib.hid (cloneC _ [] w3 hrd (by simp))
      clear h3 g3 hrd hbt
      go_wp2_with fail
      refine KC.out.mono ?_
      rintro e w4 ⟨v4, rfl, ho4, hb4⟩
      have H4 := Lib.hid (H3.out.below hb4)
      have pc4 : w4.cell? ⟨r, 0, none⟩ = some (.slice none 0 0) := H4.out.blk.cell (o := 0) rfl
      have pf4 := H4.out.blk.free 0
      have pz4 := H4.out.lt
      have G4 : Hid (Chg (· = r) w w4) := Lib.hid (G3.out.trans (Chg.of_below hb4 (fun i h1 h2 => by omega)))
      have O4 : Hid (w4.ownsRow w.heap.size 5 1 v4 0 [] ∧ ∀ b, v4.ownBlock = some b → ¬ b = r) := Lib.hid ⟨ownsRow_base ho4 hsz, fun b hb => by have := (ho4.lt b hb).1; omega⟩
      clear ho4 hb4 pc0
      go_wp2
      go_ret
      refine ⟨v4, rfl, ?_, ?_⟩
      · rw [HOKS.out]
        exact ownsRow_chg O4.out.1 (Chg.set (S := (· = r)) (Chg.refl _ _) (p := ⟨r, 0, none⟩) (fun _ => rfl) _) O4.out.2
      · rw [HOKS.out]
        exact ⟨_, H4.out.put0 _ [] rfl (Rdv.nil _ _) (.inl rfl) (fun q hq => by simp at hq) (by simp) (fun ⟨_, _, _, e⟩ => by rw [Value.slice.injEq] at e; cases e.1), G4.out.set (fun _ => rfl) _⟩
    · obtain ⟨rfl, hv1, hv2, _⟩ := hrd.cap
      unfold maxLen at hv2
      have KC := Lib.hid (cloneC _ (l1.take n) w3 (hrd.take n vc hn2 (by omega) (Nat.le_refl _)) (by simp; omega))
      have HR := Lib.hid hrd
      clear h3 g3 hrd hbt
      go_wp2_with fail
      refine KC.out.mono ?_
      rintro e w4 ⟨v4, rfl, ho4, hb4⟩
      have H4 := Lib.hid (H3.out.below hb4)
      have HR4 := Lib.hid (HR.out.below hb4)
      have pc4 : w4.cell? ⟨r, 0, none⟩ = some (.slice (some ⟨B, o3, none⟩) l1.length vc) := H4.out.blk.cell (o := 0) rfl
      have pf4 := H4.out.blk.free 0
      have pz4 := H4.out.lt
      have G4 : Hid (Chg (· = r) w w4) := Lib.hid (G3.out.trans (Chg.of_below hb4 (fun i h1 h2 => by omega)))
      have O4 : Hid (w4.ownsRow w.heap.size 5 1 v4 (l1.take n).length ((l1.take n).map u8v) ∧ ∀ b, v4.ownBlock = some b → ¬ b = r) := Lib.hid ⟨ownsRow_base ho4 hsz, fun b hb => by have := (ho4.lt b hb).1; omega⟩
      clear ho4 hb4 pc0
      go_wp2
      all_goals
        go_ret
        refine ⟨v4, rfl, ?_, ?_⟩
        · rw [HOKS.out]
          exact ownsRow_chg O4.out.1 (Chg.set (S := (· = r)) (Chg.refl _ _) (p := ⟨r, 0, none⟩) (fun _ => rfl) _) O4.out.2
        · rw [HOKS.out]
          first
          | exact ⟨_, H4.out.put0 _ (l1.drop n) rfl (HR4.out.drop n (by omega)) (.inr ⟨_, _, _, rfl⟩) HBT.out (by simp; omega) (fun _ => H4.out.ne ⟨_, _, _, rfl⟩), G4.out.set (fun _ => rfl) _⟩
          | exact ⟨_, H4.out.put0 _ (l1.drop n) rfl (rdv_dropF HR4.out n (by omega) _ _ (by unfold maxLen; omega)) (.inr ⟨_, _, _, rfl⟩) HBT.out (by simp; omega) (fun _ => H4.out.ne ⟨_, _, _, rfl⟩), G4.out.set (fun _ => rfl) _⟩
  · have HB : Hid (bytesS s = ([], none)) := Lib.hid (by
      rcases s1 with _ | l1
      · exact S0 rfl
      · refine S1 l1 rfl ?_
        by_cases h1 : 65536 < n
        · exact .inl h1
        · exact .inr (Nat.lt_of_not_le fun h2 => hgood ⟨l1, rfl, by omega, h2⟩))
    have hll : (leftS s1).length < n ∨ 65536 < n ∨ n = 0 := by
      rcases s1 with _ | l1
      · exact .inr (.inr (hz rfl))
      · by_cases h1 : 65536 < n
        · exact .inr (.inl h1)
        · exact .inl (Nat.lt_of_not_le fun h2 => hgood ⟨l1, rfl, by omega, h2⟩)
    have hbad : Hid (s1.isNone = true ∨ 0 < n) := Lib.hid (by
      rcases s1 with _ | l1
      · exact .inl rfl
      · refine .inr (Nat.pos_of_ne_zero fun h0 => hgood ⟨l1, rfl, by omega, by omega⟩))
    clear S0 S1 S2 hgood hz
    rcases hll with h1 | h1 | h1
    · by_cases h65 : 65536 < n
      all_goals
        have hd1 : decide ((65536 : Int) < (n : Int)) = decide (65536 < n) := by simp only [decide_eq_decide]; omega
        first | (rw [decide_eq_true h65] at hd1) | (rw [decide_eq_false h65] at hd1)
        have hd2 : decide ((leftS s1).length < n) = true := decide_eq_true h1
        clear h1 h65
        go_enter Tryz.func82, Tryz.ntmps82
        go_wp2_with fail
        refine KN.out.mono ?_
        rintro e w1 ⟨rfl, v1, h1, g1⟩
        have KL := Lib.hid (rLeft r B v1 s1 w1 h1)
        have KF := Lib.hid (rFail1 r B v1 s1 true w1 h1 (by simp))
        have G1 := Lib.hid g1
        clear h1 g1 KN
        go_wp2_with (first | (go_at_call 40; refine KL.out.mono ?_; rintro e w2 ⟨rfl, rfl⟩) | (go_at_call 79; (with_reducible refine KF.out.mono ?_); rintro e w3 ⟨rfl, h3⟩; have H3 := Lib.hid (h3.trans G1.out); clear h3))
        go_ret
        exact ⟨_, rfl, by rw [HB.out]; exact freshB_nil _ _, by rw [HB.out]; exact H3.out⟩
    · have hd1 : decide ((65536 : Int) < (n : Int)) = true := decide_eq_true (by omega)
      have hgt : (65536 : Int) < n := by omega
      go_enter Tryz.func82, Tryz.ntmps82
      go_wp2_with fail
      refine KN.out.mono ?_
      rintro e w1 ⟨rfl, v1, h1, g1⟩
      have KF := Lib.hid (rFail1 r B v1 s1 true w1 h1 (by simp))
      have G1 := Lib.hid g1
      clear h1 g1 KN
      go_wp2_with (first | (go_at_call 79; (with_reducible refine KF.out.mono ?_); rintro e w3 ⟨rfl, h3⟩; have H3 := Lib.hid (h3.trans G1.out); clear h3))
      go_ret
      exact ⟨_, rfl, by rw [HB.out]; exact freshB_nil _ _, by rw [HB.out]; exact H3.out⟩
    · have hn : s1.isNone = true := by rcases hbad.out with h | h; (exact h); omega
      have HN := Lib.hid hn
      have hd1 : decide ((65536 : Int) < (n : Int)) = false := decide_eq_false (by omega)
      have hd2 : decide ((leftS s1).length < n) = false := decide_eq_false (by omega)
      clear hn h1
      go_enter Tryz.func82, Tryz.ntmps82
      go_wp2_with fail
      refine KN.out.mono ?_
      rintro e w1 ⟨rfl, v1, h1, g1⟩
      have KL := Lib.hid (rLeft r B v1 s1 w1 h1)
      have KF := Lib.hid (rFail1 r B v1 s1 false w1 h1 (by rw [HN.out]; rfl))
      have G1 := Lib.hid g1
      clear h1 g1 KN
      go_wp2_with (first | (go_at_call 40; refine KL.out.mono ?_; rintro e w2 ⟨rfl, rfl⟩) | (go_at_call 79; (with_reducible refine KF.out.mono ?_); rintro e w3 ⟨rfl, h3⟩; have H3 := Lib.hid (h3.trans G1.out); clear h3))
      go_ret
      exact ⟨_, rfl, by rw [HB.out]; exact freshB_nil _ _, by rw [HB.out]; exact H3.out⟩
end Go.Proofs.YthbalmoafpggdaaGreat
namespace Go.Proofs.YthbalmoafpggdaaGreat
open Go.RowKit
set_option linter.unusedVariables false
set_option linter.unusedSimpArgs false
def NewRPost (l : List Int) (w : World) (e : Ending) (w' : World) : Prop := ∃ r B v, e = .returned (.pointer (some ⟨r, 0, none⟩)) ∧ w.heap.size ≤ r ∧ w.heap.size ≤ B ∧ B < w'.heap.size ∧ Rd w' r B v (some l) ∧ Below w.heap.size w w'
theorem rNew (x : Value) (l : List Int) (w : World) (hx : Rdv u8v w x l) (hb : Byt l) (hl : l.length ≤ 100000000000) : Calls Tryz.prog 35 #[x] w (NewRPost l w) := by
  have KC := Lib.hid (cloneC x l w hx (by omega))
  have HB := Lib.hid hb
  clear hx hb
  go_enter Tryz.func35, Tryz.ntmps35
  go_wp2_with fail
  refine KC.out.mono ?_
  rintro e w1 ⟨v, rfl, ho, hb1⟩
  have hr := Lib.hid (Rdv.of_owns (enc := u8v) (xs := l) ho)
  have hs1 := hb1.size
  have HB1 := Lib.hid hb1
  have hin : v = .slice none 0 0 ∨ ∃ g c, w.heap.size ≤ g ∧ g < w1.heap.size ∧ v = .slice (some ⟨g, 0, none⟩) l.length c := by
    rcases ho.2 with ⟨h, _⟩ | ⟨g, c, cur, h, hg, hh, _⟩
    · exact .inl h
    · exact .inr ⟨g, c, hg, lt_of_block hh, h⟩
  have HIN := Lib.hid hin
  have hsh := own_shape ho
  obtain ⟨va, vc, rfl, _⟩ := hsh
  clear ho hb1 hin
  go_wp2
  go_ret
  have BK : Blk (w1.alloc (.cells #[.slice va l.length vc, .bool false] 104)) w1.heap.size #[.slice va l.length vc, .bool false] 104 := Blk.new w1 _ _
  have RR := hr.out.alloc (.cells #[.slice va l.length vc, .bool false] 104)
  rcases HIN.out with h | ⟨g, c, hg, hgl, h⟩
  · exact ⟨w1.heap.size, w1.heap.size, .slice va l.length vc, rfl, hs1, hs1, by simp, ⟨BK, RR, .inl h, (fun ⟨_, _, _, e⟩ => by rw [h, Value.slice.injEq] at e; cases e.1), HB.out, hl⟩, HB1.out.alloc hs1 _⟩
  · exact ⟨w1.heap.size, g, .slice va l.length vc, rfl, hs1, hg, by simp; omega, ⟨BK, RR, .inr ⟨_, _, _, h⟩, (fun _ => by omega), HB.out, hl⟩, HB1.out.alloc hs1 _⟩
def RTextPost (r B : Nat) (s : RS) (w : World) (e : Ending) (w' : World) : Prop := e = .returned (.string (strOfNums (bytesS s).1)) ∧ RStep r B w (bytesS s).2 w'
theorem rText (r B : Nat) (v : Value) (s : RS) (w : World) (h : Rd w r B v s) : Calls Tryz.prog 81 #[.pointer (some ⟨r, 0, none⟩)] w (RTextPost r B s w) := by
  have K := Lib.hid (rBytes r B v s w h)
  clear h
  go_enter Tryz.func81, Tryz.ntmps81
  go_wp2_with fail
  refine K.out.mono ?_
  rintro e w1 ⟨v1, rfl, ho, h1⟩
  have hr := Rdv.of_owns (enc := u8v) (xs := (bytesS s).1) ho
  have hcv := conv_rdv (P := Tryz.prog) 30 5 Tryz.underlying30 Tryz.underlying5 hr 9 Tryz.underlying9
  have H1 := Lib.hid h1
  clear h1 ho hr
  go_wp2
  go_ret
  exact ⟨rfl, H1.out⟩
def RTruthPost (r B : Nat) (s : RS) (w : World) (e : Ending) (w' : World) : Prop := e = .returned (.bool (truthS s).1) ∧ RStep r B w (truthS s).2 w'
theorem truthS_eq (s : RS) : truthS s = (match (numS s).2 with | none => (false, none) | some l => if 1 < (numS s).1 then (false, none) else (decide ((numS s).1 = 1), some l)) := by
  unfold truthS
  rcases numS s with ⟨n, t⟩
  rcases t with _ | l <;> rfl
theorem rTruth (r B : Nat) (v : Value) (s : RS) (w : World) (h : Rd w r B v s) : Calls Tryz.prog 37 #[.pointer (some ⟨r, 0, none⟩)] w (RTruthPost r B s w) := by
  have hz := numS_zero s
  have hT := truthS_eq s
  rcases hq : numS s with ⟨n, s1⟩
  have KN := Lib.hid (rNum' r B v s w h hq)
  rw [hq] at hz hT
  simp only at hz hT
  clear h hq
  by_cases h1 : 1 < n
  · have hd : decide ((1 : Int) < (n : Int)) = true := decide_eq_true (by omega)
    have HT : Hid (truthS s = (false, none)) := Lib.hid (by rw [hT]; rcases s1 with _ | l; rfl; exact if_pos h1)
    clear hz hT
    go_enter Tryz.func37, Tryz.ntmps37
    go_wp2_with fail
    refine KN.out.mono ?_
    rintro e w1 ⟨rfl, v1, h1, g1⟩
    have KF := Lib.hid (rFail1 r B v1 s1 true w1 h1 (by simp))
    have G1 := Lib.hid g1
    clear h1 g1 KN
    go_wp2_with fail
    (with_reducible refine KF.out.mono ?_)
    rintro e w3 ⟨rfl, h3⟩
    have H3 := Lib.hid (h3.trans G1.out)
    clear h3
    go_wp2
    go_ret
    exact ⟨by rw [HT.out]; rfl, by rw [HT.out]; exact H3.out⟩
  · have hd : decide ((1 : Int) < (n : Int)) = false := decide_eq_false (by omega)
    rcases s1 with _ | l
    · have h0 : n ≤ 0 := by have := hz rfl; omega
      have HT : Hid (truthS s = (false, none)) := Lib.hid hT
      clear hz hT
      go_enter Tryz.func37, Tryz.ntmps37
      go_wp2_with fail
      refine KN.out.mono ?_
      rintro e w1 ⟨rfl, v1, h1, g1⟩
      have KF := Lib.hid (rFail1 r B v1 none false w1 h1 (by simp))
      have G1 := Lib.hid g1
      clear h1 g1 KN
      go_wp2_with fail
      (with_reducible refine KF.out.mono ?_)
      rintro e w3 ⟨rfl, h3⟩
      have H3 := Lib.hid (h3.trans G1.out)
      clear h3
      go_wp2
      go_ret
      exact ⟨by rw [HT.out]; rfl, by rw [HT.out]; exact H3.out⟩
    · have HT : Hid (truthS s = (decide (n = 1), some l)) := Lib.hid (hT.trans (if_neg h1))
      have hn1 : n = 0 ∨ n = 1 := by omega
      have hb : ((n : Int) == 1) = decide (n = 1) := by rcases hn1 with rfl | rfl <;> rfl
      generalize decide (n = 1) = q at *
      clear hz hT hn1
      go_enter Tryz.func37, Tryz.ntmps37
      go_wp2_with fail
      refine KN.out.mono ?_
      rintro e w1 ⟨rfl, v1, h1, g1⟩
      have KF := Lib.hid (rFails r B v1 (some l) false w1 h1)
      have G1 := Lib.hid g1
      clear h1 g1 KN
      go_wp2_with fail
      (with_reducible refine KF.out.mono ?_)
      rintro e w3 ⟨rfl, h3⟩
      have H3 := Lib.hid (h3.trans G1.out)
      clear h3
      go_wp2
      go_ret
      exact ⟨by rw [HT.out]; rfl, by rw [HT.out]; exact H3.out⟩
def RIDPost (r B : Nat) (s : RS) (w : World) (e : Ending) (w' : World) : Prop := e = .returned (.agg #[.int .i64 ((idS s).1.1 : Nat), .int .i64 ((idS s).1.2 : Nat)]) ∧ RStep r B w (idS s).2 w'
theorem idS_eq (s : RS) : idS s = (match (numS (numS s).2).2 with | none => ((0, 0), none) | some l => if 1152921504606846976 < (numS s).1 ∨ 64 ≤ (numS (numS s).2).1 then ((0, 0), none) else (((numS s).1, (numS (numS s).2).1), some l)) := by
  unfold idS
  rcases numS (numS s).2 with ⟨n, t⟩
  rcases t with _ | l <;> rfl
theorem RStepT.pre {T : TypeId} {r B : Nat} {w w0 w' : World} {s' : RS} (g : Below w.heap.size w w0) (h : RStepT T r B w0 s' w') : RStepT T r B w s' w' := by
  obtain ⟨v', h1, h2⟩ := h
  exact ⟨v', h1, (Chg.of_below (S := (· = r)) g (fun i h1 h2 => by omega)).trans' h2 (fun _ _ h => h)⟩
theorem RStepT.setNew {T : TypeId} {r B : Nat} {w w' : World} {s' : RS} (h : RStepT T r B w s' w') (b o : Nat) (x : Value) (hb : w.heap.size ≤ b) (hr : b ≠ r) (hB : b ≠ B) : RStepT T r B w s' (w'.setCell ⟨b, o, none⟩ x) := by
  obtain ⟨v', h1, h2⟩ := h
  refine ⟨v', h1.chg (S := (· = b)) (Chg.set (S := (· = b)) (Chg.refl _ _) (p := ⟨b, o, none⟩) (fun _ => rfl) _) (Ne.symm hr) (Ne.symm hB), h2.set (fun hlt => by simp at hlt; omega) _⟩
set_option maxHeartbeats 4000000 in
set_option maxRecDepth 100000 in
theorem rID (r B : Nat) (v : Value) (s : RS) (w : World) (h : Rd w r B v s) (hBl : B < w.heap.size) : Calls Tryz.prog 80 #[.pointer (some ⟨r, 0, none⟩)] w (RIDPost r B s w) := by
  have b0 : Below w.heap.size w (w.alloc (.cells #[.int .i64 0, .int .i64 0] 44)) := (Below.refl _ _).alloc (Nat.le_refl _) _
  have hz := numS_zero (numS s).2
  have hI := idS_eq s
  have hbd := numS_bd s
  have hbd2 := numS_bd (numS s).2
  rcases hq : numS s with ⟨t, s1⟩
  rw [hq] at hz hI hbd hbd2
  simp only at hz hI hbd hbd2
  rcases hq2 : numS s1 with ⟨n, s2⟩
  rw [hq2] at hz hI hbd2
  simp only at hz hI hbd2
  have KN := Lib.hid (rNum' r B v s _ (h.below b0) hq)
  have HQ2 := Lib.hid hq2
  have hrl := h.lt
  have HB0 := Lib.hid b0
  have BX := Blk.new w #[.int .i64 0, .int .i64 0] 44
  have HBX := Lib.hid BX
  have ht0 : (0 : Int) ≤ t := by omega
  have hn0 : (0 : Int) ≤ n := by omega
  clear h hq hq2 b0 BX
  go_enter Tryz.func80, Tryz.ntmps80
  go_wp2_with fail
  refine KN.out.mono ?_
  rintro e w1 ⟨rfl, v1, h1, g1⟩
  have KN2 := Lib.hid (rNum' r B v1 s1 w1 h1 HQ2.out)
  have G1 := Lib.hid g1
  have X1 := Lib.hid (g1.blk HBX.out (by omega))
  clear h1 g1 KN
  go_wp2_with fail
  refine KN2.out.mono ?_
  rintro e w2 ⟨rfl, v2, h2, g2⟩
  have X2 := Lib.hid (g2.blk X1.out (by omega))
  have G2 := Lib.hid (G1.out.trans g2)
  have x20 := X2.out.cell (o := 0) rfl
  have x21 := X2.out.cell (o := 1) rfl
  have xf0 := X2.out.free 0
  have xf1 := X2.out.free 1
  have xz := X2.out.lt
  have H2 := Lib.hid h2
  clear h2 g2 KN2 G1 X1
  have fin : ∀ (bad : Bool), (s2.isNone || bad) = true → Calls Tryz.prog 79 #[.pointer (some ⟨r, 0, none⟩), .bool bad] w2 fun e w3 => e = .returned (.bool true) ∧ RStep r B w none w3 ∧ Blk w3 w.heap.size #[.int .i64 0, .int .i64 0] 44 := fun bad hb => (rFail1 r B v2 s2 bad w2 H2.out hb).mono fun e w3 h => by
    obtain ⟨rfl, v3, h3, g3⟩ := h
    exact ⟨rfl, RStepT.pre HB0.out ⟨v3, h3, G2.out.trans g3⟩, g3.blk X2.out (by omega)⟩
  have FIN := Lib.hid fin
  clear fin
  have cases4 : (∃ l, s2 = some l ∧ t ≤ 1152921504606846976 ∧ n < 64) ∨ (1152921504606846976 < t) ∨ (t ≤ 1152921504606846976 ∧ 64 ≤ n) ∨ (t ≤ 1152921504606846976 ∧ n < 64 ∧ s2 = none) := by
    by_cases h1 : t ≤ 1152921504606846976
    · by_cases h2 : n < 64
      · rcases s2 with _ | l
        · exact .inr (.inr (.inr ⟨h1, h2, rfl⟩))
        · exact .inl ⟨l, rfl, h1, h2⟩
      · exact .inr (.inr (.inl ⟨h1, by omega⟩))
    · exact .inr (.inl (by omega))
  rcases cases4 with ⟨l, hs2, c1, c2⟩ | c1 | ⟨c1, c2⟩ | ⟨c1, c2, hs2⟩
  · subst hs2
    have HI : Hid (idS s = ((t, n), some l)) := Lib.hid (by rw [hI]; exact if_neg (by omega))
    have hd1 : decide ((1152921504606846976 : Int) < (t : Int)) = false := decide_eq_false (by omega)
    have hd2 : decide ((64 : Int) ≤ (n : Int)) = false := decide_eq_false (by omega)
    have KF := Lib.hid (rFails r B v2 (some l) false w2 H2.out)
    clear hI hz
    go_wp2_with fail
    (with_reducible refine KF.out.mono ?_)
    rintro e w3 ⟨rfl, v3, h3, g3⟩
    have X3 := g3.blk X2.out (by omega)
    have y0 := X3.cell (o := 0) rfl
    have y1 := X3.cell (o := 1) rfl
    have yf0 := X3.free 0
    have yf1 := X3.free 1
    have yz := X3.lt
    have H3 := Lib.hid (RStepT.pre HB0.out ⟨v3, h3, G2.out.trans g3⟩)
    clear h3 g3 x20 x21 xf0 xf1 xz
    go_wp2
    refine bodyPost_ret (v := .agg #[.int .i64 t, .int .i64 n]) (by simp [results, Tryz.results80, go_sem, y0, y1]) rfl ⟨?_, ?_⟩
    · rw [HI.out]
    · rw [HI.out]
      exact (H3.out.setNew w.heap.size 0 _ (Nat.le_refl _) (by omega) (by omega)).setNew w.heap.size 1 _ (Nat.le_refl _) (by omega) (by omega)
  · have HI : Hid (idS s = ((0, 0), none)) := Lib.hid (by rw [hI]; rcases s2 with _ | l; rfl; first | exact if_pos (by omega) | cases hs2)
    have hd1 : decide ((1152921504606846976 : Int) < (t : Int)) = true := decide_eq_true (by omega)
    skip
    have KF := Lib.hid (FIN.out true (by simp))
    clear hI hz
    go_wp2_with fail
    (with_reducible refine KF.out.mono ?_)
    rintro e w3 ⟨rfl, h3, X3⟩
    have y0 := X3.cell (o := 0) rfl
    have y1 := X3.cell (o := 1) rfl
    have yf0 := X3.free 0
    have yf1 := X3.free 1
    have yz := X3.lt
    have H3 := Lib.hid h3
    clear h3 x20 x21 xf0 xf1 xz
    go_wp2
    refine bodyPost_ret (v := .agg #[.int .i64 0, .int .i64 0]) (by simp [results, Tryz.results80, go_sem, y0, y1]) rfl ⟨?_, ?_⟩
    · rw [HI.out]; rfl
    · rw [HI.out]
      exact (H3.out.setNew w.heap.size 0 _ (Nat.le_refl _) (by omega) (by omega)).setNew w.heap.size 1 _ (Nat.le_refl _) (by omega) (by omega)
  · have HI : Hid (idS s = ((0, 0), none)) := Lib.hid (by rw [hI]; rcases s2 with _ | l; rfl; first | exact if_pos (by omega) | cases hs2)
    have hd1 : decide ((1152921504606846976 : Int) < (t : Int)) = false := decide_eq_false (by omega)
    have hd2 : decide ((64 : Int) ≤ (n : Int)) = true := decide_eq_true (by omega)
    have KF := Lib.hid (FIN.out true (by simp))
    clear hI hz
    go_wp2_with fail
    (with_reducible refine KF.out.mono ?_)
    rintro e w3 ⟨rfl, h3, X3⟩
    have y0 := X3.cell (o := 0) rfl
    have y1 := X3.cell (o := 1) rfl
    have yf0 := X3.free 0
    have yf1 := X3.free 1
    have yz := X3.lt
    have H3 := Lib.hid h3
    clear h3 x20 x21 xf0 xf1 xz
    go_wp2
    refine bodyPost_ret (v := .agg #[.int .i64 0, .int .i64 0]) (by simp [results, Tryz.results80, go_sem, y0, y1]) rfl ⟨?_, ?_⟩
    · rw [HI.out]; rfl
    · rw [HI.out]
      exact (H3.out.setNew w.heap.size 0 _ (Nat.le_refl _) (by omega) (by omega)).setNew w.heap.size 1 _ (Nat.le_refl _) (by omega) (by omega)
  · have HI : Hid (idS s = ((0, 0), none)) := Lib.hid (by rw [hI]; rcases s2 with _ | l; rfl; first | exact if_pos (by omega) | cases hs2)
    have hd1 : decide ((1152921504606846976 : Int) < (t : Int)) = false := decide_eq_false (by omega)
    have hd2 : decide ((64 : Int) ≤ (n : Int)) = false := decide_eq_false (by omega)
    have KF := Lib.hid (FIN.out false (by rw [hs2]; rfl))
    clear hI hz hs2
    go_wp2_with fail
    (with_reducible refine KF.out.mono ?_)
    rintro e w3 ⟨rfl, h3, X3⟩
    have y0 := X3.cell (o := 0) rfl
    have y1 := X3.cell (o := 1) rfl
    have yf0 := X3.free 0
    have yf1 := X3.free 1
    have yz := X3.lt
    have H3 := Lib.hid h3
    clear h3 x20 x21 xf0 xf1 xz
    go_wp2
    refine bodyPost_ret (v := .agg #[.int .i64 0, .int .i64 0]) (by simp [results, Tryz.results80, go_sem, y0, y1]) rfl ⟨?_, ?_⟩
    · rw [HI.out]; rfl
    · rw [HI.out]
      exact (H3.out.setNew w.heap.size 0 _ (Nat.le_refl _) (by omega) (by omega)).setNew w.heap.size 1 _ (Nat.le_refl _) (by omega) (by omega)
end Go.Proofs.YthbalmoafpggdaaGreat
namespace Go.Proofs.YthbalmoafpggdaaGreat
open Go.RowKit
set_option linter.unusedVariables false
set_option linter.unusedSimpArgs false
theorem Cd.infoI64 : (Tryz.prog.info? 2).map (fun i => (i.zero, i.size, i.bytes)) = some (some (.int .i64 0), 1, 8) := by kernel_rfl
def RVecPost (r B : Nat) (s : RS) (w : World) (e : Ending) (w' : World) : Prop := ∃ v, e = .returned v ∧ w'.ownsRow w.heap.size 2 1 v (vecS s).1.length ((vecS s).1.map i64c) ∧ RStep r B w (vecS s).2 w'
theorem vecS_eq (s : RS) : vecS s = (match (numS s).2 with | none => ([], none) | some l => if 64 < (numS s).1 then ([], none) else match (numsS (numS s).1 (some l)).2 with | none => ([], none) | some l' => if vecOkB (numsS (numS s).1 (some l)).1 = true then ((numsS (numS s).1 (some l)).1, some l') else ([], none)) := by
  unfold vecS
  rcases numS s with ⟨n, t⟩
  rcases t with _ | l
  · rfl
  · simp only
    split
    · rfl
    · rcases numsS n (some l) with ⟨v, t⟩
      rcases t with _ | l' <;> rfl
theorem cutTo_iff (v : List Int) : cutTo v v.length = v.length ↔ (v = [] ∨ v.getD (v.length - 1) 0 ≠ 0) := by
  rcases Nat.eq_zero_or_pos v.length with h | h
  · have : v = [] := List.length_eq_zero_iff.1 h
    subst this; simp [cutTo]
  · have hne : v ≠ [] := fun e => by rw [e] at h; simp at h
    obtain ⟨k, hk⟩ : ∃ k, v.length = k + 1 := ⟨v.length - 1, by omega⟩
    rw [hk, Nat.add_sub_cancel]
    constructor
    · intro h1
      refine .inr fun h0 => ?_
      rw [cutTo_down v k h0] at h1
      have := cutTo_le v k
      omega
    · intro h1
      rcases h1 with h1 | h1
      · exact absurd h1 hne
      · exact cutTo_stop v k h1
def vecEnd (ys : List Int) : RS → List Int × RS | none => ([], none) | some l => (ys, some l)
theorem RdT.grown {T : TypeId} {w w' : World} {r B b : Nat} {v : Value} {s : RS} {row : Option Nat} (h : RdT T w r B v s) (g : w.grownBy w' row) (hr : ∀ k, row = some k → b ≤ k) (h1 : r < b) (h2 : B < b) : RdT T w' r B v s :=
  h.chg (S := fun k => b ≤ k) ((Chg.refl _ w).grown g (fun k hk _ => hr k hk)) (by omega) (by omega)
set_option maxHeartbeats 4000000 in
set_option maxRecDepth 100000 in
theorem rVector (r B : Nat) (v : Value) (s : RS) (w : World) (h : Rd w r B v s) (hBl : B < w.heap.size) : Calls Tryz.prog 38 #[.pointer (some ⟨r, 0, none⟩)] w (RVecPost r B s w) := by
  obtain ⟨i0, hi, hz0, hz1, hz2⟩ := info_parts Cd.infoI64
  have hz := numS_zero s
  have hI := vecS_eq s
  have hbd := numS_bd s
  rcases hq : numS s with ⟨n, s1⟩
  rw [hq] at hz hI hbd
  simp only at hz hI hbd
  have KN := Lib.hid (rNum' r B v s w h hq)
  have hrl := h.lt
  have hn0 : (0 : Int) ≤ n := by omega
  clear h hq
  by_cases h64 : 64 < n
  · have HI : Hid (vecS s = ([], none)) := Lib.hid (by rw [hI]; rcases s1 with _ | l; rfl; exact if_pos h64)
    have hd : decide ((64 : Int) < (n : Int)) = true := decide_eq_true (by omega)
    clear hI hz
    go_enter Tryz.func38, Tryz.ntmps38
    go_wp2_with fail
    refine KN.out.mono ?_
    rintro e w1 ⟨rfl, v1, h1, g1⟩
    have KF := Lib.hid (rFail1 r B v1 s1 true w1 h1 (by simp))
    have G1 := Lib.hid g1
    clear h1 g1 KN
    go_wp2_with fail
    (with_reducible refine KF.out.mono ?_)
    rintro e w3 ⟨rfl, h3⟩
    have H3 := Lib.hid (h3.trans G1.out)
    clear h3
    go_wp2
    go_ret
    exact ⟨_, rfl, by rw [HI.out]; exact World.ownsRow_nil _ _ _ _, by rw [HI.out]; exact H3.out⟩
  · have hd : decide ((64 : Int) < (n : Int)) = false := decide_eq_false (by omega)
    have hn64 : n ≤ 64 := by omega
    rcases s1 with _ | l
    · have HI : Hid (vecS s = ([], none)) := Lib.hid hI
      have hnz : n ≤ 0 := by have := hz rfl; omega
      clear hI hz h64
      go_enter Tryz.func38, Tryz.ntmps38
      go_wp2_with fail
      refine KN.out.mono ?_
      rintro e w1 ⟨rfl, v1, h1, g1⟩
      have KF := Lib.hid (rFail1 r B v1 none false w1 h1 (by simp))
      have G1 := Lib.hid g1
      clear h1 g1 KN
      go_wp2_with fail
      (with_reducible refine KF.out.mono ?_)
      rintro e w3 ⟨rfl, h3⟩
      have H3 := Lib.hid (h3.trans G1.out)
      clear h3
      go_wp2
      go_ret
      exact ⟨_, rfl, by rw [HI.out]; exact World.ownsRow_nil _ _ _ _, by rw [HI.out]; exact H3.out⟩
    · have HI : Hid (vecS s = (match (numsS n (some l)).2 with | none => ([], none) | some l' => if vecOkB (numsS n (some l)).1 = true then ((numsS n (some l)).1, some l') else ([], none))) := Lib.hid (hI.trans (if_neg h64))
      clear hI hz h64
      go_enter Tryz.func38, Tryz.ntmps38
      go_wp2_with fail
      refine KN.out.mono ?_
      rintro e w1 ⟨rfl, v1, h1, g1⟩
      have KF := Lib.hid (rFails r B v1 (some l) false w1 h1)
      have G1 := Lib.hid g1
      clear h1 g1 KN
      go_wp2_with fail
      (with_reducible refine KF.out.mono ?_)
      rintro e w3 ⟨rfl, v3, h3, g3⟩
      have H3 : Hid (Rd w3 r B v3 (some l)) := Lib.hid h3
      have G3 := Lib.hid (G1.out.trans g3)
      clear h3 g3
      go_wp2_with fail
      go_loopw [4, 12] (fun vv i wr => ∃ k : Nat, k ≤ n ∧ i = .int .i64 k ∧ wr.ownsRow w.heap.size 2 1 vv k ((numsS k (some l)).1.map i64c) ∧ (∃ v', Rd wr r B v' (numsS k (some l)).2) ∧ Chg (· = r) w wr) (fun _ i _ => n - (intOf i).toNat)
      case atStart => exact ⟨0, by omega, rfl, World.ownsRow_nil _ _ _ _, ⟨v3, H3.out⟩, G3.out⟩
      case round =>
        obtain ⟨k, hk, rfl, ho, ⟨v', hR⟩, hC⟩ := hrel
        have HO := Lib.hid ho
        have HR := Lib.hid hR
        have HC := Lib.hid hC
        have hws := hC.size
        by_cases hlt : k < n
        · have KM := Lib.hid (rNum r B v' _ wr hR)
          clear ho hR hC
          go_wp2_with fail
          refine KM.out.mono ?_
          rintro e w4 ⟨rfl, v4, h4, g4⟩
          have ho4 := ownsRow_chg HO.out g4 (fun b hb e => by have := (HO.out.lt b hb).1; omega)
          have C4 := Lib.hid (HC.out.trans g4)
          have H4 := Lib.hid h4
          have hws4 : w.heap.size ≤ w4.heap.size := C4.out.size
          have KV : Hid (numsS (k + 1) (some l) = ((numsS k (some l)).1 ++ [((numS (numsS k (some l)).2).1 : Int)], (numS (numsS k (some l)).2).2)) := Lib.hid rfl
          generalize (numS (numsS k (some l)).2).1 = q at *
          clear h4 g4
          go_wp2_with (at_builtin; refine wpList_append_own_at _ rfl _ _ 23 rfl w.heap.size 2 i0 (.int .i64 0) 1 8 Tryz.underlying23 hi hz0 hz1 hz2 rfl (by decide) _ _ _ rfl (ho4.alloc _) ⟨w4.heap.size, 0, none⟩ 1 1 [.int .i64 (q : Int)] rfl rfl ?c1 ?c2 ?c3 ?c4 ?c5 ?_)
          case c1 => exact cell_one_new _ _ _
          case c2 => intro u hu; simp at hu; subst hu; rfl
          case c3 => unfold maxLen; omega
          case c4 => omega
          case c5 => simp; omega
          intro v5 w5 o5 g5 _ b5
          have R5 := Lib.hid ((H4.out.below ((Below.refl _ _).alloc (Nat.le_refl _) _)).grown g5 (fun k hk => (ho4.lt k hk).1) hrl hBl)
          have C5 : Hid (Chg (· = r) w w5) := Lib.hid (C4.out.trans' ((((Chg.refl (fun k => w.heap.size ≤ k) w4).alloc _)).grown g5 (fun k hk _ => (ho4.lt k hk).1)) (fun i hi hs => by omega))
          have O5 := Lib.hid o5
          obtain ⟨v5a, v5c, rfl, _⟩ := own_shape o5
          clear o5 g5 b5 ho4
          go_wp2
          go_roundw
          case rel => exact ⟨k + 1, by omega, by go_num, by rw [KV.out]; have := O5.out; simpa using this, ⟨_, by rw [KV.out]; exact R5.out⟩, C5.out⟩
          case measure => simp [intOf]; omega
        · obtain rfl : k = n := by omega
          clear hR hC
          obtain ⟨va, vc, rfl, hv1, hv2, _⟩ := own_shape ho
          have hvl := numsS_len k (some l)
          have HV := Lib.hid hvl
          generalize hNS : numsS k (some l) = NS at *
          obtain ⟨ys, s5⟩ := NS
          simp only at *
          subst hvl
          have hrd := Rdv.of_owns (enc := i64c) (xs := ys) ho
          have KC := Lib.hid (cdCut va vc ys wr hrd)
          have KVV := Lib.hid (cdVector va vc ys wr hrd)
          clear ho hrd
          have h64b : decide (ys.length ≤ 64) = true := decide_eq_true hn64
          rw [show (vecMayB ys && decide (ys.length ≤ 64)) = vecMayB ys by rw [h64b, Bool.and_true]] at KVV
          have hIff := cutTo_iff ys
          have hOkd : vecOkB ys = (vecMayB ys && decide (ys = [] ∨ ys.getD (ys.length - 1) 0 ≠ 0)) := rfl
          have fin : ∀ bad, (s5.isNone || bad) = true → Calls Tryz.prog 79 #[.pointer (some ⟨r, 0, none⟩), .bool bad] wr fun e w' => e = .returned (.bool true) ∧ RStep r B w none w' := fun bad hb => (rFail1 r B v' s5 bad wr HR.out hb).mono fun e w3 h => by
            obtain ⟨rfl, h3⟩ := h
            exact ⟨rfl, h3.trans HC.out⟩
          have FIN := Lib.hid fin
          clear fin h64b
          by_cases hmay : vecMayB ys = true
          · rw [hmay] at KVV hOkd
            have KVV := Lib.hid KVV.out
            by_cases hcut : cutTo ys ys.length = ys.length
            · have hOk : vecOkB ys = true := by rw [hOkd, decide_eq_true (hIff.1 hcut)]; rfl
              have HI2 : Hid (vecS s = vecEnd ys s5) := Lib.hid (by have h := HI.out; rw [h]; cases s5; rfl; simp only [hOk, if_pos, vecEnd])
              have hne : ((cutTo ys ys.length : Int) != (ys.length : Int)) = false := by rw [hcut]; simp
              have hne2 : (cutTo ys ys.length != ys.length) = false := by rw [hcut]; simp
              have HCUT := Lib.hid hcut
              clear hmay hcut hIff hOkd hOk
              go_wp2_with fail
              refine KVV.out.mono ?_
              rintro e w4 ⟨rfl, rfl⟩
              go_wp2_with fail
              refine KC.out.mono ?_
              rintro e w4 ⟨rfl, rfl⟩
              rcases s5 with _ | l'
              · have KF2 := Lib.hid (FIN.out false rfl)
                go_wp2_with fail
                (with_reducible refine KF2.out.mono ?_)
                rintro e w5 ⟨rfl, h5⟩
                have H5 := Lib.hid h5
                clear h5
                go_wp2
                go_ret
                exact ⟨_, rfl, by rw [HI2.out]; exact World.ownsRow_nil _ _ _ _, by rw [HI2.out]; exact H5.out⟩
              · have KF2 := Lib.hid (rFails r B v' (some l') false wr HR.out)
                go_wp2_with fail
                (with_reducible refine KF2.out.mono ?_)
                rintro e w5 ⟨rfl, v5, h5, g5⟩
                have ho5 := ownsRow_chg HO.out g5 (fun b hb e => by have := (HO.out.lt b hb).1; omega)
                have H5 : Hid (RStep r B w (some l') w5) := Lib.hid ⟨v5, h5, HC.out.trans g5⟩
                have O5 := Lib.hid ho5
                clear h5 g5 ho5
                go_wp2
                go_ret
                exact ⟨_, rfl, by rw [HI2.out]; exact O5.out, by rw [HI2.out]; exact H5.out⟩
            · have hOk : vecOkB ys = false := by rw [hOkd, decide_eq_false (fun h => hcut (hIff.2 h))]; rfl
              have HI2 : Hid (vecS s = ([], none)) := Lib.hid (by rw [HI.out]; rcases s5 with _ | l'; rfl; simp [hOk])
              have hle := cutTo_le ys ys.length
              have hne : ((cutTo ys ys.length : Int) != (ys.length : Int)) = true := by rw [bne_iff_ne]; omega
              have hne2 : (cutTo ys ys.length != ys.length) = true := by rw [bne_iff_ne]; exact hcut
              have KF2 := Lib.hid (FIN.out true (by simp))
              clear hmay hcut hIff hOkd hOk
              go_wp2_with fail
              refine KVV.out.mono ?_
              rintro e w4 ⟨rfl, rfl⟩
              go_wp2_with fail
              refine KC.out.mono ?_
              rintro e w4 ⟨rfl, rfl⟩
              go_wp2_with fail
              (with_reducible refine KF2.out.mono ?_)
              rintro e w5 ⟨rfl, h5⟩
              have H5 := Lib.hid h5
              clear h5
              go_wp2
              go_ret
              exact ⟨_, rfl, by rw [HI2.out]; exact World.ownsRow_nil _ _ _ _, by rw [HI2.out]; exact H5.out⟩
          · have hmay' : vecMayB ys = false := by simpa using hmay
            rw [hmay'] at KVV hOkd
            have KVV := Lib.hid KVV.out
            have HI2 : Hid (vecS s = ([], none)) := Lib.hid (by rw [HI.out]; rcases s5 with _ | l'; rfl; simp [hOkd])
            have KF2 := Lib.hid (FIN.out true (by simp))
            clear hmay hmay' hIff hOkd
            go_wp2_with fail
            refine KVV.out.mono ?_
            rintro e w4 ⟨rfl, rfl⟩
            go_wp2_with fail
            (with_reducible refine KF2.out.mono ?_)
            rintro e w5 ⟨rfl, h5⟩
            have H5 := Lib.hid h5
            clear h5
            go_wp2
            go_ret
            exact ⟨_, rfl, by rw [HI2.out]; exact World.ownsRow_nil _ _ _ _, by rw [HI2.out]; exact H5.out⟩
end Go.Proofs.YthbalmoafpggdaaGreat

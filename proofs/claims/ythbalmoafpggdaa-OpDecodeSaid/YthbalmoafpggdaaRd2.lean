/- Contracts of package codec: the reader's numbers. -/
import Derived.Test.YthbalmoafpggdaaChecked
import Derived.WalkKit
import Derived.Outline
import Derived.WalkSpells
import Derived.WalkLawsBesides
import Derived.Deep.QuietTactic
import Derived.Deep.RegionWith
import Derived.Deep.DeepMust
import Derived.BigQuiet
import Derived.Test.YthbalmoafpggdaaMem
import Derived.RegionTactic
import Derived.ChangeAlike
import Derived.StillTailTactics
import Derived.Deep.LoopGhost
import Derived.Laws.BitsAllLaws
import Derived.Test.YthbalmoafpggdaaRd
namespace Go.Proofs.Ythbalmoafpggdaa
open Go.RowKit
set_option linter.unusedVariables false
set_option linter.unusedSimpArgs false
theorem pow_cast' (t : Nat) : (2 : Int) ^ t = ((2 ^ t : Nat) : Int) := by simp [Int.natCast_pow]
theorem wrap64_nat (x : Nat) (h : x < 9223372036854775808) : wrap64 (x : Int) = (x : Int) := by unfold wrap64; omega
theorem num_step (n c k : Nat) (hn : n < 2 ^ (7 * k)) (hk : k ≤ 8) (hc : c < 256) : bits .or .i64 (n : Int) (wrap64 (wrap64 (bits .and .u8 (c : Int) 127) * 2 ^ (7 * k))) = ((n + c % 128 * 2 ^ (7 * k) : Nat) : Int) := by
  have h56 : 2 ^ (7 * k) ≤ 72057594037927936 := Nat.pow_le_pow_right (by omega) (by omega : 7 * k ≤ 56)
  have e1 := u8_and_nat c 127 hc (by omega)
  have e2 : c &&& 127 = c % 128 := Nat.and_two_pow_sub_one_eq_mod c 7
  have hx : c % 128 * 2 ^ (7 * k) ≤ 127 * 72057594037927936 := Nat.mul_le_mul (by omega) h56
  rw [show (127 : Int) = ((127 : Nat) : Int) from rfl, e1, e2, wrap64_nat _ (by omega), pow_cast', ← Int.natCast_mul, wrap64_nat _ (by omega), i64_or_nat _ _ (by omega) (by omega)]
  congr 1
  rw [Nat.or_comm, nat_join (7 * k) (c % 128 * 2 ^ (7 * k)) n (Nat.mul_mod_left _ _) hn, Nat.add_comm]
theorem rd_end (l : List Int) (f k n : Nat) (h : l.length ≤ k) : rdN l f k n = none := by
  cases f with
  | zero => rfl
  | succ f => unfold rdN; rw [List.getElem?_eq_none h]
theorem getD_some {l : List Int} {k : Nat} {c : Int} (hk : k < l.length) (h : l.getD k 0 = c) : l[k]? = some c := by
  rw [List.getD_eq_getElem?_getD, List.getElem?_eq_getElem hk] at h
  rw [List.getElem?_eq_getElem hk, ← h]; rfl
theorem rd_ret (l : List Int) (k n c : Nat) (hk : k ≤ 8) (hl : k < l.length) (hg : l.getD k 0 = (c : Int)) (hc : c < 128) (h0 : ¬ (c = 0 ∧ 0 < k)) (hm : n + c % 128 * 2 ^ (7 * k) ≤ 4611686018427387904) : rdN l (9 - k) k n = some (n + c % 128 * 2 ^ (7 * k), k + 1) := by
  rw [show 9 - k = (8 - k) + 1 by omega]
  unfold rdN
  rw [getD_some hl hg]
  simp only [Int.toNat_natCast]
  rw [if_pos hc, if_neg (by omega)]
theorem rd_none (l : List Int) (k n c : Nat) (hk : k ≤ 8) (hl : k < l.length) (hg : l.getD k 0 = (c : Int)) (h : c < 128 ∧ ((c = 0 ∧ 0 < k) ∨ 4611686018427387904 < n + c % 128 * 2 ^ (7 * k)) ∨ 128 ≤ c ∧ k = 8) : rdN l (9 - k) k n = none := by
  rw [show 9 - k = (8 - k) + 1 by omega]
  unfold rdN
  rw [getD_some hl hg]
  simp only [Int.toNat_natCast]
  rcases h with ⟨h1, h2⟩ | ⟨h1, rfl⟩
  · rw [if_pos h1, if_pos h2]
  · rw [if_neg (by omega)]; rfl
theorem rd_cont (l : List Int) (k n c : Nat) (hk : k < 8) (hl : k < l.length) (hg : l.getD k 0 = (c : Int)) (hc : 128 ≤ c) : rdN l (9 - k) k n = rdN l (9 - (k + 1)) (k + 1) (n + c % 128 * 2 ^ (7 * k)) := by
  rw [show 9 - k = (9 - (k + 1)) + 1 by omega]
  rw [show rdN l (9 - (k + 1) + 1) k n = _ from by unfold rdN; rw [getD_some hl hg]]
  simp only [Int.toNat_natCast]
  rw [if_neg (by omega)]
theorem numS_of_none {l : List Int} (h : numR l = none) : numS (some l) = (0, none) := by unfold numS; simp only [h]
theorem numS_of_some {l : List Int} {n k : Nat} (h : numR l = some (n, k)) : numS (some l) = (n, some (l.drop k)) := by unfold numS; simp only [h]
theorem rd_small (n c k : Nat) (hn : n < 2 ^ (7 * k)) (hk : k < 8) : n + c % 128 * 2 ^ (7 * k) < 2 ^ (7 * (k + 1)) ∧ n + c % 128 * 2 ^ (7 * k) ≤ 4611686018427387904 := by
  have hp : 2 ^ (7 * (k + 1)) = 128 * 2 ^ (7 * k) := by rw [show 7 * (k + 1) = 7 + 7 * k by omega, Nat.pow_add]
  have h1 : c % 128 * 2 ^ (7 * k) ≤ 127 * 2 ^ (7 * k) := Nat.mul_le_mul_right _ (by omega)
  have h56 : 2 ^ (7 * (k + 1)) ≤ 72057594037927936 := Nat.pow_le_pow_right (by omega) (by omega : 7 * (k + 1) ≤ 56)
  omega
theorem rdv_dropF {w : World} {b o n c : Nat} {xs : List Int} (h : Rdv u8v w (.slice (some ⟨b, o, none⟩) n c) xs) (k : Nat) (hk : k = n) (a' : Option Addr) (c' : Nat) (hc : c' ≤ maxLen) : Rdv u8v w (.slice a' (n - k) c') (xs.drop k) := by
  have := h.cap.1
  have e : xs.drop k = [] := List.drop_eq_nil_of_le (by omega)
  rw [e, show n - k = 0 by omega]
  exact Rdv.empty _ _ _ _ hc
def NumPost (r B : Nat) (s : RS) (w : World) (e : Ending) (w' : World) : Prop := e = .returned (.int .i64 ((numS s).1 : Nat)) ∧ RStep r B w (numS s).2 w'
set_option maxHeartbeats 8000000 in
set_option maxRecDepth 100000 in
theorem rNumGood (r B : Nat) (v : Value) (l : List Int) (w : World) (h : Rd w r B v (some l)) : Calls Try.prog 13 #[.pointer (some ⟨r, 0, none⟩)] w (NumPost r B (some l) w) := by
  have KF := Lib.hid (rFails r B v (some l) false w h)
  have hlen := h.len
  have hbyt : Hid (Byt l) := Lib.hid h.byt
  simp only [Option.getD_some] at hlen
  clear h
  go_enter Try.func13, Try.ntmps13
  go_wp2_with fail
  refine KF.out.mono ?_
  rintro e w1 ⟨rfl, v1, h1, g1⟩
  have pc0 : w1.cell? ⟨r, 0, none⟩ = some v1 := h1.blk.cell (o := 0) rfl
  have pf0 := h1.blk.free 0
  have pz := h1.lt
  have hrd : Rdv u8v w1 v1 l := h1.rdv
  obtain ⟨va, vn, vc, rfl⟩ := hrd.shape
  obtain ⟨rfl, hv1, hv2, _⟩ := hrd.cap
  unfold maxLen at hv2
  have H1 : Hid (Rd w1 r B (.slice va l.length vc) (some l)) := Lib.hid h1
  have G1 := Lib.hid g1
  have HR := Lib.hid hrd
  clear h1 g1 hrd
  go_wp2_with fail
  go_loop [3, 13] (fun nv i => ∃ k n : Nat, k ≤ l.length ∧ k ≤ 8 ∧ i = .int .i64 k ∧ nv = .int .i64 n ∧ n < 2 ^ (7 * k) ∧ rdN l (9 - k) k n = numR l) (fun _ i => l.length - (intOf i).toNat)
  case atStart => exact ⟨0, 0, by omega, by omega, rfl, rfl, by simp, rfl⟩
  case round =>
    obtain ⟨k, n, hk, hk8, rfl, rfl, hn, hrd⟩ := hrel
    have hn56 : n < 72057594037927936 := Nat.lt_of_lt_of_le hn (Nat.pow_le_pow_right (by omega) (by omega : 7 * k ≤ 56))
    have HN := Lib.hid hn
    have HD := Lib.hid hrd
    clear hn hrd
    by_cases hlt : k < l.length
    · obtain ⟨bl, ol, rfl, hcell⟩ := rdv_at HR.out k hlt
      obtain ⟨c, hce, hc⟩ := hbyt.out.at_ k hlt
      rw [hce] at hcell
      have HC := Lib.hid hce
      clear hce
      by_cases hk8' : k = 8
      · have hkb : ((k : Int) == 8) = true := by rw [beq_iff_eq]; omega
        have HK8 := Lib.hid hk8'
        have hkp : 0 < k := by omega
        clear hk8'
        by_cases hc64 : 64 < c
        · have HS := Lib.hid (numS_of_none (HD.out ▸ (rd_none l k n c (by omega) hlt HC.out (by have hk8 := HK8.out; subst hk8; rcases Nat.lt_or_ge c 128 with h | h; (exact .inl ⟨h, .inr (by rw [Nat.mod_eq_of_lt h]; omega)⟩); exact .inr ⟨h, rfl⟩)) : numR l = none))
          have KB := Lib.hid (rFails r B _ (some l) true w1 H1.out)
          go_wp2_with fail
          refine KB.out.mono ?_
          rintro e w2 ⟨rfl, h2⟩
          have H2 := Lib.hid (h2.trans G1.out)
          clear h2
          go_wp2
          go_ret
          exact ⟨by rw [HS.out]; rfl, by rw [HS.out]; exact H2.out⟩
        · by_cases hce : c = 64
          · have hcb : ((c : Int) == 64) = true := by rw [beq_iff_eq]; omega
            have HCE := Lib.hid hce
            have hc0 : ((c : Int) == 0) = false := beq_false_of_ne (by omega)
            have h128 : c < 128 := by omega
            clear hce
            by_cases hn0 : 0 < n
            · have HS := Lib.hid (numS_of_none (HD.out ▸ (rd_none l k n c (by omega) hlt HC.out (by have hk8 := HK8.out; have hce := HCE.out; subst hk8; subst hce; exact .inl ⟨by omega, .inr (by omega)⟩)) : numR l = none))
              have KB := Lib.hid (rFails r B _ (some l) true w1 H1.out)
              go_wp2_with fail
              refine KB.out.mono ?_
              rintro e w2 ⟨rfl, h2⟩
              have H2 := Lib.hid (h2.trans G1.out)
              clear h2
              go_wp2
              go_ret
              exact ⟨by rw [HS.out]; rfl, by rw [HS.out]; exact H2.out⟩
            · have hn0' : n ≤ 0 := by omega
              have HM : Hid (n + c % 128 * 2 ^ (7 * k) ≤ 4611686018427387904) := Lib.hid (by have hk8 := HK8.out; have hce := HCE.out; subst hk8; subst hce; omega)
              have HC0 : Hid (¬ (c = 0 ∧ 0 < k)) := Lib.hid (by have hce := HCE.out; omega)
              clear hn0
              have HS := Lib.hid (numS_of_some (HD.out ▸ rd_ret l k n c (by omega) hlt HC.out (by omega) HC0.out (HM.out) : numR l = some (n + c % 128 * 2 ^ (7 * k), k + 1)))
              have HV := Lib.hid (num_step n c k HN.out (by omega) hc)
              have hbd : Byt (l.drop (k + 1)) := fun q hq => hbyt.out q (List.mem_of_mem_drop hq)
              have HBD := Lib.hid hbd
              have HNE : Hid (bl = B) := Lib.hid (inB_at H1.out.inB _ _ _ _ rfl)
              clear hbd
              go_wp2
              all_goals
                go_ret
                refine ⟨by rw [HS.out]; exact ret_i HV.out, ?_⟩
                rw [HS.out]
                first
                | exact ⟨_, H1.out.put0 _ (l.drop (k + 1)) rfl (HR.out.drop (k + 1) (by omega)) (.inr ⟨_, _, _, by rw [HNE.out]⟩) HBD.out (by simp; omega) (fun _ => H1.out.ne ⟨_, _, _, by rw [HNE.out]⟩), G1.out.set (fun _ => rfl) _⟩
                | exact ⟨_, H1.out.put0 _ (l.drop (k + 1)) rfl (rdv_dropF HR.out (k + 1) (by omega) _ _ (by unfold maxLen; omega)) (.inr ⟨_, _, _, by rw [HNE.out]⟩) HBD.out (by simp; omega) (fun _ => H1.out.ne ⟨_, _, _, by rw [HNE.out]⟩), G1.out.set (fun _ => rfl) _⟩
          · have hcb : ((c : Int) == 64) = false := beq_false_of_ne (by omega)
            have h128 : c < 128 := by omega
            by_cases hc0 : c = 0
            · have hcz : ((c : Int) == 0) = true := by rw [beq_iff_eq]; omega
              have HCE := Lib.hid hc0
              clear hc0 hce
              have HS := Lib.hid (numS_of_none (HD.out ▸ (rd_none l k n c (by omega) hlt HC.out (by have hce := HCE.out; subst hce; exact .inl ⟨by omega, .inl ⟨rfl, hkp⟩⟩)) : numR l = none))
              have KB := Lib.hid (rFails r B _ (some l) true w1 H1.out)
              go_wp2_with fail
              refine KB.out.mono ?_
              rintro e w2 ⟨rfl, h2⟩
              have H2 := Lib.hid (h2.trans G1.out)
              clear h2
              go_wp2
              go_ret
              exact ⟨by rw [HS.out]; rfl, by rw [HS.out]; exact H2.out⟩
            · have hcz : ((c : Int) == 0) = false := beq_false_of_ne (by omega)
              have hcl : c < 64 := by omega
              have hcp : 0 < c := by omega
              have HM : Hid (n + c % 128 * 2 ^ (7 * k) ≤ 4611686018427387904) := Lib.hid (by have hk8 := HK8.out; subst hk8; rw [Nat.mod_eq_of_lt h128]; omega)
              have HC0 : Hid (¬ (c = 0 ∧ 0 < k)) := Lib.hid (by omega)
              clear hc0 hce
              have HS := Lib.hid (numS_of_some (HD.out ▸ rd_ret l k n c (by omega) hlt HC.out (by omega) HC0.out (HM.out) : numR l = some (n + c % 128 * 2 ^ (7 * k), k + 1)))
              have HV := Lib.hid (num_step n c k HN.out (by omega) hc)
              have hbd : Byt (l.drop (k + 1)) := fun q hq => hbyt.out q (List.mem_of_mem_drop hq)
              have HBD := Lib.hid hbd
              have HNE : Hid (bl = B) := Lib.hid (inB_at H1.out.inB _ _ _ _ rfl)
              clear hbd
              go_wp2
              all_goals
                go_ret
                refine ⟨by rw [HS.out]; exact ret_i HV.out, ?_⟩
                rw [HS.out]
                first
                | exact ⟨_, H1.out.put0 _ (l.drop (k + 1)) rfl (HR.out.drop (k + 1) (by omega)) (.inr ⟨_, _, _, by rw [HNE.out]⟩) HBD.out (by simp; omega) (fun _ => H1.out.ne ⟨_, _, _, by rw [HNE.out]⟩), G1.out.set (fun _ => rfl) _⟩
                | exact ⟨_, H1.out.put0 _ (l.drop (k + 1)) rfl (rdv_dropF HR.out (k + 1) (by omega) _ _ (by unfold maxLen; omega)) (.inr ⟨_, _, _, by rw [HNE.out]⟩) HBD.out (by simp; omega) (fun _ => H1.out.ne ⟨_, _, _, by rw [HNE.out]⟩), G1.out.set (fun _ => rfl) _⟩
      · have hlt8 : k < 8 := by omega
        clear hk8'
        have HSM := Lib.hid (rd_small n c k HN.out hlt8)
        by_cases hc0 : 0 < k ∧ c = 0
        · obtain ⟨hk0, rfl⟩ := hc0
          have HS := Lib.hid (numS_of_none (HD.out ▸ (rd_none l k n 0 (by omega) hlt HC.out (.inl ⟨by omega, .inl ⟨rfl, hk0⟩⟩)) : numR l = none))
          have KB := Lib.hid (rFails r B _ (some l) true w1 H1.out)
          go_wp2_with fail
          refine KB.out.mono ?_
          rintro e w2 ⟨rfl, h2⟩
          have H2 := Lib.hid (h2.trans G1.out)
          clear h2
          go_wp2
          go_ret
          exact ⟨by rw [HS.out]; rfl, by rw [HS.out]; exact H2.out⟩
        · by_cases h128 : c < 128
          · rcases Nat.eq_zero_or_pos k with hk0 | hk0
            · have hkz : k ≤ 0 := by omega
              have HC0 : Hid (¬ (c = 0 ∧ 0 < k)) := Lib.hid fun h => hc0 ⟨h.2, h.1⟩
              clear hk0 hc0
              have HS := Lib.hid (numS_of_some (HD.out ▸ rd_ret l k n c (by omega) hlt HC.out (by omega) HC0.out (HSM.out.2) : numR l = some (n + c % 128 * 2 ^ (7 * k), k + 1)))
              have HV := Lib.hid (num_step n c k HN.out (by omega) hc)
              have hbd : Byt (l.drop (k + 1)) := fun q hq => hbyt.out q (List.mem_of_mem_drop hq)
              have HBD := Lib.hid hbd
              have HNE : Hid (bl = B) := Lib.hid (inB_at H1.out.inB _ _ _ _ rfl)
              clear hbd
              go_wp2
              all_goals
                go_ret
                refine ⟨by rw [HS.out]; exact ret_i HV.out, ?_⟩
                rw [HS.out]
                first
                | exact ⟨_, H1.out.put0 _ (l.drop (k + 1)) rfl (HR.out.drop (k + 1) (by omega)) (.inr ⟨_, _, _, by rw [HNE.out]⟩) HBD.out (by simp; omega) (fun _ => H1.out.ne ⟨_, _, _, by rw [HNE.out]⟩), G1.out.set (fun _ => rfl) _⟩
                | exact ⟨_, H1.out.put0 _ (l.drop (k + 1)) rfl (rdv_dropF HR.out (k + 1) (by omega) _ _ (by unfold maxLen; omega)) (.inr ⟨_, _, _, by rw [HNE.out]⟩) HBD.out (by simp; omega) (fun _ => H1.out.ne ⟨_, _, _, by rw [HNE.out]⟩), G1.out.set (fun _ => rfl) _⟩
            · have hcp : 0 < c := by omega
              have HC0 : Hid (¬ (c = 0 ∧ 0 < k)) := Lib.hid fun h => hc0 ⟨h.2, h.1⟩
              clear hc0
              have HS := Lib.hid (numS_of_some (HD.out ▸ rd_ret l k n c (by omega) hlt HC.out (by omega) HC0.out (HSM.out.2) : numR l = some (n + c % 128 * 2 ^ (7 * k), k + 1)))
              have HV := Lib.hid (num_step n c k HN.out (by omega) hc)
              have hbd : Byt (l.drop (k + 1)) := fun q hq => hbyt.out q (List.mem_of_mem_drop hq)
              have HBD := Lib.hid hbd
              have HNE : Hid (bl = B) := Lib.hid (inB_at H1.out.inB _ _ _ _ rfl)
              clear hbd
              go_wp2
              all_goals
                go_ret
                refine ⟨by rw [HS.out]; exact ret_i HV.out, ?_⟩
                rw [HS.out]
                first
                | exact ⟨_, H1.out.put0 _ (l.drop (k + 1)) rfl (HR.out.drop (k + 1) (by omega)) (.inr ⟨_, _, _, by rw [HNE.out]⟩) HBD.out (by simp; omega) (fun _ => H1.out.ne ⟨_, _, _, by rw [HNE.out]⟩), G1.out.set (fun _ => rfl) _⟩
                | exact ⟨_, H1.out.put0 _ (l.drop (k + 1)) rfl (rdv_dropF HR.out (k + 1) (by omega) _ _ (by unfold maxLen; omega)) (.inr ⟨_, _, _, by rw [HNE.out]⟩) HBD.out (by simp; omega) (fun _ => H1.out.ne ⟨_, _, _, by rw [HNE.out]⟩), G1.out.set (fun _ => rfl) _⟩
          · have h128' : 128 ≤ c := by omega
            have hcp : 0 < c := by omega
            clear hc0
            have HV := Lib.hid (num_step n c k HN.out (by omega) hc)
            have HCT := Lib.hid (rd_cont l k n c hlt8 hlt HC.out h128')
            rcases Nat.eq_zero_or_pos k with hk0 | hk0
            · have hkz : k ≤ 0 := by omega
              clear hk0
              go_wp2
              go_round
              case rel => exact ⟨k + 1, n + c % 128 * 2 ^ (7 * k), by omega, by omega, by go_num, by rw [← HV.out], HSM.out.1, by rw [← HCT.out]; exact HD.out⟩
              case measure => simp [intOf]; omega
            · go_wp2
              go_round
              case rel => exact ⟨k + 1, n + c % 128 * 2 ^ (7 * k), by omega, by omega, by go_num, by rw [← HV.out], HSM.out.1, by rw [← HCT.out]; exact HD.out⟩
              case measure => simp [intOf]; omega
    · have HS := Lib.hid (numS_of_none (HD.out ▸ (rd_end l (9 - k) k n (by omega)) : numR l = none))
      have KB := Lib.hid (rFails r B _ (some l) true w1 H1.out)
      go_wp2_with fail
      refine KB.out.mono ?_
      rintro e w2 ⟨rfl, h2⟩
      have H2 := Lib.hid (h2.trans G1.out)
      clear h2
      go_wp2
      go_ret
      exact ⟨by rw [HS.out]; rfl, by rw [HS.out]; exact H2.out⟩
theorem rNum (r B : Nat) (v : Value) (s : RS) (w : World) (h : Rd w r B v s) : Calls Try.prog 13 #[.pointer (some ⟨r, 0, none⟩)] w (NumPost r B s w) := by
  rcases s with _ | l
  · have KF := Lib.hid (rFails r B v none false w h)
    clear h
    go_enter Try.func13, Try.ntmps13
    go_wp2_with fail
    refine KF.out.mono ?_
    rintro e w1 ⟨rfl, h1⟩
    have H1 := Lib.hid h1
    clear h1
    go_wp2
    go_ret
    exact ⟨rfl, H1.out⟩
  · exact rNumGood r B v l w h
theorem rNumNil (w : World) : Calls Try.prog 13 #[.pointer none] w fun e w' => e = .returned (.int .i64 0) ∧ w = w' := by
  have KF := Lib.hid (rFailsNil false w)
  go_enter Try.func13, Try.ntmps13
  go_wp2_with (go_at_call 58; refine KF.out.mono ?_; rintro e w1 ⟨rfl, rfl⟩)
  go_ret
  exact ⟨rfl, rfl⟩
end Go.Proofs.Ythbalmoafpggdaa

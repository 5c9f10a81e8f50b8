/- Contracts of package codec: the writer's vectors and texts. -/
import Derived.Test.YthbalmoafpggdaaChecked
import Derived.WalkKit
import Derived.Outline
import Derived.WalkSpells
import Derived.WalkLawsBesides
import Derived.Deep.QuietTactic
import Derived.Deep.RegionWith
import Derived.Deep.DeepMust
import Derived.BigQuiet
import Derived.Test.YthbalmoafpggdaaMem
import Derived.RegionTactic
import Derived.ChangeAlike
import Derived.StillTailTactics
import Derived.Deep.LoopGhost
import Derived.Lib.ConvBytes
import Derived.Test.YthbalmoafpggdaaCd3
namespace Go.Proofs.Ythbalmoafpggdaa
open Go.RowKit
set_option linter.unusedVariables false
set_option linter.unusedSimpArgs false
theorem cutTo_down (v : List Int) (m : Nat) (h : v.getD m 0 = 0) : cutTo v (m + 1) = cutTo v m := by show (if v.getD m 0 = 0 then cutTo v m else m + 1) = _; rw [if_pos h]
theorem cutTo_stop (v : List Int) (m : Nat) (h : v.getD m 0 ≠ 0) : cutTo v (m + 1) = m + 1 := by show (if v.getD m 0 = 0 then cutTo v m else m + 1) = _; rw [if_neg h]
theorem rdv_at {enc : Int → Value} {w : World} {a : Option Addr} {n c : Nat} {xs : List Int} (h : Rdv enc w (.slice a n c) xs) (k : Nat) (hk : k < xs.length) : ∃ b o, a = some ⟨b, o, none⟩ ∧ w.cell? ⟨b, o + k, none⟩ = some (enc (xs.getD k 0)) := by
  obtain ⟨a', c', e, _, _, h3⟩ := h
  rw [Value.slice.injEq] at e
  obtain ⟨rfl, _, _⟩ := e
  rcases h3 with rfl | ⟨b, o, rfl, h3⟩
  · simp at hk
  · exact ⟨b, o, rfl, h3 k hk⟩
set_option maxHeartbeats 1000000 in
theorem cdCut (a : Option Addr) (c : Nat) (xs : List Int) (w : World) (h : Rdv i64c w (.slice a xs.length c) xs) : Calls Try.prog 101 #[.slice a xs.length c] w fun e w' => e = .returned (.slice a (cutTo xs xs.length) c) ∧ w = w' := by
  obtain ⟨_, h1, h2, h3⟩ := h.cap
  unfold maxLen at h2
  have HX := Lib.hid h
  clear h h3
  go_enter Try.func101, Try.ntmps101
  go_wp2
  go_loop [3] (fun nv => ∃ m : Nat, m ≤ xs.length ∧ nv = .int .i64 m ∧ cutTo xs xs.length = cutTo xs m) (fun nv => (intOf nv).toNat)
  case atStart => exact ⟨_, Nat.le_refl _, rfl, rfl⟩
  case round =>
    obtain ⟨m, hm, rfl, he⟩ := hrel
    have HE := Lib.hid he
    clear he
    rcases Nat.eq_zero_or_pos m with rfl | hpos
    · go_wp2
      go_ret
      exact ⟨by rw [HE.out]; rfl, rfl⟩
    · obtain ⟨k, rfl⟩ : ∃ k, m = k + 1 := ⟨m - 1, by omega⟩
      obtain ⟨bl, ol, rfl, hcell⟩ := rdv_at HX.out k (by omega)
      by_cases hz : xs.getD k 0 = 0
      · have HE2 := Lib.hid (HE.out.trans (cutTo_down xs k hz))
        rw [hz] at hcell
        clear hz
        go_wp2
        go_round
        case rel => exact ⟨k, by omega, by go_num, HE2.out⟩
        case measure => simp [intOf]
      · have HE2 := Lib.hid (HE.out.trans (cutTo_stop xs k hz))
        have hz2 : (xs.getD k 0 == 0) = false := beq_false_of_ne hz
        generalize xs.getD k 0 = q at *
        clear hz
        go_wp2
        go_ret
        exact ⟨by rw [HE2.out]; rfl, rfl⟩
theorem vecMayB_take (xs : List Int) (k : Nat) (h : k < xs.length) : vecMayB (xs.take (k + 1)) = (vecMayB (xs.take k) && (decide (0 ≤ xs.getD k 0) && decide (xs.getD k 0 ≤ 1152921504606846976))) := by
  unfold vecMayB
  rw [List.take_succ_eq_append_getElem h, List.all_append]
  simp only [List.all_cons, List.all_nil, Bool.and_true]
  rw [List.getD_eq_getElem?_getD, List.getElem?_eq_getElem h]
  rfl
theorem vecMayB_false (xs : List Int) (k : Nat) (h : k < xs.length) (hf : ¬ (0 ≤ xs.getD k 0 ∧ xs.getD k 0 ≤ 1152921504606846976)) : vecMayB xs = false := by
  rw [← Bool.not_eq_true]
  intro ht
  apply hf
  unfold vecMayB at ht
  rw [List.all_eq_true] at ht
  have := ht (xs.getD k 0) (by rw [List.getD_eq_getElem?_getD, List.getElem?_eq_getElem h]; exact List.getElem_mem h)
  simpa using this
set_option maxHeartbeats 1000000 in
theorem cdVector (a : Option Addr) (c : Nat) (xs : List Int) (w : World) (h : Rdv i64c w (.slice a xs.length c) xs) : Calls Try.prog 102 #[.slice a xs.length c] w fun e w' => e = .returned (.bool (vecMayB xs && decide (xs.length ≤ 64))) ∧ w = w' := by
  obtain ⟨_, h1, h2, h3⟩ := h.cap
  unfold maxLen at h2
  have HX := Lib.hid h
  clear h h3
  go_enter Try.func102, Try.ntmps102
  go_wp2
  go_loop [7] (fun i => ∃ k : Nat, k ≤ xs.length ∧ i = .int .i64 k ∧ vecMayB (xs.take k) = true) (fun i => xs.length - (intOf i).toNat)
  case atStart => exact ⟨0, Nat.zero_le _, rfl, rfl⟩
  case round =>
    obtain ⟨k, hk, rfl, hok⟩ := hrel
    have HOK := Lib.hid hok
    clear hok
    by_cases hlt : k < xs.length
    · obtain ⟨bl, ol, rfl, hcell⟩ := rdv_at HX.out k (by omega)
      by_cases hq : 0 ≤ xs.getD k 0 ∧ xs.getD k 0 ≤ 1152921504606846976
      · have HS := Lib.hid (vecMayB_take xs k hlt)
        have HQ := Lib.hid hq
        obtain ⟨q1, q2⟩ := hq
        have HV : Hid (vecMayB (xs.take (k + 1)) = true) := Lib.hid (by rw [HS.out, HOK.out, decide_eq_true q1, decide_eq_true q2]; rfl)
        generalize xs.getD k 0 = q at *
        go_wp2
        go_round
        case rel => exact ⟨k + 1, by omega, by go_num, HV.out⟩
        case measure => simp [intOf]; omega
      · have HV := Lib.hid (vecMayB_false xs k hlt hq)
        by_cases q0 : xs.getD k 0 < 0
        · generalize xs.getD k 0 = q at *
          clear hq
          go_wp2
          go_ret
          exact ⟨ret_b (by rw [HV.out]; rfl), rfl⟩
        · have q1 : 1152921504606846976 < xs.getD k 0 := by omega
          generalize xs.getD k 0 = q at *
          clear hq
          go_wp2
          go_ret
          exact ⟨ret_b (by rw [HV.out]; rfl), rfl⟩
    · obtain rfl : k = xs.length := by omega
      have HV : Hid (vecMayB xs = true) := Lib.hid (by have := HOK.out; rwa [List.take_length] at this)
      clear HOK
      by_cases h64 : (xs.length : Int) ≤ 64
      · go_wp2
        go_ret
        exact ⟨ret_b (by rw [HV.out, decide_eq_true (by omega)]; rfl), rfl⟩
      · have h65 : decide ((xs.length : Int) ≤ 64) = false := decide_eq_false h64
        clear h64
        go_wp2
        go_ret
        exact ⟨ret_b (by rw [HV.out, decide_eq_false (by have := of_decide_eq_false h65; omega)]; rfl), rfl⟩
theorem mayB_bd {xs : List Int} (h : vecMayB xs = true) : ∀ q ∈ xs, 0 ≤ q ∧ q ≤ 4611686018427387904 := by
  intro q hq
  unfold vecMayB at h
  rw [List.all_eq_true] at h
  have := h q hq
  simp at this
  omega
set_option maxHeartbeats 2000000 in
set_option maxRecDepth 100000 in
theorem wVector (p : Nat) (v : Value) (l : List Int) (bad : Bool) (x : Value) (xs : List Int) (w : World) (h : Wr w p v l bad) (hx : Rdv i64c w x xs) (ha : Apt x p v) (hlt : ∀ b o n c, x = .slice (some ⟨b, o, none⟩) n c → 0 < n → b < w.heap.size) (hl : l.length ≤ 700000000000) : Calls Try.prog 60 #[.pointer (some ⟨p, 0, none⟩), x] w (WPost p v (wadd l bad (vecW xs)) (wbad bad (vecW xs)) w) := by
  obtain ⟨xa, xn, xc, rfl⟩ := hx.shape
  obtain ⟨rfl, h1, h2, h3⟩ := hx.cap
  unfold maxLen at h2
  have hle := cutTo_le xs xs.length
  have hcl : (cutL xs).length = cutTo xs xs.length := cutL_len xs
  have hxc : Rdv i64c w (.slice xa (cutTo xs xs.length) xc) (cutL xs) := hx.take (cutTo xs xs.length) xc hle (by omega) (Nat.le_refl _)
  have KC := Lib.hid (cdCut xa xc xs w hx)
  have hac : Apt (.slice xa (cutTo xs xs.length) xc) p v := fun b o n c e hn => by
    rw [Value.slice.injEq] at e; obtain ⟨rfl, _, _⟩ := e; exact ha b o _ _ rfl (by omega)
  have hlc : ∀ b o n c, Value.slice xa (cutTo xs xs.length) xc = .slice (some ⟨b, o, none⟩) n c → 0 < n → b < w.heap.size := fun b o n c e hn => by
    rw [Value.slice.injEq] at e; obtain ⟨rfl, _, _⟩ := e; exact hlt b o _ _ rfl (by omega)
  have hvw : vecW xs = if vecMayB (cutL xs) = true ∧ (cutL xs).length ≤ 64 then some (numL (cutL xs).length ++ numsL (cutL xs)) else none := rfl
  have HVW := Lib.hid hvw
  rw [← hcl] at hxc hac hlc KC
  generalize cutL xs = ys at *
  have KV := Lib.hid (cdVector xa xc ys w hxc)
  have HX := Lib.hid hxc
  have HA := Lib.hid hac
  have HLC := Lib.hid hlc
  have hyc : ys.length ≤ xc := by omega
  clear hx h3 ha hlt hle hcl hxc hac hlc hvw
  have hmaycases : ∀ q, (vecMayB ys && decide (ys.length ≤ 64)) = q → (q = true → vecMayB ys = true ∧ ys.length ≤ 64) ∧ (q = false → ¬ (vecMayB ys = true ∧ ys.length ≤ 64)) := by
    intro q hq
    subst hq
    constructor
    · intro h; simpa using h
    · intro h1 h2; simp [h2.1, h2.2] at h1
  cases hq : (vecMayB ys && decide (ys.length ≤ 64))
  all_goals
    have HQ := Lib.hid (hmaycases _ hq)
    rw [hq] at KV
    clear hmaycases hq
  · have KM := Lib.hid (wMay p v l bad false w h)
    have HW : Hid (vecW xs = none) := Lib.hid (by rw [HVW.out, if_neg (HQ.out.2 rfl)])
    clear h
    cases bad
    all_goals
      go_enter Try.func60, Try.ntmps60
      go_wp2_with fail
      refine KC.out.mono ?_
      rintro e w1 ⟨rfl, rfl⟩
      go_wp2_with fail
      refine KV.out.mono ?_
      rintro e w1 ⟨rfl, rfl⟩
      go_wp2_with fail
      refine KM.out.mono ?_
      rintro e w2 ⟨rfl, hw2, g2⟩
      have H2 := Lib.hid (may_step hw2 g2)
      clear hw2 g2
      go_wp2
      (first | go_end0 | refine bodyPost_ret (results_none rfl _ _ _) rfl ?_)
      exact ⟨rfl, by rw [HW.out]; simpa [wadd, wbad] using H2.out⟩
  · have KM := Lib.hid (wMay p v l bad true w h)
    have hvb : ∀ k, v.ownBlock = some k → k < w.heap.size := fun k hk => (h.own.lt k hk).2
    have HVB := Lib.hid hvb
    have HW : Hid (vecW xs = some (numL ys.length ++ numsL ys)) := Lib.hid (by rw [HVW.out, if_pos (HQ.out.1 rfl)])
    have hy64 : ys.length ≤ 64 := (HQ.out.1 rfl).2
    have HMB := Lib.hid (mayB_bd (HQ.out.1 rfl).1)
    clear h hvb
    cases bad
    · go_enter Try.func60, Try.ntmps60
      go_wp2_with fail
      refine KC.out.mono ?_
      rintro e w1 ⟨rfl, rfl⟩
      go_wp2_with fail
      refine KV.out.mono ?_
      rintro e w1 ⟨rfl, rfl⟩
      go_wp2_with fail
      refine KM.out.mono ?_
      rintro e w2 ⟨rfl, hw2, g2⟩
      have W2 : Hid (Wr w2 p v l false) := Lib.hid (by simpa using hw2)
      have G2 : Hid (Chg (WS p v) w w2) := Lib.hid (g2.mono fun _ _ e => .inl e)
      clear hw2 g2
      have KN := Lib.hid (wNumGood p v l ys.length w2 W2.out (by omega) (by omega))
      go_wp2_with fail
      refine KN.out.mono ?_
      rintro e w3 ⟨rfl, v3, hw3, n3, g3⟩
      have hx3 := HX.out.apt (WS.trans G2.out (Nxt.refl _ _) g3) HA.out
      have ha3 := HA.out.nxt ((Nxt.refl w v).trans n3 G2.out.size) HLC.out
      have hs3 : w.heap.size ≤ w3.heap.size := Nat.le_trans G2.out.size g3.size
      have hl3 : (l ++ numL ys.length).length ≤ 700000000010 := by have := numL_len ys.length; simp; omega
      have KS := Lib.hid (wNums p v3 _ _ ys w3 hw3 hx3 ha3 (fun b o n c e hn => Nat.lt_of_lt_of_le (HLC.out b o n c e hn) hs3) (by omega) (by omega) HMB.out)
      have H3 := Lib.hid (show Wr w3 p v3 (l ++ numL ys.length) false ∧ Nxt w v v3 ∧ Chg (WS p v) w w3 from ⟨hw3, (Nxt.refl w v).trans n3 G2.out.size, WS.trans G2.out (Nxt.refl _ _) g3⟩)
      clear hw3 n3 g3 hx3 ha3
      go_wp2_with fail
      refine KS.out.mono ?_
      rintro e w4 ⟨rfl, h4⟩
      have H4 := Lib.hid (WStep.trans H3.out.1 H3.out.2.1 H3.out.2.2 h4)
      clear h4
      go_wp2
      (first | go_end0 | refine bodyPost_ret (results_none rfl _ _ _) rfl ?_)
      refine ⟨rfl, ?_⟩
      rw [HW.out]
      have := H4.out
      rw [List.append_assoc] at this
      simpa [wadd, wbad] using this
    · go_enter Try.func60, Try.ntmps60
      go_wp2_with fail
      refine KC.out.mono ?_
      rintro e w1 ⟨rfl, rfl⟩
      go_wp2_with fail
      refine KV.out.mono ?_
      rintro e w1 ⟨rfl, rfl⟩
      go_wp2_with fail
      refine KM.out.mono ?_
      rintro e w2 ⟨rfl, hw2, g2⟩
      have H2 := Lib.hid (may_step hw2 g2)
      clear hw2 g2
      go_wp2
      (first | go_end0 | refine bodyPost_ret (results_none rfl _ _ _) rfl ?_)
      exact ⟨rfl, by rw [HW.out]; simpa [wadd, wbad] using H2.out⟩
/-- A text's bytes as numbers. -/
def strL (s : ByteArray) : List Int := s.data.toList.map fun b => (b.toNat : Int)
theorem strL_len (s : ByteArray) : (strL s).length = s.size := by unfold strL; rw [List.length_map, Array.length_toList]; rfl
theorem strL_byt (s : ByteArray) : ∀ q ∈ strL s, 0 ≤ q ∧ q < 256 := by
  intro q hq
  obtain ⟨b, _, rfl⟩ := List.mem_map.1 hq
  have := b.toNat_lt
  omega
theorem below_bytes (w : World) (e : TypeId) (s : ByteArray) : Below w.heap.size w (Lib.bytesWorld w e s) :=
  ⟨rfl, rfl, rfl, by rw [Lib.bytesWorld_size]; omega, fun k hk => Lib.bytesWorld_at_old w e s k hk⟩
theorem rdv_bytes (w : World) (e : TypeId) (s : ByteArray) (c : Nat) (hc : s.size ≤ c) (hm : c ≤ maxLen) : Rdv u8v (Lib.bytesWorld w e s) (.slice (some ⟨w.heap.size, 0, none⟩) s.size c) (strL s) :=
  ⟨_, c, by rw [strL_len], by rw [strL_len]; exact hc, hm, .inr ⟨w.heap.size, 0, rfl, fun i hi => by
    rw [Nat.zero_add, Lib.bytesWorld_cell w e s i (by rwa [strL_len] at hi)]
    have h2 : i < s.data.toList.length := by unfold strL at hi; rwa [List.length_map] at hi
    simp [strL, List.getD_eq_getElem?_getD, List.getElem?_eq_getElem h2]⟩⟩
set_option maxRecDepth 100000 in
theorem wText (p : Nat) (v : Value) (l : List Int) (bad : Bool) (s : ByteArray) (w : World) (h : Wr w p v l bad) (hs : s.size ≤ 100000000000) (hl : l.length ≤ 700000000000) : Calls Try.prog 59 #[.pointer (some ⟨p, 0, none⟩), .string s] w (WPost p v (wadd l bad (bytesW (strL s))) (wbad bad (bytesW (strL s))) w) := by
  have hcv := Lib.run_convert_string_bytes (P := Try.prog) w 9 24 5 s Try.underlying9 Try.underlying24 Try.underlying5
  have hb := below_bytes w 5 s
  have HB := Lib.hid hb
  have hc1 := grownCap_ge w s.size 0 5
  have hc2 := grownCap_le_maxLen w s.size 0 5 (by unfold maxLen; omega)
  have hx := rdv_bytes w 5 s _ hc1 hc2
  have hvb : ∀ k, v.ownBlock = some k → k < w.heap.size := fun k hk => (h.own.lt k hk).2
  have hpl := h.lt
  have hbl : ∀ b o n c, Value.slice (some ⟨w.heap.size, 0, none⟩) s.size (grownCap w s.size 0 5) = Value.slice (some ⟨b, o, none⟩) n c → b = w.heap.size := fun b o n c e => by
    rw [Value.slice.injEq] at e; obtain ⟨e, _⟩ := e; injection e with e; injection e with e _; exact e.symm
  have K := Lib.hid (wBytes p v l bad _ (strL s) _ (h.below hb) hx (fun b o n c e _ => by
    have := hbl b o n c e; subst this
    exact ⟨by omega, fun e2 => by have := hvb _ e2; omega⟩) (fun b o n c e _ => by have := hbl b o n c e; subst this; rw [Lib.bytesWorld_size]; omega) (by omega))
  generalize grownCap w s.size 0 5 = cc at *
  clear h hb hc1 hc2 hx hvb hbl
  go_enter Try.func59, Try.ntmps59
  go_wp2_with fail
  refine K.out.mono ?_
  rintro e w2 ⟨rfl, h2⟩
  have H2 := Lib.hid (h2.pre HB.out)
  clear h2
  go_wp2
  (first | go_end0 | refine bodyPost_ret (results_none rfl _ _ _) rfl ?_)
  exact ⟨rfl, H2.out⟩
end Go.Proofs.Ythbalmoafpggdaa

/- Operations: ops.seen, earlier, May; the reference's May. -/
import Derived.Test.YthbalmoafpggdaaChecked
import Derived.WalkKit
import Derived.Outline
import Derived.WalkSpells
import Derived.WalkLawsBesides
import Derived.Deep.QuietTactic
import Derived.Deep.RegionWith
import Derived.Deep.DeepMust
import Derived.BigQuiet
import Derived.Test.YthbalmoafpggdaaMem
import Derived.RegionTactic
import Derived.ChangeAlike
import Derived.StillTailTactics
import Derived.Deep.LoopGhost
import Derived.Test.YthbalmoafpggdaaVecE
import Derived.Test.YthbalmoafpggdaaNm
import Derived.Test.YthbalmoafpggdaaCmpL
namespace Go.Proofs.Ythbalmoafpggdaa
open Go.RowKit
set_option linter.unusedVariables false
set_option linter.unusedSimpArgs false
structure Opr where
  time : Int
  node : Int
  seq : Int
  kind : Int
  ot : Int
  on : Int
  pt : Int
  pn : Int
  name : ByteArray
  data : List Int
  seen : List Int
/-- May the vector of an operation be? -/
def seenB (xs : List Int) (node seq : Int) : Bool := vecMayB (cutL xs) && decide ((cutL xs).length ≤ 64) && decide (atZ xs node = seq - 1)
theorem mayB_bad (xs : List Int) (m k : Nat) (hk : k < m) (hm : m ≤ xs.length) (hf : ¬ (0 ≤ xs.getD k 0 ∧ xs.getD k 0 ≤ 1152921504606846976)) : vecMayB (xs.take m) = false := by
  have e : (xs.take m).getD k 0 = xs.getD k 0 := by simp [List.getD_eq_getElem?_getD, List.getElem?_take_of_lt hk]
  refine vecMayB_false _ k (by simp; omega) ?_
  rw [e]; exact hf
theorem rdv_cell {enc : Int → Value} {w : World} {b o n c : Nat} {xs : List Int} (h : Rdv enc w (.slice (some ⟨b, o, none⟩) n c) xs) (k : Nat) (hk : k < xs.length) : w.cell? ⟨b, o + k, none⟩ = some (enc (xs.getD k 0)) := by
  obtain ⟨b', o', e, hc⟩ := rdv_at h k hk
  injection e with e
  injection e with e1 e2
  subst e1 e2
  exact hc
set_option maxHeartbeats 2000000 in
set_option maxRecDepth 100000 in
theorem opsSeen (o : Opr) (d s : Value) (w : World) (hs : Rdv i64v w s o.seen) (h1 : 1 ≤ o.seq) (h2 : o.seq ≤ 1152921504606846976) :
    Calls Try.prog 114 #[.agg #[.int .i64 (o).time, .int .i64 (o).node, .int .i64 (o).seq, .int .i64 (o).kind, .int .i64 (o).ot, .int .i64 (o).on, .int .i64 (o).pt, .int .i64 (o).pn, .string (o).name, d, s]] w fun e w' => e = .returned (.bool (seenB o.seen o.node o.seq)) ∧ Below w.heap.size w w' := by
  obtain ⟨time, node, seq, kind, ot, on, pt, pn, name, data, xs⟩ := o
  simp only at *
  obtain ⟨a, n, c, rfl⟩ := hs.shape
  obtain ⟨rfl, c1, c2, c3⟩ := hs.cap
  unfold maxLen at c2
  have HX := Lib.hid (fun w' hb => hs.below (w' := w') hb)
  have HX0 := Lib.hid hs
  have KA := Lib.hid (fun (w' : World) hb => vecAt _ xs node w' (hs.below (w' := w') hb))
  clear hs c3
  go_enter Try.func114, Try.ntmps114
  go_wp2
  obtain ⟨w1, hw1⟩ : ∃ w1, w1 = w.alloc (.cells #[.int .i64 time, .int .i64 node, .int .i64 seq, .int .i64 kind, .int .i64 ot, .int .i64 on, .int .i64 pt, .int .i64 pn, .string name, d, .slice a xs.length c] 58) := ⟨_, rfl⟩
  have hB := (Below.refl w.heap.size w).alloc (Nat.le_refl _) (.cells #[.int .i64 time, .int .i64 node, .int .i64 seq, .int .i64 kind, .int .i64 ot, .int .i64 on, .int .i64 pt, .int .i64 pn, .string name, d, .slice a xs.length c] 58)
  have bk : Blk w1 w.heap.size #[.int .i64 time, .int .i64 node, .int .i64 seq, .int .i64 kind, .int .i64 ot, .int .i64 on, .int .i64 pt, .int .i64 pn, .string name, d, .slice a xs.length c] 58 := by rw [hw1]; exact Blk.new _ _ _
  rw [← hw1] at hB ⊢
  have e10 : w1.cell? ⟨w.heap.size, 10, none⟩ = some (.slice a xs.length c) := bk.cell (o := 10) rfl
  have e1 : w1.cell? ⟨w.heap.size, 1, none⟩ = some (.int .i64 node) := bk.cell (o := 1) rfl
  have e2 : w1.cell? ⟨w.heap.size, 2, none⟩ = some (.int .i64 seq) := bk.cell (o := 2) rfl
  have HB := Lib.hid hB
  have HX1 := Lib.hid (HX.out w1 hB)
  clear hw1 hB bk
  go_loop [3] (fun nv => ∃ m : Nat, m ≤ xs.length ∧ nv = .int .i64 m ∧ cutTo xs xs.length = cutTo xs m) (fun nv => (intOf nv).toNat)
  case atStart => exact ⟨_, Nat.le_refl _, rfl, rfl⟩
  case round =>
    obtain ⟨m, hm, rfl, he⟩ := hrel
    have HE := Lib.hid he
    clear he
    by_cases hmid : 0 < m ∧ xs.getD (m - 1) 0 = 0
    · obtain ⟨hpos, hz⟩ := hmid
      obtain ⟨k, rfl⟩ : ∃ k, m = k + 1 := ⟨m - 1, by omega⟩
      rw [Nat.add_sub_cancel] at hz
      obtain ⟨bl, ol, rfl, hcell⟩ := rdv_at HX1.out k (by omega)
      have HE2 := Lib.hid (HE.out.trans (cutTo_down xs k hz))
      rw [hz] at hcell
      clear hz
      go_wp2
      go_round
      case rel => exact ⟨k, by omega, by go_num, HE2.out⟩
      case measure => simp [intOf]
    · have HN : Hid (cutTo xs xs.length = m) := Lib.hid (by
        rw [HE.out]
        cases m with
        | zero => rfl
        | succ k => exact cutTo_stop xs k (by simpa using hmid))
      have hcut : cutL xs = xs.take m := by unfold cutL; rw [HN.out]
      have hlen : (cutL xs).length = m := by rw [cutL_len, HN.out]
      have HC := Lib.hid hcut
      have HL := Lib.hid hlen
      clear hcut hlen
      rcases Nat.eq_zero_or_pos m with hm0 | hpos
      · have hm1 : ¬ ((0 : Int) < m) := by omega
        have hm2 : m ≤ 0 := by omega
        clear hmid hm0
        by_cases h64 : m ≤ 64
        · have h64' : (m : Int) ≤ 64 := by omega
          have hmx : (m : Int) ≤ c := by omega
          go_wp2
          go_loop [29] (fun i => ∃ k : Nat, k ≤ m ∧ i = .int .i64 k ∧ vecMayB (xs.take k) = true) (fun i => m - (intOf i).toNat)
          case atStart => exact ⟨0, Nat.zero_le _, rfl, rfl⟩
          case round =>
            obtain ⟨k, hk, rfl, hok⟩ := hrel
            have HOK := Lib.hid hok
            clear hok
            by_cases hlt : k < m
            · exact absurd hlt (by omega)
            · obtain rfl : k = m := by omega
              have HV : Hid (vecMayB (cutL xs) = true) := Lib.hid (by rw [HC.out]; exact HOK.out)
              clear HOK
              go_wp2
              go_quiet ((go_at_call 129; refine Calls.quiet_of_same ((KA.out _ (HB.out.trans ((Drw.below ⟨_, rfl⟩).mono HB.out.size))).mono fun _ _ h => ⟨h.1, h.2.symm⟩)))
              go_wp2
              go_ret
              refine ⟨ret_b ?_, HB.out.trans ((Drw.below ⟨_, rfl⟩).mono HB.out.size)⟩
              unfold seenB
              rw [HV.out, HL.out, decide_eq_true h64, Bool.eq_iff_iff]
              simp
        · have h64' : (64 : Int) < m := by omega
          exfalso; omega
      · obtain ⟨bl, ol, rfl, hcell⟩ := rdv_at HX1.out (m - 1) (by omega)
        have hnz : xs.getD (m - 1) 0 ≠ 0 := fun e => hmid ⟨hpos, e⟩
        have hz2 : (xs.getD (m - 1) 0 == 0) = false := beq_false_of_ne hnz
        have p0 : (0 : Int) < m := by omega
        have p1 : (0 : Int) ≤ (m : Int) - 1 := by omega
        have p2 : (m : Int) - 1 < xs.length := by omega
        have p3 : ((m : Int) - 1).toNat = m - 1 := by omega
        generalize xs.getD (m - 1) 0 = q at *
        clear hmid hnz
        by_cases h64 : m ≤ 64
        · have h64' : (m : Int) ≤ 64 := by omega
          have hmx : (m : Int) ≤ c := by omega
          go_wp2
          go_loop [29] (fun i => ∃ k : Nat, k ≤ m ∧ i = .int .i64 k ∧ vecMayB (xs.take k) = true) (fun i => m - (intOf i).toNat)
          case atStart => exact ⟨0, Nat.zero_le _, rfl, rfl⟩
          case round =>
            obtain ⟨k, hk, rfl, hok⟩ := hrel
            have HOK := Lib.hid hok
            clear hok
            by_cases hlt : k < m
            · have hcell2 := rdv_cell HX1.out k (by omega)
              by_cases hq : 0 ≤ xs.getD k 0 ∧ xs.getD k 0 ≤ 1152921504606846976
              · have HS := Lib.hid (vecMayB_take xs k (by omega))
                obtain ⟨q1, q2⟩ := hq
                have HV : Hid (vecMayB (xs.take (k + 1)) = true) := Lib.hid (by rw [HS.out, HOK.out, decide_eq_true q1, decide_eq_true q2]; rfl)
                clear HS
                generalize xs.getD k 0 = q3 at *
                go_wp2
                go_round
                case rel => exact ⟨k + 1, by omega, by go_num, HV.out⟩
                case measure => simp [intOf]; omega
              · have HV : Hid (vecMayB (cutL xs) = false) := Lib.hid (by rw [HC.out]; exact mayB_bad xs m k hlt hm hq)
                by_cases q0 : xs.getD k 0 < 0
                · generalize xs.getD k 0 = q3 at *
                  clear hq
                  go_wp2
                  go_ret
                  exact ⟨ret_b (by unfold seenB; rw [HV.out]; rfl), HB.out⟩
                · have q1 : 1152921504606846976 < xs.getD k 0 := by omega
                  generalize xs.getD k 0 = q3 at *
                  clear hq
                  go_wp2
                  go_ret
                  exact ⟨ret_b (by unfold seenB; rw [HV.out]; rfl), HB.out⟩
            · obtain rfl : k = m := by omega
              have HV : Hid (vecMayB (cutL xs) = true) := Lib.hid (by rw [HC.out]; exact HOK.out)
              clear HOK
              go_wp2
              go_quiet ((go_at_call 129; refine Calls.quiet_of_same ((KA.out _ (HB.out.trans ((Drw.below ⟨_, rfl⟩).mono HB.out.size))).mono fun _ _ h => ⟨h.1, h.2.symm⟩)))
              go_wp2
              go_ret
              refine ⟨ret_b ?_, HB.out.trans ((Drw.below ⟨_, rfl⟩).mono HB.out.size)⟩
              unfold seenB
              rw [HV.out, HL.out, decide_eq_true h64, Bool.eq_iff_iff]
              simp
        · have h64' : (64 : Int) < m := by omega
          go_wp2
          go_ret
          exact ⟨ret_b (by unfold seenB; rw [HL.out, decide_eq_false h64]; simp), HB.out⟩
theorem eqID (a b c d : Int) (w : World) : (binOp .eql 45 (.agg #[.int .i64 a, .int .i64 b]) (.agg #[.int .i64 c, .int .i64 d])).run Try.prog w = .ok (.bool (decide (a = c) && decide (b = d))) w := by
  go_simp
  by_cases h : a = c <;> by_cases h2 : b = d <;> simp [h, h2]
def earlyB (t n t' n' : Int) : Bool := validID t n && idLt t n t' n'
set_option maxHeartbeats 2000000 in
set_option maxRecDepth 100000 in
theorem opsEarlier (t n : Int) (o : Opr) (d s : Value) (w : World) :
    Calls Try.prog 115 #[.agg #[.int .i64 t, .int .i64 n], .agg #[.int .i64 (o).time, .int .i64 (o).node, .int .i64 (o).seq, .int .i64 (o).kind, .int .i64 (o).ot, .int .i64 (o).on, .int .i64 (o).pt, .int .i64 (o).pn, .string (o).name, d, s]] w fun e w' => e = .returned (.bool (earlyB t n o.time o.node)) ∧ Below w.heap.size w w' := by
  obtain ⟨time, node, seq, kind, ot, on, pt, pn, name, data, xs⟩ := o
  simp only
  have KV := Lib.hid (fun w' => clkValid t n w')
  have KL := Lib.hid (fun w' => clkLess' t n time node w')
  cases hv : validID t n
  · rw [hv] at KV
    have HV := Lib.hid hv
    clear hv
    go_enter Try.func115, Try.ntmps115
    go_wp2_with fail
    refine (KV.out _).mono ?_
    rintro e w1 ⟨rfl, hb1⟩
    have HB := Lib.hid hb1
    clear hb1
    go_wp2
    go_ret
    exact ⟨ret_b (by unfold earlyB; rw [HV.out]; rfl), (((Below.refl w.heap.size w).alloc (Nat.le_refl _) _).alloc (by simp) _).trans (HB.out.mono (by simp; omega))⟩
  · rw [hv] at KV
    have HV := Lib.hid hv
    clear hv
    go_enter Try.func115, Try.ntmps115
    go_wp2_with fail
    refine (KV.out _).mono ?_
    rintro e w1 ⟨rfl, hb1⟩
    have bk : Blk w1 (w.heap.size + 1) #[.int .i64 time, .int .i64 node, .int .i64 seq, .int .i64 kind, .int .i64 ot, .int .i64 on, .int .i64 pt, .int .i64 pn, .string name, d, s] 58 := blkBelow hb1 (by have := Blk.new (w.alloc (.cells #[.int .i64 t, .int .i64 n] 45)) #[.int .i64 time, .int .i64 node, .int .i64 seq, .int .i64 kind, .int .i64 ot, .int .i64 on, .int .i64 pt, .int .i64 pn, .string name, d, s] 58; simpa using this) (by simp)
    have bk2 : Blk w1 w.heap.size #[.int .i64 t, .int .i64 n] 45 := blkBelow hb1 ((Blk.new w _ _).alloc _) (by simp; omega)
    have e0 : w1.cell? ⟨w.heap.size + 1, 0, none⟩ = some (.int .i64 time) := bk.cell (o := 0) rfl
    have e1 : w1.cell? ⟨w.heap.size + 1, 1, none⟩ = some (.int .i64 node) := bk.cell (o := 1) rfl
    have e2 : w1.cell? ⟨w.heap.size, 0, none⟩ = some (.int .i64 t) := bk2.cell (o := 0) rfl
    have e3 : w1.cell? ⟨w.heap.size, 1, none⟩ = some (.int .i64 n) := bk2.cell (o := 1) rfl
    have HB : Hid (Below w.heap.size w w1) := Lib.hid ((((Below.refl w.heap.size w).alloc (Nat.le_refl _) _).alloc (by simp) _).trans (hb1.mono (by simp; omega)))
    clear hb1 bk bk2
    go_wp2_with fail
    refine (KL.out _).mono ?_
    rintro e w2 ⟨rfl, hb2⟩
    have HB2 := Lib.hid hb2
    clear hb2
    go_wp2
    go_ret
    exact ⟨ret_b (by unfold earlyB; rw [HV.out]; rfl), HB.out.trans (HB2.out.mono HB.out.size)⟩
theorem opsRoot (w : World) : Calls Try.prog 95 #[] w fun e w' => e = .returned (.agg #[.int .i64 0, .int .i64 0]) ∧ Below w.heap.size w w' := by
  go_enter Try.func95, Try.ntmps95
  go_wp2
  exact bodyPost_ret (v := .agg #[.int .i64 0, .int .i64 0]) (by simp [results, Try.results95, go_sem] <;> rfl) rfl ⟨rfl, (Below.refl _ _).alloc (Nat.le_refl _) _⟩
theorem opsTrash (w : World) : Calls Try.prog 94 #[] w fun e w' => e = .returned (.agg #[.int .i64 0, .int .i64 1]) ∧ Below w.heap.size w w' := by
  go_enter Try.func94, Try.ntmps94
  go_wp2
  exact bodyPost_ret (v := .agg #[.int .i64 0, .int .i64 1]) (by simp [results, Try.results94, go_sem] <;> rfl) rfl ⟨rfl, (Below.refl _ _).alloc (Nat.le_refl _) _⟩
end Go.Proofs.Ythbalmoafpggdaa

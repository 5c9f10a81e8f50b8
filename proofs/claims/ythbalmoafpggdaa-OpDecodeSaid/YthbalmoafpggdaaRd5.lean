/- Contracts of package codec: the reader's vectors. -/
import Derived.Test.YthbalmoafpggdaaChecked
import Derived.WalkKit
import Derived.Outline
import Derived.WalkSpells
import Derived.WalkLawsBesides
import Derived.Deep.QuietTactic
import Derived.Deep.RegionWith
import Derived.Deep.DeepMust
import Derived.BigQuiet
import Derived.Test.YthbalmoafpggdaaMem
import Derived.RegionTactic
import Derived.ChangeAlike
import Derived.StillTailTactics
import Derived.Deep.LoopGhost
import Derived.Test.YthbalmoafpggdaaRd4
namespace Go.Proofs.Ythbalmoafpggdaa
open Go.RowKit
set_option linter.unusedVariables false
set_option linter.unusedSimpArgs false
theorem Cd.infoI64 : (Try.prog.info? 2).map (fun i => (i.zero, i.size, i.bytes)) = some (some (.int .i64 0), 1, 8) := by kernel_rfl
def RVecPost (r B : Nat) (s : RS) (w : World) (e : Ending) (w' : World) : Prop := ∃ v, e = .returned v ∧ w'.ownsRow w.heap.size 2 1 v (vecS s).1.length ((vecS s).1.map i64c) ∧ RStep r B w (vecS s).2 w'
theorem vecS_eq (s : RS) : vecS s = (match (numS s).2 with | none => ([], none) | some l => if 64 < (numS s).1 then ([], none) else match (numsS (numS s).1 (some l)).2 with | none => ([], none) | some l' => if vecOkB (numsS (numS s).1 (some l)).1 = true then ((numsS (numS s).1 (some l)).1, some l') else ([], none)) := by
  unfold vecS
  rcases numS s with ⟨n, t⟩
  rcases t with _ | l
  · rfl
  · simp only
    split
    · rfl
    · rcases numsS n (some l) with ⟨v, t⟩
      rcases t with _ | l' <;> rfl
theorem cutTo_iff (v : List Int) : cutTo v v.length = v.length ↔ (v = [] ∨ v.getD (v.length - 1) 0 ≠ 0) := by
  rcases Nat.eq_zero_or_pos v.length with h | h
  · have : v = [] := List.length_eq_zero_iff.1 h
    subst this; simp [cutTo]
  · have hne : v ≠ [] := fun e => by rw [e] at h; simp at h
    obtain ⟨k, hk⟩ : ∃ k, v.length = k + 1 := ⟨v.length - 1, by omega⟩
    rw [hk, Nat.add_sub_cancel]
    constructor
    · intro h1
      refine .inr fun h0 => ?_
      rw [cutTo_down v k h0] at h1
      have := cutTo_le v k
      omega
    · intro h1
      rcases h1 with h1 | h1
      · exact absurd h1 hne
      · exact cutTo_stop v k h1
def vecEnd (ys : List Int) : RS → List Int × RS | none => ([], none) | some l => (ys, some l)
theorem RdT.grown {T : TypeId} {w w' : World} {r B b : Nat} {v : Value} {s : RS} {row : Option Nat} (h : RdT T w r B v s) (g : w.grownBy w' row) (hr : ∀ k, row = some k → b ≤ k) (h1 : r < b) (h2 : B < b) : RdT T w' r B v s :=
  h.chg (S := fun k => b ≤ k) ((Chg.refl _ w).grown g (fun k hk _ => hr k hk)) (by omega) (by omega)
set_option maxHeartbeats 4000000 in
set_option maxRecDepth 100000 in
theorem rVector (r B : Nat) (v : Value) (s : RS) (w : World) (h : Rd w r B v s) (hBl : B < w.heap.size) : Calls Try.prog 62 #[.pointer (some ⟨r, 0, none⟩)] w (RVecPost r B s w) := by
  obtain ⟨i0, hi, hz0, hz1, hz2⟩ := info_parts Cd.infoI64
  have hz := numS_zero s
  have hI := vecS_eq s
  have hbd := numS_bd s
  rcases hq : numS s with ⟨n, s1⟩
  rw [hq] at hz hI hbd
  simp only at hz hI hbd
  have KN := Lib.hid (rNum' r B v s w h hq)
  have hrl := h.lt
  have hn0 : (0 : Int) ≤ n := by omega
  clear h hq
  by_cases h64 : 64 < n
  · have HI : Hid (vecS s = ([], none)) := Lib.hid (by rw [hI]; rcases s1 with _ | l; rfl; exact if_pos h64)
    have hd : decide ((64 : Int) < (n : Int)) = true := decide_eq_true (by omega)
    clear hI hz
    go_enter Try.func62, Try.ntmps62
    go_wp2_with fail
    refine KN.out.mono ?_
    rintro e w1 ⟨rfl, v1, h1, g1⟩
    have KF := Lib.hid (rFail1 r B v1 s1 true w1 h1 (by simp))
    have G1 := Lib.hid g1
    clear h1 g1 KN
    go_wp2_with fail
    (with_reducible refine KF.out.mono ?_)
    rintro e w3 ⟨rfl, h3⟩
    have H3 := Lib.hid (h3.trans G1.out)
    clear h3
    go_wp2
    go_ret
    exact ⟨_, rfl, by rw [HI.out]; exact World.ownsRow_nil _ _ _ _, by rw [HI.out]; exact H3.out⟩
  · have hd : decide ((64 : Int) < (n : Int)) = false := decide_eq_false (by omega)
    have hn64 : n ≤ 64 := by omega
    rcases s1 with _ | l
    · have HI : Hid (vecS s = ([], none)) := Lib.hid hI
      have hnz : n ≤ 0 := by have := hz rfl; omega
      clear hI hz h64
      go_enter Try.func62, Try.ntmps62
      go_wp2_with fail
      refine KN.out.mono ?_
      rintro e w1 ⟨rfl, v1, h1, g1⟩
      have KF := Lib.hid (rFail1 r B v1 none false w1 h1 (by simp))
      have G1 := Lib.hid g1
      clear h1 g1 KN
      go_wp2_with fail
      (with_reducible refine KF.out.mono ?_)
      rintro e w3 ⟨rfl, h3⟩
      have H3 := Lib.hid (h3.trans G1.out)
      clear h3
      go_wp2
      go_ret
      exact ⟨_, rfl, by rw [HI.out]; exact World.ownsRow_nil _ _ _ _, by rw [HI.out]; exact H3.out⟩
    · have HI : Hid (vecS s = (match (numsS n (some l)).2 with | none => ([], none) | some l' => if vecOkB (numsS n (some l)).1 = true then ((numsS n (some l)).1, some l') else ([], none))) := Lib.hid (hI.trans (if_neg h64))
      clear hI hz h64
      go_enter Try.func62, Try.ntmps62
      go_wp2_with fail
      refine KN.out.mono ?_
      rintro e w1 ⟨rfl, v1, h1, g1⟩
      have KF := Lib.hid (rFails r B v1 (some l) false w1 h1)
      have G1 := Lib.hid g1
      clear h1 g1 KN
      go_wp2_with fail
      (with_reducible refine KF.out.mono ?_)
      rintro e w3 ⟨rfl, v3, h3, g3⟩
      have H3 : Hid (Rd w3 r B v3 (some l)) := Lib.hid h3
      have G3 := Lib.hid (G1.out.trans g3)
      clear h3 g3
      go_wp2_with fail
      go_loopw [4, 12] (fun vv i wr => ∃ k : Nat, k ≤ n ∧ i = .int .i64 k ∧ wr.ownsRow w.heap.size 2 1 vv k ((numsS k (some l)).1.map i64c) ∧ (∃ v', Rd wr r B v' (numsS k (some l)).2) ∧ Chg (· = r) w wr) (fun _ i _ => n - (intOf i).toNat)
      case atStart => exact ⟨0, by omega, rfl, World.ownsRow_nil _ _ _ _, ⟨v3, H3.out⟩, G3.out⟩
      case round =>
        obtain ⟨k, hk, rfl, ho, ⟨v', hR⟩, hC⟩ := hrel
        have HO := Lib.hid ho
        have HR := Lib.hid hR
        have HC := Lib.hid hC
        have hws := hC.size
        by_cases hlt : k < n
        · have KM := Lib.hid (rNum r B v' _ wr hR)
          clear ho hR hC
          go_wp2_with fail
          refine KM.out.mono ?_
          rintro e w4 ⟨rfl, v4, h4, g4⟩
          have ho4 := ownsRow_chg HO.out g4 (fun b hb e => by have := (HO.out.lt b hb).1; omega)
          have C4 := Lib.hid (HC.out.trans g4)
          have H4 := Lib.hid h4
          have hws4 : w.heap.size ≤ w4.heap.size := C4.out.size
          have KV : Hid (numsS (k + 1) (some l) = ((numsS k (some l)).1 ++ [((numS (numsS k (some l)).2).1 : Int)], (numS (numsS k (some l)).2).2)) := Lib.hid rfl
          generalize (numS (numsS k (some l)).2).1 = q at *
          clear h4 g4
          go_wp2_with (at_builtin; refine wpList_append_own_at _ rfl _ _ 47 rfl w.heap.size 2 i0 (.int .i64 0) 1 8 Try.underlying47 hi hz0 hz1 hz2 rfl (by decide) _ _ _ rfl (ho4.alloc _) ⟨w4.heap.size, 0, none⟩ 1 1 [.int .i64 (q : Int)] rfl rfl ?c1 ?c2 ?c3 ?c4 ?c5 ?_)
          case c1 => exact cell_one_new _ _ _
          case c2 => intro u hu; simp at hu; subst hu; rfl
          case c3 => unfold maxLen; omega
          case c4 => omega
          case c5 => simp; omega
          intro v5 w5 o5 g5 _ b5
          have R5 := Lib.hid ((H4.out.below ((Below.refl _ _).alloc (Nat.le_refl _) _)).grown g5 (fun k hk => (ho4.lt k hk).1) hrl hBl)
          have C5 : Hid (Chg (· = r) w w5) := Lib.hid (C4.out.trans' ((((Chg.refl (fun k => w.heap.size ≤ k) w4).alloc _)).grown g5 (fun k hk _ => (ho4.lt k hk).1)) (fun i hi hs => by omega))
          have O5 := Lib.hid o5
          obtain ⟨v5a, v5c, rfl, _⟩ := own_shape o5
          clear o5 g5 b5 ho4
          go_wp2
          go_roundw
          case rel => exact ⟨k + 1, by omega, by go_num, by rw [KV.out]; have := O5.out; simpa using this, ⟨_, by rw [KV.out]; exact R5.out⟩, C5.out⟩
          case measure => simp [intOf]; omega
        · obtain rfl : k = n := by omega
          clear hR hC
          obtain ⟨va, vc, rfl, hv1, hv2, _⟩ := own_shape ho
          have hvl := numsS_len k (some l)
          have HV := Lib.hid hvl
          generalize hNS : numsS k (some l) = NS at *
          obtain ⟨ys, s5⟩ := NS
          simp only at *
          subst hvl
          have hrd := Rdv.of_owns (enc := i64c) (xs := ys) ho
          have KC := Lib.hid (cdCut va vc ys wr hrd)
          have KVV := Lib.hid (cdVector va vc ys wr hrd)
          clear ho hrd
          have h64b : decide (ys.length ≤ 64) = true := decide_eq_true hn64
          rw [show (vecMayB ys && decide (ys.length ≤ 64)) = vecMayB ys by rw [h64b, Bool.and_true]] at KVV
          have hIff := cutTo_iff ys
          have hOkd : vecOkB ys = (vecMayB ys && decide (ys = [] ∨ ys.getD (ys.length - 1) 0 ≠ 0)) := rfl
          have fin : ∀ bad, (s5.isNone || bad) = true → Calls Try.prog 58 #[.pointer (some ⟨r, 0, none⟩), .bool bad] wr fun e w' => e = .returned (.bool true) ∧ RStep r B w none w' := fun bad hb => (rFail1 r B v' s5 bad wr HR.out hb).mono fun e w3 h => by
            obtain ⟨rfl, h3⟩ := h
            exact ⟨rfl, h3.trans HC.out⟩
          have FIN := Lib.hid fin
          clear fin h64b
          by_cases hmay : vecMayB ys = true
          · rw [hmay] at KVV hOkd
            have KVV := Lib.hid KVV.out
            by_cases hcut : cutTo ys ys.length = ys.length
            · have hOk : vecOkB ys = true := by rw [hOkd, decide_eq_true (hIff.1 hcut)]; rfl
              have HI2 : Hid (vecS s = vecEnd ys s5) := Lib.hid (by have h := HI.out; rw [h]; cases s5; rfl; simp only [hOk, if_pos, vecEnd])
              have hne : ((cutTo ys ys.length : Int) != (ys.length : Int)) = false := by rw [hcut]; simp
              have hne2 : (cutTo ys ys.length != ys.length) = false := by rw [hcut]; simp
              have HCUT := Lib.hid hcut
              clear hmay hcut hIff hOkd hOk
              go_wp2_with fail
              refine KVV.out.mono ?_
              rintro e w4 ⟨rfl, rfl⟩
              go_wp2_with fail
              refine KC.out.mono ?_
              rintro e w4 ⟨rfl, rfl⟩
              rcases s5 with _ | l'
              · have KF2 := Lib.hid (FIN.out false rfl)
                go_wp2_with fail
                (with_reducible refine KF2.out.mono ?_)
                rintro e w5 ⟨rfl, h5⟩
                have H5 := Lib.hid h5
                clear h5
                go_wp2
                go_ret
                exact ⟨_, rfl, by rw [HI2.out]; exact World.ownsRow_nil _ _ _ _, by rw [HI2.out]; exact H5.out⟩
              · have KF2 := Lib.hid (rFails r B v' (some l') false wr HR.out)
                go_wp2_with fail
                (with_reducible refine KF2.out.mono ?_)
                rintro e w5 ⟨rfl, v5, h5, g5⟩
                have ho5 := ownsRow_chg HO.out g5 (fun b hb e => by have := (HO.out.lt b hb).1; omega)
                have H5 : Hid (RStep r B w (some l') w5) := Lib.hid ⟨v5, h5, HC.out.trans g5⟩
                have O5 := Lib.hid ho5
                clear h5 g5 ho5
                go_wp2
                go_ret
                exact ⟨_, rfl, by rw [HI2.out]; exact O5.out, by rw [HI2.out]; exact H5.out⟩
            · have hOk : vecOkB ys = false := by rw [hOkd, decide_eq_false (fun h => hcut (hIff.2 h))]; rfl
              have HI2 : Hid (vecS s = ([], none)) := Lib.hid (by rw [HI.out]; rcases s5 with _ | l'; rfl; simp [hOk])
              have hle := cutTo_le ys ys.length
              have hne : ((cutTo ys ys.length : Int) != (ys.length : Int)) = true := by rw [bne_iff_ne]; omega
              have hne2 : (cutTo ys ys.length != ys.length) = true := by rw [bne_iff_ne]; exact hcut
              have KF2 := Lib.hid (FIN.out true (by simp))
              clear hmay hcut hIff hOkd hOk
              go_wp2_with fail
              refine KVV.out.mono ?_
              rintro e w4 ⟨rfl, rfl⟩
              go_wp2_with fail
              refine KC.out.mono ?_
              rintro e w4 ⟨rfl, rfl⟩
              go_wp2_with fail
              (with_reducible refine KF2.out.mono ?_)
              rintro e w5 ⟨rfl, h5⟩
              have H5 := Lib.hid h5
              clear h5
              go_wp2
              go_ret
              exact ⟨_, rfl, by rw [HI2.out]; exact World.ownsRow_nil _ _ _ _, by rw [HI2.out]; exact H5.out⟩
          · have hmay' : vecMayB ys = false := by simpa using hmay
            rw [hmay'] at KVV hOkd
            have KVV := Lib.hid KVV.out
            have HI2 : Hid (vecS s = ([], none)) := Lib.hid (by rw [HI.out]; rcases s5 with _ | l'; rfl; simp [hOkd])
            have KF2 := Lib.hid (FIN.out true (by simp))
            clear hmay hmay' hIff hOkd
            go_wp2_with fail
            refine KVV.out.mono ?_
            rintro e w4 ⟨rfl, rfl⟩
            go_wp2_with fail
            (with_reducible refine KF2.out.mono ?_)
            rintro e w5 ⟨rfl, h5⟩
            have H5 := Lib.hid h5
            clear h5
            go_wp2
            go_ret
            exact ⟨_, rfl, by rw [HI2.out]; exact World.ownsRow_nil _ _ _ _, by rw [HI2.out]; exact H5.out⟩
end Go.Proofs.Ythbalmoafpggdaa

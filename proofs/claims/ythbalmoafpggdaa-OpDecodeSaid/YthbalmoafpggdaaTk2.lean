/- The law's take, continued: IDs, vectors. -/
import Derived.Test.YthbalmoafpggdaaChecked
import Derived.WalkKit
import Derived.Outline
import Derived.WalkSpells
import Derived.WalkLawsBesides
import Derived.Deep.QuietTactic
import Derived.Deep.RegionWith
import Derived.Deep.DeepMust
import Derived.BigQuiet
import Derived.Test.YthbalmoafpggdaaMem
import Derived.RegionTactic
import Derived.ChangeAlike
import Derived.StillTailTactics
import Derived.Deep.LoopGhost
import Derived.Test.YthbalmoafpggdaaTk
namespace Go.Proofs.Ythbalmoafpggdaa
open Go.RowKit
set_option linter.unusedVariables false
set_option linter.unusedSimpArgs false
set_option maxHeartbeats 4000000 in
set_option maxRecDepth 100000 in
theorem take4 (r1 B1 r2 B2 : Nat) (s : RS) (w : World) (h : Two w r1 B1 r2 B2 s) : Calls Try.prog 21 #[.pointer (some ⟨r1, 0, none⟩), .pointer (some ⟨r2, 0, none⟩), .int .i64 4] w (TakePost 4 r1 B1 r2 B2 s w) := by
  obtain ⟨v1, h1⟩ := h.rd
  obtain ⟨v2, h2⟩ := h.rf
  have K1 := Lib.hid (rID r1 B1 v1 s w h1 h.lb1)
  have H := Lib.hid h
  have H2 := Lib.hid h2
  clear h h1 h2
  go_enter Try.func21, Try.ntmps21
  go_wp2_with fail
  refine K1.out.mono ?_
  rintro e w1 ⟨rfl, v3, h3, g3⟩
  have a1 : Below w1.heap.size w1 (w1.alloc (.cells #[.int .i64 ((idS s).1.1 : Nat), .int .i64 ((idS s).1.2 : Nat)] 45)) := (Below.refl _ _).alloc (Nat.le_refl _) _
  have hs1 := g3.size
  have h3a := h3.below a1
  have g3a : Chg (· = r1) w (w1.alloc (.cells #[.int .i64 ((idS s).1.1 : Nat), .int .i64 ((idS s).1.2 : Nat)] 45)) := g3.trans (Chg.of_below a1 (fun i q1 q2 => by omega))
  have X1 := Lib.hid (Blk.new w1 #[.int .i64 ((idS s).1.1 : Nat), .int .i64 ((idS s).1.2 : Nat)] 45)
  have hlb2 := H.out.lb2
  have hr2l := H2.out.lt
  clear h3 g3
  have K2 := Lib.hid (fID r2 B2 v2 s _ (H2.out.chg g3a (Ne.symm H.out.n12) (Ne.symm H.out.nb2)) (by simp; omega))
  have H3 := Lib.hid h3a
  have G3 := Lib.hid g3a
  clear h3a g3a a1 K1
  go_wp2_with fail
  refine K2.out.mono ?_
  rintro e w5 ⟨rfl, v4, h4, g4⟩
  have X5 := (g4.blk X1.out (by omega)).alloc (.cells #[.int .i64 ((idS s).1.1 : Nat), .int .i64 ((idS s).1.2 : Nat)] 45)
  have x0 := X5.cell (o := 0) rfl
  have x1 := X5.cell (o := 1) rfl
  have xz := X5.lt
  have xf := X5.free 0
  have a5 : Below w5.heap.size w5 (w5.alloc (.cells #[.int .i64 ((idS s).1.1 : Nat), .int .i64 ((idS s).1.2 : Nat)] 45)) := (Below.refl _ _).alloc (Nat.le_refl _) _
  obtain ⟨t5, c5⟩ := H.out.step H3.out G3.out h4 g4
  have hs5 := c5.size
  have T5 := Lib.hid (t5.below a5)
  have C5 := Lib.hid (c5.trans (Chg.of_below (S := RR r1 r2) a5 (fun i q1 q2 => by omega)))
  clear h4 g4 K2 t5 c5 X5 a5
  have hTT : Hid (takeS 4 s = (idS s).2) := Lib.hid rfl
  generalize (idS s).1 = q at *
  obtain ⟨q1, q2⟩ := q
  simp only at *
  go_wp2_with fail
  refine (refSame _ _ _).mono ?_
  rintro e w9 ⟨rfl, b9⟩
  have T9 := Lib.hid (T5.out.below b9)
  have hs59 := b9.size
  have C9 := Lib.hid (C5.out.trans (Chg.of_below (S := RR r1 r2) b9 (fun i q1 q2 => by have := C5.out.size; omega)))
  clear b9 x0 x1 xz xf
  obtain ⟨u1, hR1⟩ := T9.out.rd
  obtain ⟨u2, hR2⟩ := T9.out.rf
  have pq0 : w9.cell? ⟨r2, 0, none⟩ = some u2 := hR2.blk.cell (o := 0) rfl
  have pq1 := hR2.blk.cell (o := 1) rfl
  have pqz := hR2.lt
  obtain ⟨ua, un, uc, rfl⟩ := hR2.rdv.shape
  obtain ⟨hun, _, _, _⟩ := hR2.rdv.cap
  have KL := Lib.hid (fun n => rLeft r1 B1 u1 _ _ (hR1.below (Drw.below ⟨n, rfl⟩ : Below w9.heap.size w9 (w9.drewN n))))
  have KE := Lib.hid (fun n => rErr r1 B1 u1 _ _ (hR1.below (Drw.below ⟨n, rfl⟩ : Below w9.heap.size w9 (w9.drewN n))))
  have hTK : takeS 4 s = ((idS s).2) := rfl
  generalize ((idS s).2) = s9 at *
  have HTK := Lib.hid hTK
  subst hun
  clear hR1 hR2 hTK
  rcases s9 with _ | l9
  · have pq1' : w9.cell? ⟨r2, 1, none⟩ = some (.bool true) := pq1
    clear pq1
    go_wp2
    go_quiet ((first | (go_at_call 18; exact quiS (KL.out _)) | (go_at_call 17; exact quiS (KE.out _))))
    go_wp2
    go_ret
    exact ⟨rfl, by rw [HTK.out]; exact T9.out.below (Drw.below ⟨_, rfl⟩), C9.out.trans ((Chg.refl _ _).drewN _)⟩
  · have pq1' : w9.cell? ⟨r2, 1, none⟩ = some (.bool false) := pq1
    clear pq1
    simp only [Option.getD_some] at *
    have KL2 : Hid (∀ n, Calls Try.prog 18 #[.pointer (some ⟨r1, 0, none⟩)] (w9.drewN n) fun e w' => e = .returned (.int .i64 (l9.length : Int)) ∧ w9.drewN n = w') := Lib.hid KL.out
    have KE2 : Hid (∀ n, Calls Try.prog 17 #[.pointer (some ⟨r1, 0, none⟩)] (w9.drewN n) fun e w' => e = .returned (.int .i64 0) ∧ w9.drewN n = w') := Lib.hid KE.out
    have hle : ((l9.length : Int) == (l9.length : Int)) = true := by simp
    clear KL KE
    go_wp2
    go_quiet ((first | (go_at_call 18; exact quiS (KL2.out _)) | (go_at_call 17; exact quiS (KE2.out _))))
    go_wp2
    go_ret
    exact ⟨rfl, by rw [HTK.out]; exact T9.out.below (Drw.below ⟨_, rfl⟩), C9.out.trans ((Chg.refl _ _).drewN _)⟩
theorem vecS_nrm (s : RS) : nrm (fun k => atZ (vecS s).1 k) = (vecS s).1 := by
  have hnil : nrm (fun k => atZ [] k) = [] := by decide +kernel
  rw [vecS_eq]
  have hlen := numsS_len (numS s).1
  rcases (numS s).2 with _ | l
  · exact hnil
  · simp only
    by_cases h64 : 64 < (numS s).1
    · rw [if_pos h64]; exact hnil
    · rw [if_neg h64]
      have hl := hlen (some l)
      rcases hN : numsS (numS s).1 (some l) with ⟨ys, t⟩
      rw [hN] at hl
      rcases t with _ | l'
      · exact hnil
      · simp only at *
        by_cases hok : vecOkB ys = true
        · rw [if_pos hok]
          unfold vecOkB at hok
          rw [Bool.and_eq_true] at hok
          have hc := cutL_all ys (of_decide_eq_true hok.2)
          have := nrm_cut ys (by rw [hc]; exact hok.1) (by rw [hc]; omega)
          rw [hc] at this
          exact this
        · rw [if_neg hok]; exact hnil
set_option maxHeartbeats 4000000 in
set_option maxRecDepth 100000 in
theorem take5 (k : Int) (r1 B1 r2 B2 : Nat) (s : RS) (w : World) (h : Two w r1 B1 r2 B2 s) (hk : k ≠ 0 ∧ k ≠ 1 ∧ k ≠ 2 ∧ k ≠ 3 ∧ k ≠ 4) : Calls Try.prog 21 #[.pointer (some ⟨r1, 0, none⟩), .pointer (some ⟨r2, 0, none⟩), .int .i64 k] w (TakePost k r1 B1 r2 B2 s w) := by
  have k0 : (k == 0) = false := beq_false_of_ne hk.1
  have k1 : (k == 1) = false := beq_false_of_ne hk.2.1
  have k2 : (k == 2) = false := beq_false_of_ne hk.2.2.1
  have k3 : (k == 3) = false := beq_false_of_ne hk.2.2.2.1
  have k4 : (k == 4) = false := beq_false_of_ne hk.2.2.2.2
  have HTT : Hid (takeS k s = (vecS s).2) := Lib.hid (by unfold takeS; rw [if_neg hk.1, if_neg (by omega), if_neg hk.2.2.2.1, if_neg hk.2.2.2.2])
  clear hk
  obtain ⟨v1, h1⟩ := h.rd
  obtain ⟨v2, h2⟩ := h.rf
  have K1 := Lib.hid (rVector r1 B1 v1 s w h1 h.lb1)
  have H := Lib.hid h
  have H2 := Lib.hid h2
  clear h h1 h2
  go_enter Try.func21, Try.ntmps21
  go_wp2_with fail
  refine K1.out.mono ?_
  rintro e w1 ⟨vx, rfl, hx, v3, h3, g3⟩
  have hs1 := g3.size
  have rx := Rdv.of_owns (enc := i64c) (xs := (vecS s).1) hx
  have hxr : ∀ b o n c, vx = .slice (some ⟨b, o, none⟩) n c → ¬ b = r2 := fun b o n c e => by subst e; have := (hx.lt b rfl).1; have := H2.out.lt; omega
  have RX := Lib.hid rx
  have HXR := Lib.hid hxr
  have hlb2 := H.out.lb2
  have K2 := Lib.hid (fVector r2 B2 v2 s w1 (H2.out.chg g3 (Ne.symm H.out.n12) (Ne.symm H.out.nb2)) (by omega))
  have H3 := Lib.hid h3
  have G3 := Lib.hid g3
  clear h3 g3 K1
  go_wp2_with fail
  refine K2.out.mono ?_
  rintro e w5 ⟨vy, rfl, hy, v4, h4, g4⟩
  have rx9 := RX.out.chg g4 HXR.out
  have ry9 := Rdv.of_owns (enc := i64c) (xs := (vecS s).1) hy
  obtain ⟨t5, c5⟩ := H.out.step H3.out G3.out h4 g4
  have T5 := Lib.hid t5
  have C5 := Lib.hid c5
  have KI := Lib.hid (refIs vx vy (vecS s).1 w5 (by rw [vecS_nrm]; exact rx9) ry9)
  clear h4 g4 K2 t5 c5 hx rx hxr hy rx9 ry9
  go_wp2_with fail
  refine KI.out.mono ?_
  rintro e w9 ⟨rfl, b9⟩
  have T9 := Lib.hid (T5.out.below b9)
  have C9 := Lib.hid (C5.out.trans (Chg.of_below (S := RR r1 r2) b9 (fun i q1 q2 => by have := C5.out.size; omega)))
  clear b9
  obtain ⟨u1, hR1⟩ := T9.out.rd
  obtain ⟨u2, hR2⟩ := T9.out.rf
  have pq0 : w9.cell? ⟨r2, 0, none⟩ = some u2 := hR2.blk.cell (o := 0) rfl
  have pq1 := hR2.blk.cell (o := 1) rfl
  have pqz := hR2.lt
  obtain ⟨ua, un, uc, rfl⟩ := hR2.rdv.shape
  obtain ⟨hun, _, _, _⟩ := hR2.rdv.cap
  have KL := Lib.hid (fun n => rLeft r1 B1 u1 _ _ (hR1.below (Drw.below ⟨n, rfl⟩ : Below w9.heap.size w9 (w9.drewN n))))
  have KE := Lib.hid (fun n => rErr r1 B1 u1 _ _ (hR1.below (Drw.below ⟨n, rfl⟩ : Below w9.heap.size w9 (w9.drewN n))))
  have hTK : takeS k s = ((vecS s).2) := HTT.out
  generalize ((vecS s).2) = s9 at *
  have HTK := Lib.hid hTK
  subst hun
  clear hR1 hR2 hTK
  rcases s9 with _ | l9
  · have pq1' : w9.cell? ⟨r2, 1, none⟩ = some (.bool true) := pq1
    clear pq1
    go_wp2
    go_quiet ((first | (go_at_call 18; exact quiS (KL.out _)) | (go_at_call 17; exact quiS (KE.out _))))
    go_wp2
    go_ret
    exact ⟨rfl, by rw [HTK.out]; exact T9.out.below (Drw.below ⟨_, rfl⟩), C9.out.trans ((Chg.refl _ _).drewN _)⟩
  · have pq1' : w9.cell? ⟨r2, 1, none⟩ = some (.bool false) := pq1
    clear pq1
    simp only [Option.getD_some] at *
    have KL2 : Hid (∀ n, Calls Try.prog 18 #[.pointer (some ⟨r1, 0, none⟩)] (w9.drewN n) fun e w' => e = .returned (.int .i64 (l9.length : Int)) ∧ w9.drewN n = w') := Lib.hid KL.out
    have KE2 : Hid (∀ n, Calls Try.prog 17 #[.pointer (some ⟨r1, 0, none⟩)] (w9.drewN n) fun e w' => e = .returned (.int .i64 0) ∧ w9.drewN n = w') := Lib.hid KE.out
    have hle : ((l9.length : Int) == (l9.length : Int)) = true := by simp
    clear KL KE
    go_wp2
    go_quiet ((first | (go_at_call 18; exact quiS (KL2.out _)) | (go_at_call 17; exact quiS (KE2.out _))))
    go_wp2
    go_ret
    exact ⟨rfl, by rw [HTK.out]; exact T9.out.below (Drw.below ⟨_, rfl⟩), C9.out.trans ((Chg.refl _ _).drewN _)⟩
theorem lawTake (k : Int) (r1 B1 r2 B2 : Nat) (s : RS) (w : World) (h : Two w r1 B1 r2 B2 s) : Calls Try.prog 21 #[.pointer (some ⟨r1, 0, none⟩), .pointer (some ⟨r2, 0, none⟩), .int .i64 k] w (TakePost k r1 B1 r2 B2 s w) := by
  by_cases h0 : k = 0
  · subst h0; exact take0 r1 B1 r2 B2 s w h
  by_cases h1 : k = 1
  · subst h1; exact take1 r1 B1 r2 B2 s w h
  by_cases h2 : k = 2
  · subst h2; exact take2 r1 B1 r2 B2 s w h
  by_cases h3 : k = 3
  · subst h3; exact take3 r1 B1 r2 B2 s w h
  by_cases h4 : k = 4
  · subst h4; exact take4 r1 B1 r2 B2 s w h
  exact take5 k r1 B1 r2 B2 s w h ⟨h0, h1, h2, h3, h4⟩
end Go.Proofs.Ythbalmoafpggdaa

/- The law's take: a word, by both readers. -/
import Derived.Test.YthbalmoafpggdaaChecked
import Derived.WalkKit
import Derived.Outline
import Derived.WalkSpells
import Derived.WalkLawsBesides
import Derived.Deep.QuietTactic
import Derived.Deep.RegionWith
import Derived.Deep.DeepMust
import Derived.BigQuiet
import Derived.Test.YthbalmoafpggdaaMem
import Derived.RegionTactic
import Derived.ChangeAlike
import Derived.StillTailTactics
import Derived.Deep.LoopGhost
import Derived.Test.YthbalmoafpggdaaVecI
namespace Go.Proofs.Ythbalmoafpggdaa
open Go.RowKit
set_option linter.unusedVariables false
set_option linter.unusedSimpArgs false
/-- Both readers, with the same left. -/
structure Two (w : World) (r1 B1 r2 B2 : Nat) (s : RS) : Prop where
  rd : ∃ v, Rd w r1 B1 v s
  rf : ∃ v, Rf w r2 B2 v s
  n12 : r1 ≠ r2
  nb1 : r2 ≠ B1
  nb2 : r1 ≠ B2
  lb1 : B1 < w.heap.size
  lb2 : B2 < w.heap.size
def RR (r1 r2 : Nat) : Nat → Prop := fun k => k = r1 ∨ k = r2
theorem Two.below {w w' : World} {r1 B1 r2 B2 : Nat} {s : RS} (h : Two w r1 B1 r2 B2 s) (g : Below w.heap.size w w') : Two w' r1 B1 r2 B2 s := by
  obtain ⟨v, h1⟩ := h.rd
  obtain ⟨u, h2⟩ := h.rf
  exact ⟨⟨v, h1.below g⟩, ⟨u, h2.below g⟩, h.n12, h.nb1, h.nb2, Nat.lt_of_lt_of_le h.lb1 g.size, Nat.lt_of_lt_of_le h.lb2 g.size⟩
theorem Two.step {w w1 w2 : World} {r1 B1 r2 B2 : Nat} {s s' : RS} (h : Two w r1 B1 r2 B2 s) {v1 v2 : Value} (h1 : Rd w1 r1 B1 v1 s') (g1 : Chg (· = r1) w w1) (h2 : Rf w2 r2 B2 v2 s') (g2 : Chg (· = r2) w1 w2) : Two w2 r1 B1 r2 B2 s' ∧ Chg (RR r1 r2) w w2 :=
  ⟨⟨⟨v1, h1.chg g2 h.n12 (Ne.symm h.nb1)⟩, ⟨v2, h2⟩, h.n12, h.nb1, h.nb2, Nat.lt_of_lt_of_le h.lb1 (Nat.le_trans g1.size g2.size), Nat.lt_of_lt_of_le h.lb2 (Nat.le_trans g1.size g2.size)⟩, (g1.mono fun _ _ e => .inl e).trans (g2.mono fun _ _ e => .inr e)⟩
def takeS (kind : Int) (s : RS) : RS := if kind = 0 then (numS s).2 else if kind = 1 ∨ kind = 2 then (bytesS s).2 else if kind = 3 then (truthS s).2 else if kind = 4 then (idS s).2 else (vecS s).2
def TakePost (kind : Int) (r1 B1 r2 B2 : Nat) (s : RS) (w : World) (e : Ending) (w' : World) : Prop := e = .returned (.bool true) ∧ Two w' r1 B1 r2 B2 (takeS kind s) ∧ Chg (RR r1 r2) w w'
set_option maxHeartbeats 4000000 in
set_option maxRecDepth 100000 in
theorem take0 (r1 B1 r2 B2 : Nat) (s : RS) (w : World) (h : Two w r1 B1 r2 B2 s) : Calls Try.prog 21 #[.pointer (some ⟨r1, 0, none⟩), .pointer (some ⟨r2, 0, none⟩), .int .i64 0] w (TakePost 0 r1 B1 r2 B2 s w) := by
  obtain ⟨v1, h1⟩ := h.rd
  obtain ⟨v2, h2⟩ := h.rf
  have K1 := Lib.hid (rNum r1 B1 v1 s w h1)
  have H := Lib.hid h
  have H2 := Lib.hid h2
  clear h h1 h2
  go_enter Try.func21, Try.ntmps21
  go_wp2_with fail
  refine K1.out.mono ?_
  rintro e w1 ⟨rfl, v3, h3, g3⟩
  have K2 := Lib.hid (fNum r2 B2 v2 s w1 (H2.out.chg g3 (Ne.symm H.out.n12) (Ne.symm H.out.nb2)))
  have H3 := Lib.hid h3
  have G3 := Lib.hid g3
  clear h3 g3 K1
  go_wp2_with fail
  refine K2.out.mono ?_
  rintro e w9 ⟨rfl, v4, h4, g4⟩
  obtain ⟨t9, c9⟩ := H.out.step H3.out G3.out h4 g4
  have T9 := Lib.hid t9
  have C9 := Lib.hid c9
  clear h4 g4 K2 t9 c9
  generalize (numS s).1 = q at *
  obtain ⟨u1, hR1⟩ := T9.out.rd
  obtain ⟨u2, hR2⟩ := T9.out.rf
  have pq0 : w9.cell? ⟨r2, 0, none⟩ = some u2 := hR2.blk.cell (o := 0) rfl
  have pq1 := hR2.blk.cell (o := 1) rfl
  have pqz := hR2.lt
  obtain ⟨ua, un, uc, rfl⟩ := hR2.rdv.shape
  obtain ⟨hun, _, _, _⟩ := hR2.rdv.cap
  have KL := Lib.hid (fun n => rLeft r1 B1 u1 _ _ (hR1.below (Drw.below ⟨n, rfl⟩ : Below w9.heap.size w9 (w9.drewN n))))
  have KE := Lib.hid (fun n => rErr r1 B1 u1 _ _ (hR1.below (Drw.below ⟨n, rfl⟩ : Below w9.heap.size w9 (w9.drewN n))))
  have hTK : takeS 0 s = ((numS s).2) := rfl
  generalize ((numS s).2) = s9 at *
  have HTK := Lib.hid hTK
  subst hun
  clear hR1 hR2 hTK
  rcases s9 with _ | l9
  · have pq1' : w9.cell? ⟨r2, 1, none⟩ = some (.bool true) := pq1
    clear pq1
    go_wp2
    go_quiet ((first | (go_at_call 18; exact quiS (KL.out _)) | (go_at_call 17; exact quiS (KE.out _))))
    go_wp2
    go_ret
    exact ⟨rfl, by rw [HTK.out]; exact T9.out.below (Drw.below ⟨_, rfl⟩), C9.out.trans ((Chg.refl _ _).drewN _)⟩
  · have pq1' : w9.cell? ⟨r2, 1, none⟩ = some (.bool false) := pq1
    clear pq1
    simp only [Option.getD_some] at *
    have KL2 : Hid (∀ n, Calls Try.prog 18 #[.pointer (some ⟨r1, 0, none⟩)] (w9.drewN n) fun e w' => e = .returned (.int .i64 (l9.length : Int)) ∧ w9.drewN n = w') := Lib.hid KL.out
    have KE2 : Hid (∀ n, Calls Try.prog 17 #[.pointer (some ⟨r1, 0, none⟩)] (w9.drewN n) fun e w' => e = .returned (.int .i64 0) ∧ w9.drewN n = w') := Lib.hid KE.out
    have hle : ((l9.length : Int) == (l9.length : Int)) = true := by simp
    clear KL KE
    go_wp2
    go_quiet ((first | (go_at_call 18; exact quiS (KL2.out _)) | (go_at_call 17; exact quiS (KE2.out _))))
    go_wp2
    go_ret
    exact ⟨rfl, by rw [HTK.out]; exact T9.out.below (Drw.below ⟨_, rfl⟩), C9.out.trans ((Chg.refl _ _).drewN _)⟩
set_option maxHeartbeats 4000000 in
set_option maxRecDepth 100000 in
theorem take1 (r1 B1 r2 B2 : Nat) (s : RS) (w : World) (h : Two w r1 B1 r2 B2 s) : Calls Try.prog 21 #[.pointer (some ⟨r1, 0, none⟩), .pointer (some ⟨r2, 0, none⟩), .int .i64 1] w (TakePost 1 r1 B1 r2 B2 s w) := by
  obtain ⟨v1, h1⟩ := h.rd
  obtain ⟨v2, h2⟩ := h.rf
  have K1 := Lib.hid (rBytes r1 B1 v1 s w h1)
  have H := Lib.hid h
  have H2 := Lib.hid h2
  clear h h1 h2
  go_enter Try.func21, Try.ntmps21
  go_wp2_with fail
  refine K1.out.mono ?_
  rintro e w1 ⟨vx, rfl, hx, v3, h3, g3⟩
  have hs1 := g3.size
  have rx := Rdv.of_owns (enc := u8v) (xs := (bytesS s).1) hx
  have hxr : ∀ b o n c, vx = .slice (some ⟨b, o, none⟩) n c → ¬ b = r2 := fun b o n c e => by subst e; have := (hx.lt b rfl).1; have := H2.out.lt; omega
  have RX := Lib.hid rx
  have HXR := Lib.hid hxr
  have K2 := Lib.hid (fBytes r2 B2 v2 s w1 (H2.out.chg g3 (Ne.symm H.out.n12) (Ne.symm H.out.nb2)))
  have H3 := Lib.hid h3
  have G3 := Lib.hid g3
  clear h3 g3 K1
  go_wp2_with fail
  refine K2.out.mono ?_
  rintro e w9 ⟨vy, rfl, hy, v4, h4, g4⟩
  have rx9 := RX.out.chg g4 HXR.out
  have ry9 := Rdv.of_owns (enc := u8v) (xs := (bytesS s).1) hy
  have kx := conv_rdv (P := Try.prog) 24 5 Try.underlying24 Try.underlying5 rx9 9 Try.underlying9
  have ky := conv_rdv (P := Try.prog) 24 5 Try.underlying24 Try.underlying5 ry9 9 Try.underlying9
  obtain ⟨t9, c9⟩ := H.out.step H3.out G3.out h4 g4
  have T9 := Lib.hid t9
  have C9 := Lib.hid c9
  clear h4 g4 K2 t9 c9
  clear hx rx hxr hy rx9 ry9
  generalize (bytesS s).1 = q at *
  obtain ⟨u1, hR1⟩ := T9.out.rd
  obtain ⟨u2, hR2⟩ := T9.out.rf
  have pq0 : w9.cell? ⟨r2, 0, none⟩ = some u2 := hR2.blk.cell (o := 0) rfl
  have pq1 := hR2.blk.cell (o := 1) rfl
  have pqz := hR2.lt
  obtain ⟨ua, un, uc, rfl⟩ := hR2.rdv.shape
  obtain ⟨hun, _, _, _⟩ := hR2.rdv.cap
  have KL := Lib.hid (fun n => rLeft r1 B1 u1 _ _ (hR1.below (Drw.below ⟨n, rfl⟩ : Below w9.heap.size w9 (w9.drewN n))))
  have KE := Lib.hid (fun n => rErr r1 B1 u1 _ _ (hR1.below (Drw.below ⟨n, rfl⟩ : Below w9.heap.size w9 (w9.drewN n))))
  have hTK : takeS 1 s = ((bytesS s).2) := rfl
  generalize ((bytesS s).2) = s9 at *
  have HTK := Lib.hid hTK
  subst hun
  clear hR1 hR2 hTK
  rcases s9 with _ | l9
  · have pq1' : w9.cell? ⟨r2, 1, none⟩ = some (.bool true) := pq1
    clear pq1
    go_wp2
    go_quiet ((first | (go_at_call 18; exact quiS (KL.out _)) | (go_at_call 17; exact quiS (KE.out _))))
    go_wp2
    go_ret
    exact ⟨rfl, by rw [HTK.out]; exact T9.out.below (Drw.below ⟨_, rfl⟩), C9.out.trans ((Chg.refl _ _).drewN _)⟩
  · have pq1' : w9.cell? ⟨r2, 1, none⟩ = some (.bool false) := pq1
    clear pq1
    simp only [Option.getD_some] at *
    have KL2 : Hid (∀ n, Calls Try.prog 18 #[.pointer (some ⟨r1, 0, none⟩)] (w9.drewN n) fun e w' => e = .returned (.int .i64 (l9.length : Int)) ∧ w9.drewN n = w') := Lib.hid KL.out
    have KE2 : Hid (∀ n, Calls Try.prog 17 #[.pointer (some ⟨r1, 0, none⟩)] (w9.drewN n) fun e w' => e = .returned (.int .i64 0) ∧ w9.drewN n = w') := Lib.hid KE.out
    have hle : ((l9.length : Int) == (l9.length : Int)) = true := by simp
    clear KL KE
    go_wp2
    go_quiet ((first | (go_at_call 18; exact quiS (KL2.out _)) | (go_at_call 17; exact quiS (KE2.out _))))
    go_wp2
    go_ret
    exact ⟨rfl, by rw [HTK.out]; exact T9.out.below (Drw.below ⟨_, rfl⟩), C9.out.trans ((Chg.refl _ _).drewN _)⟩
set_option maxHeartbeats 4000000 in
set_option maxRecDepth 100000 in
theorem take2 (r1 B1 r2 B2 : Nat) (s : RS) (w : World) (h : Two w r1 B1 r2 B2 s) : Calls Try.prog 21 #[.pointer (some ⟨r1, 0, none⟩), .pointer (some ⟨r2, 0, none⟩), .int .i64 2] w (TakePost 2 r1 B1 r2 B2 s w) := by
  obtain ⟨v1, h1⟩ := h.rd
  obtain ⟨v2, h2⟩ := h.rf
  have K1 := Lib.hid (rText r1 B1 v1 s w h1)
  have H := Lib.hid h
  have H2 := Lib.hid h2
  clear h h1 h2
  go_enter Try.func21, Try.ntmps21
  go_wp2_with fail
  refine K1.out.mono ?_
  rintro e w1 ⟨rfl, v3, h3, g3⟩
  have K2 := Lib.hid (fBytes r2 B2 v2 s w1 (H2.out.chg g3 (Ne.symm H.out.n12) (Ne.symm H.out.nb2)))
  have H3 := Lib.hid h3
  have G3 := Lib.hid g3
  clear h3 g3 K1
  go_wp2_with fail
  refine K2.out.mono ?_
  rintro e w9 ⟨vy, rfl, hy, v4, h4, g4⟩
  have ry9 := Rdv.of_owns (enc := u8v) (xs := (bytesS s).1) hy
  have ky := conv_rdv (P := Try.prog) 24 5 Try.underlying24 Try.underlying5 ry9 9 Try.underlying9
  obtain ⟨t9, c9⟩ := H.out.step H3.out G3.out h4 g4
  have T9 := Lib.hid t9
  have C9 := Lib.hid c9
  clear h4 g4 K2 t9 c9
  clear hy ry9
  generalize (bytesS s).1 = q at *
  obtain ⟨u1, hR1⟩ := T9.out.rd
  obtain ⟨u2, hR2⟩ := T9.out.rf
  have pq0 : w9.cell? ⟨r2, 0, none⟩ = some u2 := hR2.blk.cell (o := 0) rfl
  have pq1 := hR2.blk.cell (o := 1) rfl
  have pqz := hR2.lt
  obtain ⟨ua, un, uc, rfl⟩ := hR2.rdv.shape
  obtain ⟨hun, _, _, _⟩ := hR2.rdv.cap
  have KL := Lib.hid (fun n => rLeft r1 B1 u1 _ _ (hR1.below (Drw.below ⟨n, rfl⟩ : Below w9.heap.size w9 (w9.drewN n))))
  have KE := Lib.hid (fun n => rErr r1 B1 u1 _ _ (hR1.below (Drw.below ⟨n, rfl⟩ : Below w9.heap.size w9 (w9.drewN n))))
  have hTK : takeS 2 s = ((bytesS s).2) := rfl
  generalize ((bytesS s).2) = s9 at *
  have HTK := Lib.hid hTK
  subst hun
  clear hR1 hR2 hTK
  rcases s9 with _ | l9
  · have pq1' : w9.cell? ⟨r2, 1, none⟩ = some (.bool true) := pq1
    clear pq1
    go_wp2
    go_quiet ((first | (go_at_call 18; exact quiS (KL.out _)) | (go_at_call 17; exact quiS (KE.out _))))
    go_wp2
    go_ret
    exact ⟨rfl, by rw [HTK.out]; exact T9.out.below (Drw.below ⟨_, rfl⟩), C9.out.trans ((Chg.refl _ _).drewN _)⟩
  · have pq1' : w9.cell? ⟨r2, 1, none⟩ = some (.bool false) := pq1
    clear pq1
    simp only [Option.getD_some] at *
    have KL2 : Hid (∀ n, Calls Try.prog 18 #[.pointer (some ⟨r1, 0, none⟩)] (w9.drewN n) fun e w' => e = .returned (.int .i64 (l9.length : Int)) ∧ w9.drewN n = w') := Lib.hid KL.out
    have KE2 : Hid (∀ n, Calls Try.prog 17 #[.pointer (some ⟨r1, 0, none⟩)] (w9.drewN n) fun e w' => e = .returned (.int .i64 0) ∧ w9.drewN n = w') := Lib.hid KE.out
    have hle : ((l9.length : Int) == (l9.length : Int)) = true := by simp
    clear KL KE
    go_wp2
    go_quiet ((first | (go_at_call 18; exact quiS (KL2.out _)) | (go_at_call 17; exact quiS (KE2.out _))))
    go_wp2
    go_ret
    exact ⟨rfl, by rw [HTK.out]; exact T9.out.below (Drw.below ⟨_, rfl⟩), C9.out.trans ((Chg.refl _ _).drewN _)⟩
set_option maxHeartbeats 4000000 in
set_option maxRecDepth 100000 in
theorem take3 (r1 B1 r2 B2 : Nat) (s : RS) (w : World) (h : Two w r1 B1 r2 B2 s) : Calls Try.prog 21 #[.pointer (some ⟨r1, 0, none⟩), .pointer (some ⟨r2, 0, none⟩), .int .i64 3] w (TakePost 3 r1 B1 r2 B2 s w) := by
  obtain ⟨v1, h1⟩ := h.rd
  obtain ⟨v2, h2⟩ := h.rf
  have K1 := Lib.hid (rTruth r1 B1 v1 s w h1)
  have H := Lib.hid h
  have H2 := Lib.hid h2
  clear h h1 h2
  go_enter Try.func21, Try.ntmps21
  go_wp2_with fail
  refine K1.out.mono ?_
  rintro e w1 ⟨rfl, v3, h3, g3⟩
  have K2 := Lib.hid (fTruth r2 B2 v2 s w1 (H2.out.chg g3 (Ne.symm H.out.n12) (Ne.symm H.out.nb2)))
  have H3 := Lib.hid h3
  have G3 := Lib.hid g3
  clear h3 g3 K1
  go_wp2_with fail
  refine K2.out.mono ?_
  rintro e w9 ⟨rfl, v4, h4, g4⟩
  obtain ⟨t9, c9⟩ := H.out.step H3.out G3.out h4 g4
  have T9 := Lib.hid t9
  have C9 := Lib.hid c9
  clear h4 g4 K2 t9 c9
  generalize (truthS s).1 = q at *
  obtain ⟨u1, hR1⟩ := T9.out.rd
  obtain ⟨u2, hR2⟩ := T9.out.rf
  have pq0 : w9.cell? ⟨r2, 0, none⟩ = some u2 := hR2.blk.cell (o := 0) rfl
  have pq1 := hR2.blk.cell (o := 1) rfl
  have pqz := hR2.lt
  obtain ⟨ua, un, uc, rfl⟩ := hR2.rdv.shape
  obtain ⟨hun, _, _, _⟩ := hR2.rdv.cap
  have KL := Lib.hid (fun n => rLeft r1 B1 u1 _ _ (hR1.below (Drw.below ⟨n, rfl⟩ : Below w9.heap.size w9 (w9.drewN n))))
  have KE := Lib.hid (fun n => rErr r1 B1 u1 _ _ (hR1.below (Drw.below ⟨n, rfl⟩ : Below w9.heap.size w9 (w9.drewN n))))
  have hTK : takeS 3 s = ((truthS s).2) := rfl
  generalize ((truthS s).2) = s9 at *
  have HTK := Lib.hid hTK
  subst hun
  clear hR1 hR2 hTK
  rcases s9 with _ | l9
  · have pq1' : w9.cell? ⟨r2, 1, none⟩ = some (.bool true) := pq1
    clear pq1
    go_wp2
    go_quiet ((first | (go_at_call 18; exact quiS (KL.out _)) | (go_at_call 17; exact quiS (KE.out _))))
    go_wp2
    go_ret
    exact ⟨rfl, by rw [HTK.out]; exact T9.out.below (Drw.below ⟨_, rfl⟩), C9.out.trans ((Chg.refl _ _).drewN _)⟩
  · have pq1' : w9.cell? ⟨r2, 1, none⟩ = some (.bool false) := pq1
    clear pq1
    simp only [Option.getD_some] at *
    have KL2 : Hid (∀ n, Calls Try.prog 18 #[.pointer (some ⟨r1, 0, none⟩)] (w9.drewN n) fun e w' => e = .returned (.int .i64 (l9.length : Int)) ∧ w9.drewN n = w') := Lib.hid KL.out
    have KE2 : Hid (∀ n, Calls Try.prog 17 #[.pointer (some ⟨r1, 0, none⟩)] (w9.drewN n) fun e w' => e = .returned (.int .i64 0) ∧ w9.drewN n = w') := Lib.hid KE.out
    have hle : ((l9.length : Int) == (l9.length : Int)) = true := by simp
    clear KL KE
    go_wp2
    go_quiet ((first | (go_at_call 18; exact quiS (KL2.out _)) | (go_at_call 17; exact quiS (KE2.out _))))
    go_wp2
    go_ret
    exact ⟨rfl, by rw [HTK.out]; exact T9.out.below (Drw.below ⟨_, rfl⟩), C9.out.trans ((Chg.refl _ _).drewN _)⟩
end Go.Proofs.Ythbalmoafpggdaa

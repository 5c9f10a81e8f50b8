/- Operations: ops.Decode. -/
import Derived.Test.YthbalmoafpggdaaGreatChecked
import Derived.WalkKit
import Derived.Outline
import Derived.WalkSpells
import Derived.WalkLawsBesides
import Derived.Deep.QuietTactic
import Derived.Deep.RegionWith
import Derived.Deep.DeepMust
import Derived.BigQuiet
import Derived.RegionTactic
import Derived.ChangeAlike
import Derived.StillTailTactics
import Derived.Deep.LoopGhost
import Derived.Test.YthbalmoafpggdaaGreatM1
import Derived.Test.YthbalmoafpggdaaGreatM8
import Derived.Test.YthbalmoafpggdaaGreatM3
namespace Go.Proofs.YthbalmoafpggdaaGreat
open Go.RowKit
set_option linter.unusedVariables false
set_option linter.unusedSimpArgs false
/-- What is read: the number of the kind, the operation, what is left. -/
def decR (l : List Int) : Nat × Opr × RS :=
  let a1 := numS (some l)
  let a2 := idS a1.2
  let a3 := numS a2.2
  let a4 := idS a3.2
  let a5 := idS a4.2
  let a6 := bytesS a5.2
  let a7 := bytesS a6.2
  let a8 := vecS a7.2
  (a1.1, ⟨a2.1.1, a2.1.2, a3.1, a1.1, a4.1.1, a4.1.2, a5.1.1, a5.1.2, strOfNums a6.1, a7.1, a8.1⟩, a8.2)
def decB (l : List Int) : Bool := decide ((decR l).2.2 = some []) && mayB (decR l).2.1
def decO (l : List Int) : Opr := (decR l).2.1
theorem may_kind {o : Opr} (h : mayB o = true) : 1 ≤ o.kind ∧ o.kind ≤ 4 := by
  unfold mayB at h
  rw [Bool.and_eq_true] at h
  have h5 := h.2
  unfold kindB at h5
  by_cases k1 : o.kind = 1 ∨ o.kind = 2
  · omega
  rw [if_neg k1] at h5
  by_cases k3 : o.kind = 3
  · omega
  rw [if_neg k3] at h5
  by_cases k4 : o.kind = 4
  · omega
  · rw [if_neg k4] at h5; cases h5
theorem bytesS_len (s : RS) : (bytesS s).1.length ≤ 65536 := by
  unfold bytesS
  rcases numS s with ⟨n, _ | l⟩
  · simp
  · simp only
    split
    · simp
    · simp; omega
/-- While an operation is read: the result's block R stands as it was made. -/
structure DecM (w : World) (R : Nat) (cs : Array Value) (r B : Nat) (v : Value) (s : RS) (w' : World) : Prop where
  rd : Rd w' r B v s
  inB : B < w'.heap.size
  bel : Below w.heap.size w w'
  blk : Blk w' R cs 46
  ord : w.heap.size ≤ R ∧ R < r
theorem DecM.step {w w1 w2 : World} {R r B : Nat} {cs : Array Value} {v : Value} {s s' : RS} (h : DecM w R cs r B v s w1) (hs : RStep r B w1 s' w2) : ∃ v', DecM w R cs r B v' s' w2 := by
  obtain ⟨v', h1, h2⟩ := hs
  have ho := h.ord
  exact ⟨v', h1, Nat.lt_of_lt_of_le h.inB h2.size, h2.below_trans h.bel h.bel.size (fun i hi e => by omega), h2.blk h.blk (by omega), ho⟩
theorem own_rstep {w w' : World} {r B b e n : Nat} {s' : RS} {v : Value} {xs : List Value} (h : w.ownsRow b e 1 v n xs) (hs : RStep r B w s' w') (hr : r < b) : w'.ownsRow b e 1 v n xs := by
  obtain ⟨v', _, h2⟩ := hs
  refine ownsRow_chg h h2 (fun g hg e => ?_)
  rcases h.2 with ⟨h3, _⟩ | ⟨g', c, cur, h3, h4, _⟩
  · rw [h3] at hg; simp [Value.ownBlock] at hg
  · rw [h3] at hg; simp [Value.ownBlock] at hg; omega
def DStep (w : World) (R : Nat) (cs : Array Value) (r B : Nat) (s' : RS) (w' : World) : Prop := ∃ v', DecM w R cs r B v' s' w'
theorem dNum {w w1 : World} {R r B : Nat} {cs : Array Value} {v : Value} {s : RS} (h : DecM w R cs r B v s w1) {n : Nat} {s' : RS} (hq : numS s = (n, s')) : Calls Tryz.prog 36 #[.pointer (some ⟨r, 0, none⟩)] w1 fun e w' => e = .returned (.int .i64 (n : Nat)) ∧ DStep w R cs r B s' w' ∧ RStep r B w1 s' w' := by
  refine (rNum r B v s w1 h.rd).mono ?_
  rintro e w2 ⟨he, hs⟩
  rw [hq] at he hs
  exact ⟨he, h.step hs, hs⟩
theorem dID {w w1 : World} {R r B : Nat} {cs : Array Value} {v : Value} {s : RS} (h : DecM w R cs r B v s w1) {t n : Nat} {s' : RS} (hq : idS s = ((t, n), s')) : Calls Tryz.prog 80 #[.pointer (some ⟨r, 0, none⟩)] w1 fun e w' => e = .returned (.agg #[.int .i64 (t : Nat), .int .i64 (n : Nat)]) ∧ DStep w R cs r B s' w' ∧ RStep r B w1 s' w' := by
  refine (rID r B v s w1 h.rd h.inB).mono ?_
  rintro e w2 ⟨he, hs⟩
  rw [hq] at he hs
  exact ⟨he, h.step hs, hs⟩
theorem dText {w w1 : World} {R r B : Nat} {cs : Array Value} {v : Value} {s : RS} (h : DecM w R cs r B v s w1) {n : List Int} {s' : RS} (hq : bytesS s = (n, s')) : Calls Tryz.prog 81 #[.pointer (some ⟨r, 0, none⟩)] w1 fun e w' => e = .returned (.string (strOfNums n)) ∧ DStep w R cs r B s' w' ∧ RStep r B w1 s' w' := by
  refine (rText r B v s w1 h.rd).mono ?_
  rintro e w2 ⟨he, hs⟩
  rw [hq] at he hs
  exact ⟨he, h.step hs, hs⟩
theorem dBytes {w w1 : World} {R r B : Nat} {cs : Array Value} {v : Value} {s : RS} (h : DecM w R cs r B v s w1) {n : List Int} {s' : RS} (hq : bytesS s = (n, s')) : Calls Tryz.prog 82 #[.pointer (some ⟨r, 0, none⟩)] w1 fun e w' => ∃ u, e = .returned u ∧ w'.ownsRow w1.heap.size 5 1 u n.length (n.map u8v) ∧ DStep w R cs r B s' w' ∧ RStep r B w1 s' w' := by
  refine (rBytes r B v s w1 h.rd).mono ?_
  rintro e w2 ⟨u, he, hf, hs⟩
  rw [hq] at hs hf
  exact ⟨u, he, hf, h.step hs, hs⟩
theorem dVec {w w1 : World} {R r B : Nat} {cs : Array Value} {v : Value} {s : RS} (h : DecM w R cs r B v s w1) {n : List Int} {s' : RS} (hq : vecS s = (n, s')) : Calls Tryz.prog 38 #[.pointer (some ⟨r, 0, none⟩)] w1 fun e w' => ∃ u, e = .returned u ∧ w'.ownsRow w1.heap.size 2 1 u n.length (n.map i64v) ∧ DStep w R cs r B s' w' ∧ RStep r B w1 s' w' := by
  refine (rVector r B v s w1 h.rd h.inB).mono ?_
  rintro e w2 ⟨u, he, hf, hs⟩
  rw [hq] at hs hf
  exact ⟨u, he, hf, h.step hs, hs⟩
theorem chg11 (w : World) (R : Nat) (c0 c1 c2 c3 c4 c5 c6 c7 c8 c9 c10 : Value) : Chg (· = R) w (((((((((((w.setCell ⟨R, 0, none⟩ c0).setCell ⟨R, 1, none⟩ c1).setCell ⟨R, 2, none⟩ c2).setCell ⟨R, 3, none⟩ c3).setCell ⟨R, 4, none⟩ c4).setCell ⟨R, 5, none⟩ c5).setCell ⟨R, 6, none⟩ c6).setCell ⟨R, 7, none⟩ c7).setCell ⟨R, 8, none⟩ c8).setCell ⟨R, 9, none⟩ c9).setCell ⟨R, 10, none⟩ c10) := Chg.set (S := (· = R)) (Chg.set (S := (· = R)) (Chg.set (S := (· = R)) (Chg.set (S := (· = R)) (Chg.set (S := (· = R)) (Chg.set (S := (· = R)) (Chg.set (S := (· = R)) (Chg.set (S := (· = R)) (Chg.set (S := (· = R)) (Chg.set (S := (· = R)) (Chg.set (S := (· = R)) (Chg.refl _ _) (p := ⟨R, 0, none⟩) (fun _ => rfl) c0) (p := ⟨R, 1, none⟩) (fun _ => rfl) c1) (p := ⟨R, 2, none⟩) (fun _ => rfl) c2) (p := ⟨R, 3, none⟩) (fun _ => rfl) c3) (p := ⟨R, 4, none⟩) (fun _ => rfl) c4) (p := ⟨R, 5, none⟩) (fun _ => rfl) c5) (p := ⟨R, 6, none⟩) (fun _ => rfl) c6) (p := ⟨R, 7, none⟩) (fun _ => rfl) c7) (p := ⟨R, 8, none⟩) (fun _ => rfl) c8) (p := ⟨R, 9, none⟩) (fun _ => rfl) c9) (p := ⟨R, 10, none⟩) (fun _ => rfl) c10
theorem own_chgR {w w' : World} {R b e n : Nat} {v : Value} {xs : List Value} (h : w.ownsRow b e 1 v n xs) (g : Chg (· = R) w w') (hr : R < b) : w'.ownsRow b e 1 v n xs := by
  refine ownsRow_chg h g (fun k hg e => ?_)
  rcases h.2 with ⟨h3, _⟩ | ⟨g', c, cur, h3, h4, _⟩
  · rw [h3] at hg; simp [Value.ownBlock] at hg
  · rw [h3] at hg; simp [Value.ownBlock] at hg; omega
/-- What Decode gives; the operation's rows lie in blocks of its own. -/
def DecPost (l : List Int) (w : World) (e : Ending) (w' : World) : Prop :=
  if decB l = true then ∃ d s, e = .returned (.tuple #[.agg #[.int .i64 ((decO l)).time, .int .i64 ((decO l)).node, .int .i64 ((decO l)).seq, .int .i64 ((decO l)).kind, .int .i64 ((decO l)).ot, .int .i64 ((decO l)).on, .int .i64 ((decO l)).pt, .int .i64 ((decO l)).pn, .string ((decO l)).name, d, s], .int .i64 0]) ∧ w'.ownsRow w.heap.size 5 1 d (decO l).data.length ((decO l).data.map u8v) ∧ w'.ownsRow w.heap.size 2 1 s (decO l).seen.length ((decO l).seen.map i64v) ∧ Below w.heap.size w w'
  else e = .returned (.tuple #[.agg #[.int .i64 0, .int .i64 0, .int .i64 0, .int .i64 0, .int .i64 0, .int .i64 0, .int .i64 0, .int .i64 0, .string ByteArray.empty, .slice none 0 0, .slice none 0 0], .int .i64 74]) ∧ Below w.heap.size w w'
set_option maxHeartbeats 4000000 in
set_option maxRecDepth 100000 in
theorem opsDecode (x : Value) (l : List Int) (w : World) (hx : Rdv u8v w x l) (hb : Byt l) (hl : l.length ≤ 100000000000) :
    Calls Tryz.prog 41 #[x] w (DecPost l w) := by
  have KN := Lib.hid (fun w' hw => rNew x l w' (hx.below hw) hb hl : ∀ w', Below w.heap.size w w' → _)
  clear hx
  obtain ⟨n1, s1, q1⟩ : ∃ n s, numS (some l) = (n, s) := ⟨_, _, rfl⟩
  obtain ⟨t2, nd2, s2, q2⟩ : ∃ t n s, idS s1 = ((t, n), s) := ⟨_, _, _, rfl⟩
  obtain ⟨n3, s3, q3⟩ : ∃ n s, numS s2 = (n, s) := ⟨_, _, rfl⟩
  obtain ⟨t4, nd4, s4, q4⟩ : ∃ t n s, idS s3 = ((t, n), s) := ⟨_, _, _, rfl⟩
  obtain ⟨t5, nd5, s5, q5⟩ : ∃ t n s, idS s4 = ((t, n), s) := ⟨_, _, _, rfl⟩
  obtain ⟨b6, s6, q6⟩ : ∃ n s, bytesS s5 = (n, s) := ⟨_, _, rfl⟩
  obtain ⟨b7, s7, q7⟩ : ∃ n s, bytesS s6 = (n, s) := ⟨_, _, rfl⟩
  obtain ⟨b8, s8, q8⟩ : ∃ n s, vecS s7 = (n, s) := ⟨_, _, rfl⟩
  have hR : Hid (decR l = (n1, ⟨t2, nd2, n3, n1, t4, nd4, t5, nd5, strOfNums b6, b7, b8⟩, s8)) := Lib.hid (by unfold decR; simp only [q1, q2, q3, q4, q5, q6, q7, q8])
  have hn1 := numS_bd (some l)
  rw [q1] at hn1
  simp only at hn1
  have Q1 := Lib.hid q1
  have Q2 := Lib.hid q2
  have Q3 := Lib.hid q3
  have Q4 := Lib.hid q4
  have Q5 := Lib.hid q5
  have Q6 := Lib.hid q6
  have Q7 := Lib.hid q7
  have Q8 := Lib.hid q8
  have hb6 : Hid ((strOfNums b6).size < 4294967281) := Lib.hid (by have := bytesS_len s5; rw [q6] at this; rw [strOfNums_size]; simp only at this; omega)
  clear q1 q2 q3 q4 q5 q6 q7 q8 hb
  go_enter Tryz.func41, Tryz.ntmps41
  go_wp2_with fail
  refine (KN.out _ ((Below.refl _ _).alloc (Nat.le_refl _) _)).mono ?_
  rintro e w0 ⟨r, B, v0, rfl, hr1, hB1, hB2, hrd, hb0⟩
  have M0 : Hid (DecM w w.heap.size #[.int .i64 0, .int .i64 0, .int .i64 0, .int .i64 0, .int .i64 0, .int .i64 0, .int .i64 0, .int .i64 0, .string ByteArray.empty, .slice none 0 0, .slice none 0 0] r B v0 (some l) w0) := Lib.hid ⟨hrd, hB2, ((Below.refl w.heap.size w).alloc (Nat.le_refl _) (.cells #[.int .i64 0, .int .i64 0, .int .i64 0, .int .i64 0, .int .i64 0, .int .i64 0, .int .i64 0, .int .i64 0, .string ByteArray.empty, .slice none 0 0, .slice none 0 0] 46)).trans (hb0.mono (by simp)), blkBelow hb0 (Blk.new _ _ _) (Blk.new _ _ _).lt, ⟨Nat.le_refl _, by simp at hr1; omega⟩⟩
  clear hr1 hB1 hB2 hrd hb0 KN
  go_wp2_with fail
  refine (dNum M0.out Q1.out).mono ?_
  rintro e w1 ⟨rfl, ⟨v1, hM1⟩, hR1⟩
  have M1 := Lib.hid hM1
  have Rs1 := Lib.hid hR1
  clear hM1 hR1
  go_wp2_with fail
  refine (dID M1.out Q2.out).mono ?_
  rintro e w2 ⟨rfl, ⟨v2, hM2⟩, hR2⟩
  have M2 := Lib.hid hM2
  have Rs2 := Lib.hid hR2
  clear hM2 hR2
  go_wp2_with fail
  refine (dNum M2.out Q3.out).mono ?_
  rintro e w3 ⟨rfl, ⟨v3, hM3⟩, hR3⟩
  have M3 := Lib.hid hM3
  have Rs3 := Lib.hid hR3
  clear hM3 hR3
  go_wp2_with fail
  refine (dID M3.out Q4.out).mono ?_
  rintro e w4 ⟨rfl, ⟨v4, hM4⟩, hR4⟩
  have M4 := Lib.hid hM4
  have Rs4 := Lib.hid hR4
  clear hM4 hR4
  go_wp2_with fail
  refine (dID M4.out Q5.out).mono ?_
  rintro e w5 ⟨rfl, ⟨v5, hM5⟩, hR5⟩
  have M5 := Lib.hid hM5
  have Rs5 := Lib.hid hR5
  clear hM5 hR5
  go_wp2_with fail
  refine (dText M5.out Q6.out).mono ?_
  rintro e w6 ⟨rfl, ⟨v6, hM6⟩, hR6⟩
  have M6 := Lib.hid hM6
  have Rs6 := Lib.hid hR6
  clear hM6 hR6
  go_wp2_with fail
  refine (dBytes M6.out Q7.out).mono ?_
  rintro e w7 ⟨d, rfl, hd7, ⟨v7, hM7⟩, _⟩
  obtain ⟨da, dc, rfl, _, _, _⟩ := own_shape hd7
  have M7 := Lib.hid hM7
  have HD7 := Lib.hid hd7
  clear hM7 hd7
  go_wp2_with fail
  refine (dVec M7.out Q8.out).mono ?_
  rintro e w8 ⟨s, rfl, hs8, ⟨v8, hM8⟩, hR8⟩
  obtain ⟨sa, sc, rfl, _, _, _⟩ := own_shape hs8
  have M8 := Lib.hid hM8
  have HS8 := Lib.hid hs8
  have HD8 := Lib.hid (own_rstep HD7.out hR8 M6.out.rd.lt)
  have z6 := M6.out.blk.lt
  have z7 := M7.out.blk.lt
  clear hM8 hs8 hR8 HD7
  have hbad : Hid (decB l = false → ∀ e w', (e = .returned (.tuple #[.agg #[.int .i64 0, .int .i64 0, .int .i64 0, .int .i64 0, .int .i64 0, .int .i64 0, .int .i64 0, .int .i64 0, .string ByteArray.empty, .slice none 0 0, .slice none 0 0], .int .i64 74]) ∧ Below w.heap.size w w') → DecPost l w e w') := Lib.hid (fun h e w' h2 => by unfold DecPost; rw [h]; exact h2)
  have HBD := Lib.hid M8.out.bel
  by_cases hk : n1 ≤ 4
  · have hk1 : (n1 : Int) ≤ 4 := by omega
    have KD := Lib.hid (fun w' hw => rDone r B v8 s8 w' (M8.out.rd.below hw) : ∀ w', Below w8.heap.size w8 w' → _)
    by_cases hs8 : s8 = some []
    · have e8 : doneS s8 = 0 := by unfold doneS; rw [if_pos hs8]
      rw [e8] at KD
      clear e8
      have KM := Lib.hid (fun w' hw => opsMay (⟨t2, nd2, n3, n1, t4, nd4, t5, nd5, strOfNums b6, b7, b8⟩ : Opr) (.slice da b7.length dc) (.slice sa b8.length sc) w' ((Rdv.of_owns HD8.out).below hw) ((Rdv.of_owns HS8.out).below hw) hb6.out : ∀ w', Below w8.heap.size w8 w' → _)
      cases hm : mayB (⟨t2, nd2, n3, n1, t4, nd4, t5, nd5, strOfNums b6, b7, b8⟩ : Opr)
      · rw [hm] at KM
        have HB : Hid (decB l = false) := Lib.hid (by unfold decB; rw [hR.out]; simp only; rw [hm]; simp)
        clear hm hs8
        go_wp2_with fail
        refine (KD.out _ ((Below.refl _ _).alloc (Nat.le_refl _) _)).mono ?_
        rintro e w9 ⟨rfl, rfl⟩
        go_wp2_with fail
        refine (KM.out _ ((Below.refl _ _).alloc (Nat.le_refl _) _)).mono ?_
        rintro e w10 ⟨rfl, hb10⟩
        have hA := (Below.refl w8.heap.size w8).alloc (Nat.le_refl _) (.cells #[.int .i64 t2, .int .i64 nd2, .int .i64 n3, .int .i64 n1, .int .i64 t4, .int .i64 nd4, .int .i64 t5, .int .i64 nd5, .string (strOfNums b6), .slice da b7.length dc, .slice sa b8.length sc] 46)
        have hB10 := hA.trans (hb10.mono (by simp))
        have BX : Blk w10 w8.heap.size #[.int .i64 t2, .int .i64 nd2, .int .i64 n3, .int .i64 n1, .int .i64 t4, .int .i64 nd4, .int .i64 t5, .int .i64 nd5, .string (strOfNums b6), .slice da b7.length dc, .slice sa b8.length sc] 46 := blkBelow hb10 (Blk.new _ _ _) (Blk.new _ _ _).lt
        have x_0 : w10.cell? ⟨w8.heap.size, 0, none⟩ = some (.int .i64 t2) := BX.cell (o := 0) rfl
        have x_1 : w10.cell? ⟨w8.heap.size, 1, none⟩ = some (.int .i64 nd2) := BX.cell (o := 1) rfl
        have x_2 : w10.cell? ⟨w8.heap.size, 2, none⟩ = some (.int .i64 n3) := BX.cell (o := 2) rfl
        have x_3 : w10.cell? ⟨w8.heap.size, 3, none⟩ = some (.int .i64 n1) := BX.cell (o := 3) rfl
        have x_4 : w10.cell? ⟨w8.heap.size, 4, none⟩ = some (.int .i64 t4) := BX.cell (o := 4) rfl
        have x_5 : w10.cell? ⟨w8.heap.size, 5, none⟩ = some (.int .i64 nd4) := BX.cell (o := 5) rfl
        have x_6 : w10.cell? ⟨w8.heap.size, 6, none⟩ = some (.int .i64 t5) := BX.cell (o := 6) rfl
        have x_7 : w10.cell? ⟨w8.heap.size, 7, none⟩ = some (.int .i64 nd5) := BX.cell (o := 7) rfl
        have x_8 : w10.cell? ⟨w8.heap.size, 8, none⟩ = some (.string (strOfNums b6)) := BX.cell (o := 8) rfl
        have x_9 : w10.cell? ⟨w8.heap.size, 9, none⟩ = some (.slice da b7.length dc) := BX.cell (o := 9) rfl
        have x_10 : w10.cell? ⟨w8.heap.size, 10, none⟩ = some (.slice sa b8.length sc) := BX.cell (o := 10) rfl
        have RB := Lib.hid (blkBelow hB10 M8.out.blk M8.out.blk.lt)
        have e_0 : w10.cell? ⟨w.heap.size, 0, none⟩ = some (.int .i64 0) := RB.out.cell (o := 0) rfl
        have f_0 := RB.out.free 0
        have e_1 : w10.cell? ⟨w.heap.size, 1, none⟩ = some (.int .i64 0) := RB.out.cell (o := 1) rfl
        have f_1 := RB.out.free 1
        have e_2 : w10.cell? ⟨w.heap.size, 2, none⟩ = some (.int .i64 0) := RB.out.cell (o := 2) rfl
        have f_2 := RB.out.free 2
        have e_3 : w10.cell? ⟨w.heap.size, 3, none⟩ = some (.int .i64 0) := RB.out.cell (o := 3) rfl
        have f_3 := RB.out.free 3
        have e_4 : w10.cell? ⟨w.heap.size, 4, none⟩ = some (.int .i64 0) := RB.out.cell (o := 4) rfl
        have f_4 := RB.out.free 4
        have e_5 : w10.cell? ⟨w.heap.size, 5, none⟩ = some (.int .i64 0) := RB.out.cell (o := 5) rfl
        have f_5 := RB.out.free 5
        have e_6 : w10.cell? ⟨w.heap.size, 6, none⟩ = some (.int .i64 0) := RB.out.cell (o := 6) rfl
        have f_6 := RB.out.free 6
        have e_7 : w10.cell? ⟨w.heap.size, 7, none⟩ = some (.int .i64 0) := RB.out.cell (o := 7) rfl
        have f_7 := RB.out.free 7
        have e_8 : w10.cell? ⟨w.heap.size, 8, none⟩ = some (.string ByteArray.empty) := RB.out.cell (o := 8) rfl
        have f_8 := RB.out.free 8
        have e_9 : w10.cell? ⟨w.heap.size, 9, none⟩ = some (.slice none 0 0) := RB.out.cell (o := 9) rfl
        have f_9 := RB.out.free 9
        have e_10 : w10.cell? ⟨w.heap.size, 10, none⟩ = some (.slice none 0 0) := RB.out.cell (o := 10) rfl
        have f_10 := RB.out.free 10
        have B10 : Hid (Below w.heap.size w w10) := Lib.hid (HBD.out.trans (hB10.mono HBD.out.size))
        have HD10 := Lib.hid (ownsRow_below HD8.out hB10)
        have HS10 := Lib.hid (ownsRow_below HS8.out hB10)
        clear BX hb10 hA hB10 KD KM
        go_wp2
        exact bodyPost_ret (v := .tuple #[.agg #[.int .i64 0, .int .i64 0, .int .i64 0, .int .i64 0, .int .i64 0, .int .i64 0, .int .i64 0, .int .i64 0, .string ByteArray.empty, .slice none 0 0, .slice none 0 0], .int .i64 74]) (by simp [results, Tryz.results41, go_sem, *] <;> rfl) rfl (hbad.out HB.out _ _ ⟨rfl, Chg.below_trans B10.out (chg11 _ w.heap.size _ _ _ _ _ _ _ _ _ _ _) B10.out.size (fun i hi e => by omega)⟩)
      · rw [hm] at KM
        have HG : Hid (decB l = true) := Lib.hid (by unfold decB; rw [hR.out]; simp only; rw [hm, decide_eq_true hs8]; rfl)
        have HO : Hid (decO l = ⟨t2, nd2, n3, n1, t4, nd4, t5, nd5, strOfNums b6, b7, b8⟩) := Lib.hid (by unfold decO; rw [hR.out])
        clear hm hs8
        go_wp2_with fail
        refine (KD.out _ ((Below.refl _ _).alloc (Nat.le_refl _) _)).mono ?_
        rintro e w9 ⟨rfl, rfl⟩
        go_wp2_with fail
        refine (KM.out _ ((Below.refl _ _).alloc (Nat.le_refl _) _)).mono ?_
        rintro e w10 ⟨rfl, hb10⟩
        have hA := (Below.refl w8.heap.size w8).alloc (Nat.le_refl _) (.cells #[.int .i64 t2, .int .i64 nd2, .int .i64 n3, .int .i64 n1, .int .i64 t4, .int .i64 nd4, .int .i64 t5, .int .i64 nd5, .string (strOfNums b6), .slice da b7.length dc, .slice sa b8.length sc] 46)
        have hB10 := hA.trans (hb10.mono (by simp))
        have BX : Blk w10 w8.heap.size #[.int .i64 t2, .int .i64 nd2, .int .i64 n3, .int .i64 n1, .int .i64 t4, .int .i64 nd4, .int .i64 t5, .int .i64 nd5, .string (strOfNums b6), .slice da b7.length dc, .slice sa b8.length sc] 46 := blkBelow hb10 (Blk.new _ _ _) (Blk.new _ _ _).lt
        have x_0 : w10.cell? ⟨w8.heap.size, 0, none⟩ = some (.int .i64 t2) := BX.cell (o := 0) rfl
        have x_1 : w10.cell? ⟨w8.heap.size, 1, none⟩ = some (.int .i64 nd2) := BX.cell (o := 1) rfl
        have x_2 : w10.cell? ⟨w8.heap.size, 2, none⟩ = some (.int .i64 n3) := BX.cell (o := 2) rfl
        have x_3 : w10.cell? ⟨w8.heap.size, 3, none⟩ = some (.int .i64 n1) := BX.cell (o := 3) rfl
        have x_4 : w10.cell? ⟨w8.heap.size, 4, none⟩ = some (.int .i64 t4) := BX.cell (o := 4) rfl
        have x_5 : w10.cell? ⟨w8.heap.size, 5, none⟩ = some (.int .i64 nd4) := BX.cell (o := 5) rfl
        have x_6 : w10.cell? ⟨w8.heap.size, 6, none⟩ = some (.int .i64 t5) := BX.cell (o := 6) rfl
        have x_7 : w10.cell? ⟨w8.heap.size, 7, none⟩ = some (.int .i64 nd5) := BX.cell (o := 7) rfl
        have x_8 : w10.cell? ⟨w8.heap.size, 8, none⟩ = some (.string (strOfNums b6)) := BX.cell (o := 8) rfl
        have x_9 : w10.cell? ⟨w8.heap.size, 9, none⟩ = some (.slice da b7.length dc) := BX.cell (o := 9) rfl
        have x_10 : w10.cell? ⟨w8.heap.size, 10, none⟩ = some (.slice sa b8.length sc) := BX.cell (o := 10) rfl
        have RB := Lib.hid (blkBelow hB10 M8.out.blk M8.out.blk.lt)
        have e_0 : w10.cell? ⟨w.heap.size, 0, none⟩ = some (.int .i64 0) := RB.out.cell (o := 0) rfl
        have f_0 := RB.out.free 0
        have e_1 : w10.cell? ⟨w.heap.size, 1, none⟩ = some (.int .i64 0) := RB.out.cell (o := 1) rfl
        have f_1 := RB.out.free 1
        have e_2 : w10.cell? ⟨w.heap.size, 2, none⟩ = some (.int .i64 0) := RB.out.cell (o := 2) rfl
        have f_2 := RB.out.free 2
        have e_3 : w10.cell? ⟨w.heap.size, 3, none⟩ = some (.int .i64 0) := RB.out.cell (o := 3) rfl
        have f_3 := RB.out.free 3
        have e_4 : w10.cell? ⟨w.heap.size, 4, none⟩ = some (.int .i64 0) := RB.out.cell (o := 4) rfl
        have f_4 := RB.out.free 4
        have e_5 : w10.cell? ⟨w.heap.size, 5, none⟩ = some (.int .i64 0) := RB.out.cell (o := 5) rfl
        have f_5 := RB.out.free 5
        have e_6 : w10.cell? ⟨w.heap.size, 6, none⟩ = some (.int .i64 0) := RB.out.cell (o := 6) rfl
        have f_6 := RB.out.free 6
        have e_7 : w10.cell? ⟨w.heap.size, 7, none⟩ = some (.int .i64 0) := RB.out.cell (o := 7) rfl
        have f_7 := RB.out.free 7
        have e_8 : w10.cell? ⟨w.heap.size, 8, none⟩ = some (.string ByteArray.empty) := RB.out.cell (o := 8) rfl
        have f_8 := RB.out.free 8
        have e_9 : w10.cell? ⟨w.heap.size, 9, none⟩ = some (.slice none 0 0) := RB.out.cell (o := 9) rfl
        have f_9 := RB.out.free 9
        have e_10 : w10.cell? ⟨w.heap.size, 10, none⟩ = some (.slice none 0 0) := RB.out.cell (o := 10) rfl
        have f_10 := RB.out.free 10
        have B10 : Hid (Below w.heap.size w w10) := Lib.hid (HBD.out.trans (hB10.mono HBD.out.size))
        have HD10 := Lib.hid (ownsRow_below HD8.out hB10)
        have HS10 := Lib.hid (ownsRow_below HS8.out hB10)
        clear BX hb10 hA hB10 KD KM
        go_wp2
        exact bodyPost_ret (v := .tuple #[.agg #[.int .i64 t2, .int .i64 nd2, .int .i64 n3, .int .i64 n1, .int .i64 t4, .int .i64 nd4, .int .i64 t5, .int .i64 nd5, .string (strOfNums b6), .slice da b7.length dc, .slice sa b8.length sc], .int .i64 0]) (by simp [results, Tryz.results41, go_sem, *] <;> rfl) rfl (by
          unfold DecPost
          rw [if_pos HG.out, HO.out]
          have g := chg11 w10 w.heap.size (.int .i64 t2) (.int .i64 nd2) (.int .i64 n3) (.int .i64 n1) (.int .i64 t4) (.int .i64 nd4) (.int .i64 t5) (.int .i64 nd5) (.string (strOfNums b6)) (.slice da b7.length dc) (.slice sa b8.length sc)
          exact ⟨_, _, rfl, own_down (own_chgR HD10.out g (by omega)) (by omega), own_down (own_chgR HS10.out g (by omega)) (by omega), Chg.below_trans B10.out g B10.out.size (fun i hi e => by omega)⟩)
    · have e8 : doneS s8 = 74 := by unfold doneS; rw [if_neg hs8]
      have HB : Hid (decB l = false) := Lib.hid (by unfold decB; rw [hR.out]; simp only; rw [decide_eq_false hs8]; rfl)
      rw [e8] at KD
      clear e8 hs8
      go_wp2_with fail
      refine (KD.out _ ((Below.refl _ _).alloc (Nat.le_refl _) _)).mono ?_
      rintro e w9 ⟨rfl, rfl⟩
      have RB := Lib.hid (M8.out.blk.alloc (.cells #[.int .i64 t2, .int .i64 nd2, .int .i64 n3, .int .i64 n1, .int .i64 t4, .int .i64 nd4, .int .i64 t5, .int .i64 nd5, .string (strOfNums b6), .slice da b7.length dc, .slice sa b8.length sc] 46))
      have hA := (Below.refl w8.heap.size w8).alloc (Nat.le_refl _) (.cells #[.int .i64 t2, .int .i64 nd2, .int .i64 n3, .int .i64 n1, .int .i64 t4, .int .i64 nd4, .int .i64 t5, .int .i64 nd5, .string (strOfNums b6), .slice da b7.length dc, .slice sa b8.length sc] 46)
      have B10 := Lib.hid (HBD.out.trans (hA.mono HBD.out.size))
      generalize (w8.alloc (.cells #[.int .i64 t2, .int .i64 nd2, .int .i64 n3, .int .i64 n1, .int .i64 t4, .int .i64 nd4, .int .i64 t5, .int .i64 nd5, .string (strOfNums b6), .slice da b7.length dc, .slice sa b8.length sc] 46)) = w10 at *
      clear hA
      have e_0 : w10.cell? ⟨w.heap.size, 0, none⟩ = some (.int .i64 0) := RB.out.cell (o := 0) rfl
      have f_0 := RB.out.free 0
      have e_1 : w10.cell? ⟨w.heap.size, 1, none⟩ = some (.int .i64 0) := RB.out.cell (o := 1) rfl
      have f_1 := RB.out.free 1
      have e_2 : w10.cell? ⟨w.heap.size, 2, none⟩ = some (.int .i64 0) := RB.out.cell (o := 2) rfl
      have f_2 := RB.out.free 2
      have e_3 : w10.cell? ⟨w.heap.size, 3, none⟩ = some (.int .i64 0) := RB.out.cell (o := 3) rfl
      have f_3 := RB.out.free 3
      have e_4 : w10.cell? ⟨w.heap.size, 4, none⟩ = some (.int .i64 0) := RB.out.cell (o := 4) rfl
      have f_4 := RB.out.free 4
      have e_5 : w10.cell? ⟨w.heap.size, 5, none⟩ = some (.int .i64 0) := RB.out.cell (o := 5) rfl
      have f_5 := RB.out.free 5
      have e_6 : w10.cell? ⟨w.heap.size, 6, none⟩ = some (.int .i64 0) := RB.out.cell (o := 6) rfl
      have f_6 := RB.out.free 6
      have e_7 : w10.cell? ⟨w.heap.size, 7, none⟩ = some (.int .i64 0) := RB.out.cell (o := 7) rfl
      have f_7 := RB.out.free 7
      have e_8 : w10.cell? ⟨w.heap.size, 8, none⟩ = some (.string ByteArray.empty) := RB.out.cell (o := 8) rfl
      have f_8 := RB.out.free 8
      have e_9 : w10.cell? ⟨w.heap.size, 9, none⟩ = some (.slice none 0 0) := RB.out.cell (o := 9) rfl
      have f_9 := RB.out.free 9
      have e_10 : w10.cell? ⟨w.heap.size, 10, none⟩ = some (.slice none 0 0) := RB.out.cell (o := 10) rfl
      have f_10 := RB.out.free 10
      go_wp2
      exact bodyPost_ret (v := .tuple #[.agg #[.int .i64 0, .int .i64 0, .int .i64 0, .int .i64 0, .int .i64 0, .int .i64 0, .int .i64 0, .int .i64 0, .string ByteArray.empty, .slice none 0 0, .slice none 0 0], .int .i64 74]) (by simp [results, Tryz.results41, go_sem, *] <;> rfl) rfl (hbad.out HB.out _ _ ⟨rfl, Chg.below_trans B10.out (chg11 _ w.heap.size _ _ _ _ _ _ _ _ _ _ _) B10.out.size (fun i hi e => by omega)⟩)
  · have hk1 : ¬ ((n1 : Int) ≤ 4) := by omega
    have KD := Lib.hid (fun w' hw => rDone r B v8 s8 w' (M8.out.rd.below hw) : ∀ w', Below w8.heap.size w8 w' → _)
    have HB : Hid (decB l = false) := Lib.hid (by
      unfold decB
      rw [hR.out]
      simp only
      have : mayB (⟨t2, nd2, n3, n1, t4, nd4, t5, nd5, strOfNums b6, b7, b8⟩ : Opr) = false := by
        cases hm : mayB (⟨t2, nd2, n3, n1, t4, nd4, t5, nd5, strOfNums b6, b7, b8⟩ : Opr)
        · rfl
        · have := may_kind hm
          simp only at this
          omega
      rw [this]
      simp)
    by_cases hs8 : s8 = some []
    · have e8 : doneS s8 = 0 := by unfold doneS; rw [if_pos hs8]
      rw [e8] at KD
      have hm0 : mayB (⟨t2, nd2, n3, 0, t4, nd4, t5, nd5, strOfNums b6, b7, b8⟩ : Opr) = false := by
        cases hm : mayB (⟨t2, nd2, n3, 0, t4, nd4, t5, nd5, strOfNums b6, b7, b8⟩ : Opr)
        · rfl
        · have := may_kind hm
          simp only at this
          omega
      have KM := Lib.hid (fun w' hw => opsMay (⟨t2, nd2, n3, 0, t4, nd4, t5, nd5, strOfNums b6, b7, b8⟩ : Opr) (.slice da b7.length dc) (.slice sa b8.length sc) w' ((Rdv.of_owns HD8.out).below hw) ((Rdv.of_owns HS8.out).below hw) hb6.out : ∀ w', Below w8.heap.size w8 w' → _)
      rw [hm0] at KM
      clear hm0 e8 hs8
      go_wp2_with fail
      refine (KD.out _ ((Below.refl _ _).alloc (Nat.le_refl _) _)).mono ?_
      rintro e w9 ⟨rfl, rfl⟩
      go_wp2_with fail
      refine (KM.out _ ((Below.refl _ _).alloc (Nat.le_refl _) _)).mono ?_
      rintro e w10 ⟨rfl, hb10⟩
      have hA := (Below.refl w8.heap.size w8).alloc (Nat.le_refl _) (.cells #[.int .i64 t2, .int .i64 nd2, .int .i64 n3, .int .i64 0, .int .i64 t4, .int .i64 nd4, .int .i64 t5, .int .i64 nd5, .string (strOfNums b6), .slice da b7.length dc, .slice sa b8.length sc] 46)
      have hB10 := hA.trans (hb10.mono (by simp))
      have RB := Lib.hid (blkBelow hB10 M8.out.blk M8.out.blk.lt)
      have B10 := Lib.hid (HBD.out.trans (hB10.mono HBD.out.size))
      clear hb10 hA hB10 KD KM
      have e_0 : w10.cell? ⟨w.heap.size, 0, none⟩ = some (.int .i64 0) := RB.out.cell (o := 0) rfl
      have f_0 := RB.out.free 0
      have e_1 : w10.cell? ⟨w.heap.size, 1, none⟩ = some (.int .i64 0) := RB.out.cell (o := 1) rfl
      have f_1 := RB.out.free 1
      have e_2 : w10.cell? ⟨w.heap.size, 2, none⟩ = some (.int .i64 0) := RB.out.cell (o := 2) rfl
      have f_2 := RB.out.free 2
      have e_3 : w10.cell? ⟨w.heap.size, 3, none⟩ = some (.int .i64 0) := RB.out.cell (o := 3) rfl
      have f_3 := RB.out.free 3
      have e_4 : w10.cell? ⟨w.heap.size, 4, none⟩ = some (.int .i64 0) := RB.out.cell (o := 4) rfl
      have f_4 := RB.out.free 4
      have e_5 : w10.cell? ⟨w.heap.size, 5, none⟩ = some (.int .i64 0) := RB.out.cell (o := 5) rfl
      have f_5 := RB.out.free 5
      have e_6 : w10.cell? ⟨w.heap.size, 6, none⟩ = some (.int .i64 0) := RB.out.cell (o := 6) rfl
      have f_6 := RB.out.free 6
      have e_7 : w10.cell? ⟨w.heap.size, 7, none⟩ = some (.int .i64 0) := RB.out.cell (o := 7) rfl
      have f_7 := RB.out.free 7
      have e_8 : w10.cell? ⟨w.heap.size, 8, none⟩ = some (.string ByteArray.empty) := RB.out.cell (o := 8) rfl
      have f_8 := RB.out.free 8
      have e_9 : w10.cell? ⟨w.heap.size, 9, none⟩ = some (.slice none 0 0) := RB.out.cell (o := 9) rfl
      have f_9 := RB.out.free 9
      have e_10 : w10.cell? ⟨w.heap.size, 10, none⟩ = some (.slice none 0 0) := RB.out.cell (o := 10) rfl
      have f_10 := RB.out.free 10
      go_wp2
      exact bodyPost_ret (v := .tuple #[.agg #[.int .i64 0, .int .i64 0, .int .i64 0, .int .i64 0, .int .i64 0, .int .i64 0, .int .i64 0, .int .i64 0, .string ByteArray.empty, .slice none 0 0, .slice none 0 0], .int .i64 74]) (by simp [results, Tryz.results41, go_sem, *] <;> rfl) rfl (hbad.out HB.out _ _ ⟨rfl, Chg.below_trans B10.out (chg11 _ w.heap.size _ _ _ _ _ _ _ _ _ _ _) B10.out.size (fun i hi e => by omega)⟩)
    · have e8 : doneS s8 = 74 := by unfold doneS; rw [if_neg hs8]
      rw [e8] at KD
      clear e8 hs8
      go_wp2_with fail
      refine (KD.out _ ((Below.refl _ _).alloc (Nat.le_refl _) _)).mono ?_
      rintro e w9 ⟨rfl, rfl⟩
      have RB := Lib.hid (M8.out.blk.alloc (.cells #[.int .i64 t2, .int .i64 nd2, .int .i64 n3, .int .i64 0, .int .i64 t4, .int .i64 nd4, .int .i64 t5, .int .i64 nd5, .string (strOfNums b6), .slice da b7.length dc, .slice sa b8.length sc] 46))
      have hA := (Below.refl w8.heap.size w8).alloc (Nat.le_refl _) (.cells #[.int .i64 t2, .int .i64 nd2, .int .i64 n3, .int .i64 0, .int .i64 t4, .int .i64 nd4, .int .i64 t5, .int .i64 nd5, .string (strOfNums b6), .slice da b7.length dc, .slice sa b8.length sc] 46)
      have B10 := Lib.hid (HBD.out.trans (hA.mono HBD.out.size))
      generalize (w8.alloc (.cells #[.int .i64 t2, .int .i64 nd2, .int .i64 n3, .int .i64 0, .int .i64 t4, .int .i64 nd4, .int .i64 t5, .int .i64 nd5, .string (strOfNums b6), .slice da b7.length dc, .slice sa b8.length sc] 46)) = w10 at *
      clear hA
      have e_0 : w10.cell? ⟨w.heap.size, 0, none⟩ = some (.int .i64 0) := RB.out.cell (o := 0) rfl
      have f_0 := RB.out.free 0
      have e_1 : w10.cell? ⟨w.heap.size, 1, none⟩ = some (.int .i64 0) := RB.out.cell (o := 1) rfl
      have f_1 := RB.out.free 1
      have e_2 : w10.cell? ⟨w.heap.size, 2, none⟩ = some (.int .i64 0) := RB.out.cell (o := 2) rfl
      have f_2 := RB.out.free 2
      have e_3 : w10.cell? ⟨w.heap.size, 3, none⟩ = some (.int .i64 0) := RB.out.cell (o := 3) rfl
      have f_3 := RB.out.free 3
      have e_4 : w10.cell? ⟨w.heap.size, 4, none⟩ = some (.int .i64 0) := RB.out.cell (o := 4) rfl
      have f_4 := RB.out.free 4
      have e_5 : w10.cell? ⟨w.heap.size, 5, none⟩ = some (.int .i64 0) := RB.out.cell (o := 5) rfl
      have f_5 := RB.out.free 5
      have e_6 : w10.cell? ⟨w.heap.size, 6, none⟩ = some (.int .i64 0) := RB.out.cell (o := 6) rfl
      have f_6 := RB.out.free 6
      have e_7 : w10.cell? ⟨w.heap.size, 7, none⟩ = some (.int .i64 0) := RB.out.cell (o := 7) rfl
      have f_7 := RB.out.free 7
      have e_8 : w10.cell? ⟨w.heap.size, 8, none⟩ = some (.string ByteArray.empty) := RB.out.cell (o := 8) rfl
      have f_8 := RB.out.free 8
      have e_9 : w10.cell? ⟨w.heap.size, 9, none⟩ = some (.slice none 0 0) := RB.out.cell (o := 9) rfl
      have f_9 := RB.out.free 9
      have e_10 : w10.cell? ⟨w.heap.size, 10, none⟩ = some (.slice none 0 0) := RB.out.cell (o := 10) rfl
      have f_10 := RB.out.free 10
      go_wp2
      exact bodyPost_ret (v := .tuple #[.agg #[.int .i64 0, .int .i64 0, .int .i64 0, .int .i64 0, .int .i64 0, .int .i64 0, .int .i64 0, .int .i64 0, .string ByteArray.empty, .slice none 0 0, .slice none 0 0], .int .i64 74]) (by simp [results, Tryz.results41, go_sem, *] <;> rfl) rfl (hbad.out HB.out _ _ ⟨rfl, Chg.below_trans B10.out (chg11 _ w.heap.size _ _ _ _ _ _ _ _ _ _ _) B10.out.size (fun i hi e => by omega)⟩)
end Go.Proofs.YthbalmoafpggdaaGreat

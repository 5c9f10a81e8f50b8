/- Operations: the reference's Decode. bytes.Equal; strings of bytes compared. Operations compared: ops.Eq, the reference's. Operations compared: the reference's Eq. The laws of layer 12: what is begun. The laws' Short. Bytes: parts of a row of bytes. -/
import Derived.Test.YthbalmoafpggdaaGreatChecked
import Derived.WalkKit
import Derived.Outline
import Derived.WalkSpells
import Derived.WalkLawsBesides
import Derived.Deep.QuietTactic
import Derived.Deep.RegionWith
import Derived.Deep.DeepMust
import Derived.BigQuiet
import Derived.RegionTactic
import Derived.ChangeAlike
import Derived.StillTailTactics
import Derived.Deep.LoopGhost
import Derived.Lib.Bytes
import Derived.Test.YthbalmoafpggdaaGreatM1
import Derived.Test.YthbalmoafpggdaaGreatM12
import Derived.Test.YthbalmoafpggdaaGreatM10
import Derived.Test.YthbalmoafpggdaaGreatM4
import Derived.Test.YthbalmoafpggdaaGreatM11
namespace Go.Proofs.YthbalmoafpggdaaGreat
open Go.RowKit
set_option linter.unusedVariables false
set_option linter.unusedSimpArgs false
/-- While the reference reads an operation: the result's block R, the operation's block O, the reader's r. -/
structure FecM (w : World) (R O : Nat) (cs : Array Value) (r B : Nat) (v : Value) (s : RS) (w' : World) : Prop where
  rf : Rf w' r B v s
  inB : B < w'.heap.size
  bel : Below w.heap.size w w'
  rblk : Blk w' R #[.int .i64 0, .int .i64 0, .int .i64 0, .int .i64 0, .int .i64 0, .int .i64 0, .int .i64 0, .int .i64 0, .string ByteArray.empty, .slice none 0 0, .slice none 0 0] 46
  oblk : Blk w' O cs 46
  ord : w.heap.size ≤ R ∧ R < r ∧ r < O ∧ B ≠ R ∧ B ≠ O
theorem FecM.step {w w1 w2 : World} {R O r B : Nat} {cs : Array Value} {v : Value} {s s' : RS} (h : FecM w R O cs r B v s w1) (hs : FStep r B w1 s' w2) : ∃ v', FecM w R O cs r B v' s' w2 := by
  obtain ⟨v', h1, h2⟩ := hs
  have ho := h.ord
  exact ⟨v', h1, Nat.lt_of_lt_of_le h.inB h2.size, h2.below_trans h.bel h.bel.size (fun i hi e => by omega), h2.blk h.rblk (by omega), h2.blk h.oblk (by omega), ho⟩
theorem FecM.put {w w1 : World} {R O r B : Nat} {cs : Array Value} {v : Value} {s : RS} (h : FecM w R O cs r B v s w1) (i : Nat) (u : Value) : FecM w R O (cs.setIfInBounds i u) r B v s (w1.setCell ⟨O, i, none⟩ u) := by
  have ho := h.ord
  have g : Chg (· = O) w1 (w1.setCell ⟨O, i, none⟩ u) := Chg.set (S := (· = O)) (Chg.refl _ _) (p := ⟨O, i, none⟩) (fun _ => rfl) u
  exact ⟨h.rf.chg g (by omega) (by omega), by simpa [World.setCell] using h.inB, h.bel.setCell (by simp only; omega) _, g.blk h.rblk (by omega), h.oblk.set i u, ho⟩
theorem own_fstep {w w' : World} {r B b e n : Nat} {s' : RS} {v : Value} {xs : List Value} (h : w.ownsRow b e 1 v n xs) (hs : FStep r B w s' w') (hr : r < b) : w'.ownsRow b e 1 v n xs := by
  obtain ⟨v', _, h2⟩ := hs
  exact own_chgR h h2 hr
theorem own_set {w : World} {O i b e n : Nat} {v u : Value} {xs : List Value} (h : w.ownsRow b e 1 v n xs) (hr : O < b) : (w.setCell ⟨O, i, none⟩ u).ownsRow b e 1 v n xs :=
  own_chgR h (Chg.set (S := (· = O)) (Chg.refl _ _) (p := ⟨O, i, none⟩) (fun _ => rfl) u) hr
def GStep (w : World) (R O : Nat) (cs : Array Value) (r B : Nat) (s' : RS) (w' : World) : Prop := ∃ v', FecM w R O cs r B v' s' w'
theorem gfNum {w w1 : World} {R O r B : Nat} {cs : Array Value} {v : Value} {s : RS} (h : FecM w R O cs r B v s w1) {n : Nat} {s' : RS} (hq : numS s = (n, s')) : Calls Tryz.prog 45 #[.pointer (some ⟨r, 0, none⟩)] w1 fun e w' => e = .returned (.int .i64 (n : Nat)) ∧ GStep w R O cs r B s' w' := by
  refine (fNum r B v s w1 h.rf).mono ?_
  rintro e w2 ⟨he, hs⟩
  rw [hq] at he hs
  exact ⟨he, h.step hs⟩
theorem gfID {w w1 : World} {R O r B : Nat} {cs : Array Value} {v : Value} {s : RS} (h : FecM w R O cs r B v s w1) {t n : Nat} {s' : RS} (hq : idS s = ((t, n), s')) : Calls Tryz.prog 87 #[.pointer (some ⟨r, 0, none⟩)] w1 fun e w' => e = .returned (.agg #[.int .i64 (t : Nat), .int .i64 (n : Nat)]) ∧ GStep w R O cs r B s' w' := by
  refine (fID r B v s w1 h.rf h.inB).mono ?_
  rintro e w2 ⟨he, hs⟩
  rw [hq] at he hs
  exact ⟨he, h.step hs⟩
theorem gfBytes {w w1 : World} {R O r B : Nat} {cs : Array Value} {v : Value} {s : RS} (h : FecM w R O cs r B v s w1) {n : List Int} {s' : RS} (hq : bytesS s = (n, s')) : Calls Tryz.prog 88 #[.pointer (some ⟨r, 0, none⟩)] w1 fun e w' => ∃ u, e = .returned u ∧ w'.ownsRow w1.heap.size 5 1 u n.length (n.map u8v) ∧ GStep w R O cs r B s' w' ∧ FStep r B w1 s' w' := by
  refine (fBytes r B v s w1 h.rf).mono ?_
  rintro e w2 ⟨u, he, hf, hs⟩
  rw [hq] at hs hf
  exact ⟨u, he, hf, h.step hs, hs⟩
theorem gfVec {w w1 : World} {R O r B : Nat} {cs : Array Value} {v : Value} {s : RS} (h : FecM w R O cs r B v s w1) {n : List Int} {s' : RS} (hq : vecS s = (n, s')) : Calls Tryz.prog 47 #[.pointer (some ⟨r, 0, none⟩)] w1 fun e w' => ∃ u, e = .returned u ∧ w'.ownsRow w1.heap.size 2 1 u n.length (n.map i64v) ∧ GStep w R O cs r B s' w' ∧ FStep r B w1 s' w' := by
  refine (fVector r B v s w1 h.rf h.inB).mono ?_
  rintro e w2 ⟨u, he, hf, hs⟩
  rw [hq] at hs hf
  exact ⟨u, he, hf, h.step hs, hs⟩
def RDecPost (l : List Int) (w : World) (e : Ending) (w' : World) : Prop :=
  if decB l = true then ∃ d s, e = .returned (.tuple #[.agg #[.int .i64 ((decO l)).time, .int .i64 ((decO l)).node, .int .i64 ((decO l)).seq, .int .i64 ((decO l)).kind, .int .i64 ((decO l)).ot, .int .i64 ((decO l)).on, .int .i64 ((decO l)).pt, .int .i64 ((decO l)).pn, .string ((decO l)).name, d, s], .bool true]) ∧ w'.ownsRow w.heap.size 5 1 d (decO l).data.length ((decO l).data.map u8v) ∧ w'.ownsRow w.heap.size 2 1 s (decO l).seen.length ((decO l).seen.map i64v) ∧ Below w.heap.size w w'
  else e = .returned (.tuple #[.agg #[.int .i64 0, .int .i64 0, .int .i64 0, .int .i64 0, .int .i64 0, .int .i64 0, .int .i64 0, .int .i64 0, .string ByteArray.empty, .slice none 0 0, .slice none 0 0], .bool false]) ∧ Below w.heap.size w w'
set_option maxHeartbeats 4000000 in
set_option maxRecDepth 100000 in
theorem refDecode (x : Value) (l : List Int) (w : World) (hx : Rdv u8v w x l) (hb : Byt l) (hl : l.length ≤ 100000000000) (hin : x = .slice none 0 0 ∨ ∃ B o n c, x = .slice (some ⟨B, o, none⟩) n c ∧ B < w.heap.size) :
    Calls Tryz.prog 48 #[x] w (RDecPost l w) := by
  obtain ⟨n1, s1, q1⟩ : ∃ n s, numS (some l) = (n, s) := ⟨_, _, rfl⟩
  obtain ⟨t2, nd2, s2, q2⟩ : ∃ t n s, idS s1 = ((t, n), s) := ⟨_, _, _, rfl⟩
  obtain ⟨n3, s3, q3⟩ : ∃ n s, numS s2 = (n, s) := ⟨_, _, rfl⟩
  obtain ⟨t4, nd4, s4, q4⟩ : ∃ t n s, idS s3 = ((t, n), s) := ⟨_, _, _, rfl⟩
  obtain ⟨t5, nd5, s5, q5⟩ : ∃ t n s, idS s4 = ((t, n), s) := ⟨_, _, _, rfl⟩
  obtain ⟨b6, s6, q6⟩ : ∃ n s, bytesS s5 = (n, s) := ⟨_, _, rfl⟩
  obtain ⟨b7, s7, q7⟩ : ∃ n s, bytesS s6 = (n, s) := ⟨_, _, rfl⟩
  obtain ⟨b8, s8, q8⟩ : ∃ n s, vecS s7 = (n, s) := ⟨_, _, rfl⟩
  have hR : Hid (decR l = (n1, ⟨t2, nd2, n3, n1, t4, nd4, t5, nd5, strOfNums b6, b7, b8⟩, s8)) := Lib.hid (by unfold decR; simp only [q1, q2, q3, q4, q5, q6, q7, q8])
  have hn1 := numS_bd (some l)
  rw [q1] at hn1
  simp only at hn1
  have Q1 := Lib.hid q1
  have Q2 := Lib.hid q2
  have Q3 := Lib.hid q3
  have Q4 := Lib.hid q4
  have Q5 := Lib.hid q5
  have Q6 := Lib.hid q6
  have Q7 := Lib.hid q7
  have Q8 := Lib.hid q8
  have hb6 : Hid ((strOfNums b6).size < 4294967281) := Lib.hid (by have := bytesS_len s5; rw [q6] at this; rw [strOfNums_size]; simp only at this; omega)
  clear q1 q2 q3 q4 q5 q6 q7 q8
  have hbad : Hid (decB l = false → ∀ e w', (e = .returned (.tuple #[.agg #[.int .i64 0, .int .i64 0, .int .i64 0, .int .i64 0, .int .i64 0, .int .i64 0, .int .i64 0, .int .i64 0, .string ByteArray.empty, .slice none 0 0, .slice none 0 0], .bool false]) ∧ Below w.heap.size w w') → RDecPost l w e w') := Lib.hid (fun h e w' h2 => by unfold RDecPost; rw [h]; exact h2)
  obtain ⟨xa, xn, xc, rfl⟩ := hx.shape
  have M0 : ∃ B, FecM w w.heap.size (w.heap.size + 1 + 1) #[.int .i64 0, .int .i64 0, .int .i64 0, .int .i64 0, .int .i64 0, .int .i64 0, .int .i64 0, .int .i64 0, .string ByteArray.empty, .slice none 0 0, .slice none 0 0] (w.heap.size + 1) B (.slice xa xn xc) (some l) (((w.alloc (.cells #[.int .i64 0, .int .i64 0, .int .i64 0, .int .i64 0, .int .i64 0, .int .i64 0, .int .i64 0, .int .i64 0, .string ByteArray.empty, .slice none 0 0, .slice none 0 0] 46)).alloc (.cells #[.slice xa xn xc, .bool false] 79)).alloc (.cells #[.int .i64 0, .int .i64 0, .int .i64 0, .int .i64 0, .int .i64 0, .int .i64 0, .int .i64 0, .int .i64 0, .string ByteArray.empty, .slice none 0 0, .slice none 0 0] 46)) := by
    have hbel := (((Below.refl w.heap.size w).alloc (Nat.le_refl _) (.cells #[.int .i64 0, .int .i64 0, .int .i64 0, .int .i64 0, .int .i64 0, .int .i64 0, .int .i64 0, .int .i64 0, .string ByteArray.empty, .slice none 0 0, .slice none 0 0] 46)).alloc (by simp) (.cells #[.slice xa xn xc, .bool false] 79)).alloc (by simp <;> omega) (.cells #[.int .i64 0, .int .i64 0, .int .i64 0, .int .i64 0, .int .i64 0, .int .i64 0, .int .i64 0, .int .i64 0, .string ByteArray.empty, .slice none 0 0, .slice none 0 0] 46)
    have b1 := ((Blk.new w #[.int .i64 0, .int .i64 0, .int .i64 0, .int .i64 0, .int .i64 0, .int .i64 0, .int .i64 0, .int .i64 0, .string ByteArray.empty, .slice none 0 0, .slice none 0 0] 46).alloc (.cells #[.slice xa xn xc, .bool false] 79)).alloc (.cells #[.int .i64 0, .int .i64 0, .int .i64 0, .int .i64 0, .int .i64 0, .int .i64 0, .int .i64 0, .int .i64 0, .string ByteArray.empty, .slice none 0 0, .slice none 0 0] 46)
    have b2 : Blk (((w.alloc (.cells #[.int .i64 0, .int .i64 0, .int .i64 0, .int .i64 0, .int .i64 0, .int .i64 0, .int .i64 0, .int .i64 0, .string ByteArray.empty, .slice none 0 0, .slice none 0 0] 46)).alloc (.cells #[.slice xa xn xc, .bool false] 79)).alloc (.cells #[.int .i64 0, .int .i64 0, .int .i64 0, .int .i64 0, .int .i64 0, .int .i64 0, .int .i64 0, .int .i64 0, .string ByteArray.empty, .slice none 0 0, .slice none 0 0] 46)) (w.heap.size + 1) #[.slice xa xn xc, .bool false] 79 := by
      have := (Blk.new (w.alloc (.cells #[.int .i64 0, .int .i64 0, .int .i64 0, .int .i64 0, .int .i64 0, .int .i64 0, .int .i64 0, .int .i64 0, .string ByteArray.empty, .slice none 0 0, .slice none 0 0] 46)) #[.slice xa xn xc, .bool false] 79).alloc (.cells #[.int .i64 0, .int .i64 0, .int .i64 0, .int .i64 0, .int .i64 0, .int .i64 0, .int .i64 0, .int .i64 0, .string ByteArray.empty, .slice none 0 0, .slice none 0 0] 46)
      simpa using this
    have b3 : Blk (((w.alloc (.cells #[.int .i64 0, .int .i64 0, .int .i64 0, .int .i64 0, .int .i64 0, .int .i64 0, .int .i64 0, .int .i64 0, .string ByteArray.empty, .slice none 0 0, .slice none 0 0] 46)).alloc (.cells #[.slice xa xn xc, .bool false] 79)).alloc (.cells #[.int .i64 0, .int .i64 0, .int .i64 0, .int .i64 0, .int .i64 0, .int .i64 0, .int .i64 0, .int .i64 0, .string ByteArray.empty, .slice none 0 0, .slice none 0 0] 46)) (w.heap.size + 1 + 1) #[.int .i64 0, .int .i64 0, .int .i64 0, .int .i64 0, .int .i64 0, .int .i64 0, .int .i64 0, .int .i64 0, .string ByteArray.empty, .slice none 0 0, .slice none 0 0] 46 := by
      have := Blk.new ((w.alloc (.cells #[.int .i64 0, .int .i64 0, .int .i64 0, .int .i64 0, .int .i64 0, .int .i64 0, .int .i64 0, .int .i64 0, .string ByteArray.empty, .slice none 0 0, .slice none 0 0] 46)).alloc (.cells #[.slice xa xn xc, .bool false] 79)) #[.int .i64 0, .int .i64 0, .int .i64 0, .int .i64 0, .int .i64 0, .int .i64 0, .int .i64 0, .int .i64 0, .string ByteArray.empty, .slice none 0 0, .slice none 0 0] 46
      simpa using this
    have hr := hx.below hbel
    have hsz : (((w.alloc (.cells #[.int .i64 0, .int .i64 0, .int .i64 0, .int .i64 0, .int .i64 0, .int .i64 0, .int .i64 0, .int .i64 0, .string ByteArray.empty, .slice none 0 0, .slice none 0 0] 46)).alloc (.cells #[.slice xa xn xc, .bool false] 79)).alloc (.cells #[.int .i64 0, .int .i64 0, .int .i64 0, .int .i64 0, .int .i64 0, .int .i64 0, .int .i64 0, .int .i64 0, .string ByteArray.empty, .slice none 0 0, .slice none 0 0] 46)).heap.size = w.heap.size + 1 + 1 + 1 := by simp
    rcases hin with h | ⟨B, o, n, c, h, hB⟩
    · exact ⟨w.heap.size + 1, ⟨b2, hr, .inl h, (fun ⟨_, _, _, e⟩ => by rw [h, Value.slice.injEq] at e; cases e.1), hb, hl⟩, by rw [hsz]; omega, hbel, b1, b3, ⟨Nat.le_refl _, by omega, by omega, by omega, by omega⟩⟩
    · exact ⟨B, ⟨b2, hr, .inr ⟨o, n, c, h⟩, fun _ => by omega, hb, hl⟩, by rw [hsz]; omega, hbel, b1, b3, ⟨Nat.le_refl _, by omega, by omega, by omega, by omega⟩⟩
  obtain ⟨B, hM0⟩ := M0
  have M0 := Lib.hid hM0
  clear hM0 hin hx hb
  go_enter Tryz.func48, Tryz.ntmps48
  go_wp2_with fail
  refine (gfNum M0.out Q1.out).mono ?_
  rintro e w1 ⟨rfl, v1, hM1⟩
  have M1 := Lib.hid hM1
  clear hM1
  by_cases hk : 100 < n1
  · have hk1 : (100 : Int) < n1 := by omega
    have HB : Hid (decB l = false) := Lib.hid (by
      unfold decB
      rw [hR.out]
      simp only
      have : mayB (⟨t2, nd2, n3, n1, t4, nd4, t5, nd5, strOfNums b6, b7, b8⟩ : Opr) = false := by
        cases hm : mayB (⟨t2, nd2, n3, n1, t4, nd4, t5, nd5, strOfNums b6, b7, b8⟩ : Opr)
        · rfl
        · have := may_kind hm
          simp only at this
          omega
      rw [this]
      simp)
    have RB := Lib.hid M1.out.rblk
    have B10 := Lib.hid M1.out.bel
    have e_0 : w1.cell? ⟨w.heap.size, 0, none⟩ = some (.int .i64 0) := RB.out.cell (o := 0) rfl
    have f_0 := RB.out.free 0
    have e_1 : w1.cell? ⟨w.heap.size, 1, none⟩ = some (.int .i64 0) := RB.out.cell (o := 1) rfl
    have f_1 := RB.out.free 1
    have e_2 : w1.cell? ⟨w.heap.size, 2, none⟩ = some (.int .i64 0) := RB.out.cell (o := 2) rfl
    have f_2 := RB.out.free 2
    have e_3 : w1.cell? ⟨w.heap.size, 3, none⟩ = some (.int .i64 0) := RB.out.cell (o := 3) rfl
    have f_3 := RB.out.free 3
    have e_4 : w1.cell? ⟨w.heap.size, 4, none⟩ = some (.int .i64 0) := RB.out.cell (o := 4) rfl
    have f_4 := RB.out.free 4
    have e_5 : w1.cell? ⟨w.heap.size, 5, none⟩ = some (.int .i64 0) := RB.out.cell (o := 5) rfl
    have f_5 := RB.out.free 5
    have e_6 : w1.cell? ⟨w.heap.size, 6, none⟩ = some (.int .i64 0) := RB.out.cell (o := 6) rfl
    have f_6 := RB.out.free 6
    have e_7 : w1.cell? ⟨w.heap.size, 7, none⟩ = some (.int .i64 0) := RB.out.cell (o := 7) rfl
    have f_7 := RB.out.free 7
    have e_8 : w1.cell? ⟨w.heap.size, 8, none⟩ = some (.string ByteArray.empty) := RB.out.cell (o := 8) rfl
    have f_8 := RB.out.free 8
    have e_9 : w1.cell? ⟨w.heap.size, 9, none⟩ = some (.slice none 0 0) := RB.out.cell (o := 9) rfl
    have f_9 := RB.out.free 9
    have e_10 : w1.cell? ⟨w.heap.size, 10, none⟩ = some (.slice none 0 0) := RB.out.cell (o := 10) rfl
    have f_10 := RB.out.free 10
    go_wp2
    exact bodyPost_ret (v := .tuple #[.agg #[.int .i64 0, .int .i64 0, .int .i64 0, .int .i64 0, .int .i64 0, .int .i64 0, .int .i64 0, .int .i64 0, .string ByteArray.empty, .slice none 0 0, .slice none 0 0], .bool false]) (by simp [results, Tryz.results48, go_sem, *] <;> rfl) rfl (hbad.out HB.out _ _ ⟨rfl, Chg.below_trans B10.out (chg11 _ w.heap.size _ _ _ _ _ _ _ _ _ _ _) B10.out.size (fun i hi e => by omega)⟩)
  have hk1 : ¬ ((100 : Int) < n1) := by omega
  have o_0 : w1.cell? ⟨w.heap.size + 1 + 1, 3, none⟩ = some (.int .i64 0) := M1.out.oblk.cell (o := 3) rfl
  have p_0 := M1.out.oblk.free 3
  have P1 : Hid (FecM w w.heap.size (w.heap.size + 1 + 1) #[.int .i64 0, .int .i64 0, .int .i64 0, .int .i64 n1, .int .i64 0, .int .i64 0, .int .i64 0, .int .i64 0, .string ByteArray.empty, .slice none 0 0, .slice none 0 0] (w.heap.size + 1) B v1 s1 (w1.setCell ⟨w.heap.size + 1 + 1, 3, none⟩ (.int .i64 n1))) := Lib.hid (M1.out.put 3 (.int .i64 n1))
  go_wp2_with fail
  refine (gfID P1.out Q2.out).mono ?_
  rintro e w2 ⟨rfl, v2, hM2⟩
  have M2 := Lib.hid hM2
  clear hM2 o_0 p_0
  have o_0 : w2.cell? ⟨w.heap.size + 1 + 1, 0, none⟩ = some (.int .i64 0) := M2.out.oblk.cell (o := 0) rfl
  have p_0 := M2.out.oblk.free 0
  have o_1 : w2.cell? ⟨w.heap.size + 1 + 1, 1, none⟩ = some (.int .i64 0) := M2.out.oblk.cell (o := 1) rfl
  have p_1 := M2.out.oblk.free 1
  have P2_0 : Hid (FecM w w.heap.size (w.heap.size + 1 + 1) #[.int .i64 t2, .int .i64 0, .int .i64 0, .int .i64 n1, .int .i64 0, .int .i64 0, .int .i64 0, .int .i64 0, .string ByteArray.empty, .slice none 0 0, .slice none 0 0] (w.heap.size + 1) B v2 s2 (w2.setCell ⟨w.heap.size + 1 + 1, 0, none⟩ (.int .i64 t2))) := Lib.hid (M2.out.put 0 (.int .i64 t2))
  have P2 : Hid (FecM w w.heap.size (w.heap.size + 1 + 1) #[.int .i64 t2, .int .i64 nd2, .int .i64 0, .int .i64 n1, .int .i64 0, .int .i64 0, .int .i64 0, .int .i64 0, .string ByteArray.empty, .slice none 0 0, .slice none 0 0] (w.heap.size + 1) B v2 s2 ((w2.setCell ⟨w.heap.size + 1 + 1, 0, none⟩ (.int .i64 t2)).setCell ⟨w.heap.size + 1 + 1, 1, none⟩ (.int .i64 nd2))) := Lib.hid (P2_0.out.put 1 (.int .i64 nd2))
  go_wp2_with fail
  refine (gfNum P2.out Q3.out).mono ?_
  rintro e w3 ⟨rfl, v3, hM3⟩
  have M3 := Lib.hid hM3
  clear hM3 o_0 p_0 o_1 p_1
  have o_0 : w3.cell? ⟨w.heap.size + 1 + 1, 2, none⟩ = some (.int .i64 0) := M3.out.oblk.cell (o := 2) rfl
  have p_0 := M3.out.oblk.free 2
  have P3 : Hid (FecM w w.heap.size (w.heap.size + 1 + 1) #[.int .i64 t2, .int .i64 nd2, .int .i64 n3, .int .i64 n1, .int .i64 0, .int .i64 0, .int .i64 0, .int .i64 0, .string ByteArray.empty, .slice none 0 0, .slice none 0 0] (w.heap.size + 1) B v3 s3 (w3.setCell ⟨w.heap.size + 1 + 1, 2, none⟩ (.int .i64 n3))) := Lib.hid (M3.out.put 2 (.int .i64 n3))
  go_wp2_with fail
  refine (gfID P3.out Q4.out).mono ?_
  rintro e w4 ⟨rfl, v4, hM4⟩
  have M4 := Lib.hid hM4
  clear hM4 o_0 p_0
  have o_0 : w4.cell? ⟨w.heap.size + 1 + 1, 4, none⟩ = some (.int .i64 0) := M4.out.oblk.cell (o := 4) rfl
  have p_0 := M4.out.oblk.free 4
  have o_1 : w4.cell? ⟨w.heap.size + 1 + 1, 5, none⟩ = some (.int .i64 0) := M4.out.oblk.cell (o := 5) rfl
  have p_1 := M4.out.oblk.free 5
  have P4_0 : Hid (FecM w w.heap.size (w.heap.size + 1 + 1) #[.int .i64 t2, .int .i64 nd2, .int .i64 n3, .int .i64 n1, .int .i64 t4, .int .i64 0, .int .i64 0, .int .i64 0, .string ByteArray.empty, .slice none 0 0, .slice none 0 0] (w.heap.size + 1) B v4 s4 (w4.setCell ⟨w.heap.size + 1 + 1, 4, none⟩ (.int .i64 t4))) := Lib.hid (M4.out.put 4 (.int .i64 t4))
  have P4 : Hid (FecM w w.heap.size (w.heap.size + 1 + 1) #[.int .i64 t2, .int .i64 nd2, .int .i64 n3, .int .i64 n1, .int .i64 t4, .int .i64 nd4, .int .i64 0, .int .i64 0, .string ByteArray.empty, .slice none 0 0, .slice none 0 0] (w.heap.size + 1) B v4 s4 ((w4.setCell ⟨w.heap.size + 1 + 1, 4, none⟩ (.int .i64 t4)).setCell ⟨w.heap.size + 1 + 1, 5, none⟩ (.int .i64 nd4))) := Lib.hid (P4_0.out.put 5 (.int .i64 nd4))
  go_wp2_with fail
  refine (gfID P4.out Q5.out).mono ?_
  rintro e w5 ⟨rfl, v5, hM5⟩
  have M5 := Lib.hid hM5
  clear hM5 o_0 p_0 o_1 p_1
  have o_0 : w5.cell? ⟨w.heap.size + 1 + 1, 6, none⟩ = some (.int .i64 0) := M5.out.oblk.cell (o := 6) rfl
  have p_0 := M5.out.oblk.free 6
  have o_1 : w5.cell? ⟨w.heap.size + 1 + 1, 7, none⟩ = some (.int .i64 0) := M5.out.oblk.cell (o := 7) rfl
  have p_1 := M5.out.oblk.free 7
  have P5_0 : Hid (FecM w w.heap.size (w.heap.size + 1 + 1) #[.int .i64 t2, .int .i64 nd2, .int .i64 n3, .int .i64 n1, .int .i64 t4, .int .i64 nd4, .int .i64 t5, .int .i64 0, .string ByteArray.empty, .slice none 0 0, .slice none 0 0] (w.heap.size + 1) B v5 s5 (w5.setCell ⟨w.heap.size + 1 + 1, 6, none⟩ (.int .i64 t5))) := Lib.hid (M5.out.put 6 (.int .i64 t5))
  have P5 : Hid (FecM w w.heap.size (w.heap.size + 1 + 1) #[.int .i64 t2, .int .i64 nd2, .int .i64 n3, .int .i64 n1, .int .i64 t4, .int .i64 nd4, .int .i64 t5, .int .i64 nd5, .string ByteArray.empty, .slice none 0 0, .slice none 0 0] (w.heap.size + 1) B v5 s5 ((w5.setCell ⟨w.heap.size + 1 + 1, 6, none⟩ (.int .i64 t5)).setCell ⟨w.heap.size + 1 + 1, 7, none⟩ (.int .i64 nd5))) := Lib.hid (P5_0.out.put 7 (.int .i64 nd5))
  go_wp2_with fail
  refine (gfBytes P5.out Q6.out).mono ?_
  rintro e w6 ⟨u6, rfl, hu6, ⟨v6, hM6⟩, _⟩
  have hcv := conv_rdv (P := Tryz.prog) 30 5 Tryz.underlying30 Tryz.underlying5 (Rdv.of_owns hu6) 9 Tryz.underlying9
  obtain ⟨ua, uc, rfl, _, _, _⟩ := own_shape hu6
  have M6 := Lib.hid hM6
  clear hM6 o_0 p_0 o_1 p_1
  have o_0 : w6.cell? ⟨w.heap.size + 1 + 1, 8, none⟩ = some (.string ByteArray.empty) := M6.out.oblk.cell (o := 8) rfl
  have p_0 := M6.out.oblk.free 8
  have P6 : Hid (FecM w w.heap.size (w.heap.size + 1 + 1) #[.int .i64 t2, .int .i64 nd2, .int .i64 n3, .int .i64 n1, .int .i64 t4, .int .i64 nd4, .int .i64 t5, .int .i64 nd5, .string (strOfNums b6), .slice none 0 0, .slice none 0 0] (w.heap.size + 1) B v6 s6 (w6.setCell ⟨w.heap.size + 1 + 1, 8, none⟩ (.string (strOfNums b6)))) := Lib.hid (M6.out.put 8 (.string (strOfNums b6)))
  go_wp2_with fail
  refine (gfBytes P6.out Q7.out).mono ?_
  rintro e w7 ⟨d, rfl, hd7, ⟨v7, hM7⟩, _⟩
  obtain ⟨da, dc, rfl, _, _, _⟩ := own_shape hd7
  have HD7 := Lib.hid hd7
  have M7 := Lib.hid hM7
  clear hM7 o_0 p_0
  have o_0 : w7.cell? ⟨w.heap.size + 1 + 1, 9, none⟩ = some (.slice none 0 0) := M7.out.oblk.cell (o := 9) rfl
  have p_0 := M7.out.oblk.free 9
  have P7 : Hid (FecM w w.heap.size (w.heap.size + 1 + 1) #[.int .i64 t2, .int .i64 nd2, .int .i64 n3, .int .i64 n1, .int .i64 t4, .int .i64 nd4, .int .i64 t5, .int .i64 nd5, .string (strOfNums b6), .slice da b7.length dc, .slice none 0 0] (w.heap.size + 1) B v7 s7 (w7.setCell ⟨w.heap.size + 1 + 1, 9, none⟩ (.slice da b7.length dc))) := Lib.hid (M7.out.put 9 (.slice da b7.length dc))
  have hz6 := P6.out.oblk.lt
  have HD7b := Lib.hid (own_set (O := w.heap.size + 1 + 1) (i := 9) (u := .slice da b7.length dc) HD7.out hz6)
  go_wp2_with fail
  refine (gfVec P7.out Q8.out).mono ?_
  rintro e w8 ⟨s, rfl, hs8, ⟨v8, hM8⟩, hR8⟩
  obtain ⟨sa, sc, rfl, _, _, _⟩ := own_shape hs8
  have HS8 := Lib.hid hs8
  have M8 := Lib.hid hM8
  clear hM8 o_0 p_0
  have o_0 : w8.cell? ⟨w.heap.size + 1 + 1, 10, none⟩ = some (.slice none 0 0) := M8.out.oblk.cell (o := 10) rfl
  have p_0 := M8.out.oblk.free 10
  have P8 : Hid (FecM w w.heap.size (w.heap.size + 1 + 1) #[.int .i64 t2, .int .i64 nd2, .int .i64 n3, .int .i64 n1, .int .i64 t4, .int .i64 nd4, .int .i64 t5, .int .i64 nd5, .string (strOfNums b6), .slice da b7.length dc, .slice sa b8.length sc] (w.heap.size + 1) B v8 s8 (w8.setCell ⟨w.heap.size + 1 + 1, 10, none⟩ (.slice sa b8.length sc))) := Lib.hid (M8.out.put 10 (.slice sa b8.length sc))
  have hz7 := P7.out.oblk.lt
  have HD8 := Lib.hid (own_set (O := w.heap.size + 1 + 1) (i := 10) (u := .slice sa b8.length sc) (own_fstep HD7b.out hR8 (by omega)) hz6)
  have HS8b := Lib.hid (own_set (O := w.heap.size + 1 + 1) (i := 10) (u := .slice sa b8.length sc) HS8.out hz7)
  clear hR8
  go_wp2_with fail
  obtain ⟨wz, hwz⟩ : ∃ wz, wz = w8.setCell ⟨w.heap.size + 1 + 1, 10, none⟩ (.slice sa b8.length sc) := ⟨_, rfl⟩
  rw [← hwz] at P8 HD8 HS8b ⊢
  have hz9 := P8.out.oblk.lt
  have KD := Lib.hid (fDone _ _ _ _ _ P8.out.rf)
  clear hwz o_0 p_0 hcv
  have HBD := Lib.hid P8.out.bel
  by_cases hs8 : s8 = some []
  · rw [decide_eq_true hs8] at KD
    have KM := Lib.hid (refMayOp (⟨t2, nd2, n3, n1, t4, nd4, t5, nd5, strOfNums b6, b7, b8⟩ : Opr) (.slice da b7.length dc) (.slice sa b8.length sc) wz (Rdv.of_owns HD8.out) (Rdv.of_owns HS8b.out) hb6.out)
    have x_0 : wz.cell? ⟨w.heap.size + 1 + 1, 0, none⟩ = some (.int .i64 t2) := P8.out.oblk.cell (o := 0) rfl
    have x_1 : wz.cell? ⟨w.heap.size + 1 + 1, 1, none⟩ = some (.int .i64 nd2) := P8.out.oblk.cell (o := 1) rfl
    have x_2 : wz.cell? ⟨w.heap.size + 1 + 1, 2, none⟩ = some (.int .i64 n3) := P8.out.oblk.cell (o := 2) rfl
    have x_3 : wz.cell? ⟨w.heap.size + 1 + 1, 3, none⟩ = some (.int .i64 n1) := P8.out.oblk.cell (o := 3) rfl
    have x_4 : wz.cell? ⟨w.heap.size + 1 + 1, 4, none⟩ = some (.int .i64 t4) := P8.out.oblk.cell (o := 4) rfl
    have x_5 : wz.cell? ⟨w.heap.size + 1 + 1, 5, none⟩ = some (.int .i64 nd4) := P8.out.oblk.cell (o := 5) rfl
    have x_6 : wz.cell? ⟨w.heap.size + 1 + 1, 6, none⟩ = some (.int .i64 t5) := P8.out.oblk.cell (o := 6) rfl
    have x_7 : wz.cell? ⟨w.heap.size + 1 + 1, 7, none⟩ = some (.int .i64 nd5) := P8.out.oblk.cell (o := 7) rfl
    have x_8 : wz.cell? ⟨w.heap.size + 1 + 1, 8, none⟩ = some (.string (strOfNums b6)) := P8.out.oblk.cell (o := 8) rfl
    have x_9 : wz.cell? ⟨w.heap.size + 1 + 1, 9, none⟩ = some (.slice da b7.length dc) := P8.out.oblk.cell (o := 9) rfl
    have x_10 : wz.cell? ⟨w.heap.size + 1 + 1, 10, none⟩ = some (.slice sa b8.length sc) := P8.out.oblk.cell (o := 10) rfl
    cases hm : mayB (⟨t2, nd2, n3, n1, t4, nd4, t5, nd5, strOfNums b6, b7, b8⟩ : Opr)
    · rw [hm] at KM
      have HB : Hid (decB l = false) := Lib.hid (by unfold decB; rw [hR.out]; simp only; rw [hm]; simp)
      clear hm hs8
      go_wp2_with fail
      refine KD.out.mono ?_
      rintro e w9 ⟨rfl, rfl⟩
      go_wp2_with fail
      refine KM.out.mono ?_
      rintro e w10 ⟨rfl, hb10⟩
      have RB := Lib.hid (blkBelow hb10 P8.out.rblk P8.out.rblk.lt)
      have B10 := Lib.hid (HBD.out.trans (hb10.mono HBD.out.size))
      clear hb10 KD KM x_0 x_1 x_2 x_3 x_4 x_5 x_6 x_7 x_8 x_9 x_10
      have e_0 : w10.cell? ⟨w.heap.size, 0, none⟩ = some (.int .i64 0) := RB.out.cell (o := 0) rfl
      have f_0 := RB.out.free 0
      have e_1 : w10.cell? ⟨w.heap.size, 1, none⟩ = some (.int .i64 0) := RB.out.cell (o := 1) rfl
      have f_1 := RB.out.free 1
      have e_2 : w10.cell? ⟨w.heap.size, 2, none⟩ = some (.int .i64 0) := RB.out.cell (o := 2) rfl
      have f_2 := RB.out.free 2
      have e_3 : w10.cell? ⟨w.heap.size, 3, none⟩ = some (.int .i64 0) := RB.out.cell (o := 3) rfl
      have f_3 := RB.out.free 3
      have e_4 : w10.cell? ⟨w.heap.size, 4, none⟩ = some (.int .i64 0) := RB.out.cell (o := 4) rfl
      have f_4 := RB.out.free 4
      have e_5 : w10.cell? ⟨w.heap.size, 5, none⟩ = some (.int .i64 0) := RB.out.cell (o := 5) rfl
      have f_5 := RB.out.free 5
      have e_6 : w10.cell? ⟨w.heap.size, 6, none⟩ = some (.int .i64 0) := RB.out.cell (o := 6) rfl
      have f_6 := RB.out.free 6
      have e_7 : w10.cell? ⟨w.heap.size, 7, none⟩ = some (.int .i64 0) := RB.out.cell (o := 7) rfl
      have f_7 := RB.out.free 7
      have e_8 : w10.cell? ⟨w.heap.size, 8, none⟩ = some (.string ByteArray.empty) := RB.out.cell (o := 8) rfl
      have f_8 := RB.out.free 8
      have e_9 : w10.cell? ⟨w.heap.size, 9, none⟩ = some (.slice none 0 0) := RB.out.cell (o := 9) rfl
      have f_9 := RB.out.free 9
      have e_10 : w10.cell? ⟨w.heap.size, 10, none⟩ = some (.slice none 0 0) := RB.out.cell (o := 10) rfl
      have f_10 := RB.out.free 10
      go_wp2
      exact bodyPost_ret (v := .tuple #[.agg #[.int .i64 0, .int .i64 0, .int .i64 0, .int .i64 0, .int .i64 0, .int .i64 0, .int .i64 0, .int .i64 0, .string ByteArray.empty, .slice none 0 0, .slice none 0 0], .bool false]) (by simp [results, Tryz.results48, go_sem, *] <;> rfl) rfl (hbad.out HB.out _ _ ⟨rfl, Chg.below_trans B10.out (chg11 _ w.heap.size _ _ _ _ _ _ _ _ _ _ _) B10.out.size (fun i hi e => by omega)⟩)
    · rw [hm] at KM
      have HG : Hid (decB l = true) := Lib.hid (by unfold decB; rw [hR.out]; simp only; rw [hm, decide_eq_true hs8]; rfl)
      have HO : Hid (decO l = ⟨t2, nd2, n3, n1, t4, nd4, t5, nd5, strOfNums b6, b7, b8⟩) := Lib.hid (by unfold decO; rw [hR.out])
      clear hm hs8
      go_wp2_with fail
      refine KD.out.mono ?_
      rintro e w9 ⟨rfl, rfl⟩
      go_wp2_with fail
      refine KM.out.mono ?_
      rintro e w10 ⟨rfl, hb10⟩
      have RB := Lib.hid (blkBelow hb10 P8.out.rblk P8.out.rblk.lt)
      have XB := blkBelow hb10 P8.out.oblk P8.out.oblk.lt
      have B10 := Lib.hid (HBD.out.trans (hb10.mono HBD.out.size))
      have HD10 := Lib.hid (ownsRow_below HD8.out hb10)
      have HS10 := Lib.hid (ownsRow_below HS8b.out hb10)
      clear hb10 KD KM x_0 x_1 x_2 x_3 x_4 x_5 x_6 x_7 x_8 x_9 x_10
      have x_0 : w10.cell? ⟨w.heap.size + 1 + 1, 0, none⟩ = some (.int .i64 t2) := XB.cell (o := 0) rfl
      have x_1 : w10.cell? ⟨w.heap.size + 1 + 1, 1, none⟩ = some (.int .i64 nd2) := XB.cell (o := 1) rfl
      have x_2 : w10.cell? ⟨w.heap.size + 1 + 1, 2, none⟩ = some (.int .i64 n3) := XB.cell (o := 2) rfl
      have x_3 : w10.cell? ⟨w.heap.size + 1 + 1, 3, none⟩ = some (.int .i64 n1) := XB.cell (o := 3) rfl
      have x_4 : w10.cell? ⟨w.heap.size + 1 + 1, 4, none⟩ = some (.int .i64 t4) := XB.cell (o := 4) rfl
      have x_5 : w10.cell? ⟨w.heap.size + 1 + 1, 5, none⟩ = some (.int .i64 nd4) := XB.cell (o := 5) rfl
      have x_6 : w10.cell? ⟨w.heap.size + 1 + 1, 6, none⟩ = some (.int .i64 t5) := XB.cell (o := 6) rfl
      have x_7 : w10.cell? ⟨w.heap.size + 1 + 1, 7, none⟩ = some (.int .i64 nd5) := XB.cell (o := 7) rfl
      have x_8 : w10.cell? ⟨w.heap.size + 1 + 1, 8, none⟩ = some (.string (strOfNums b6)) := XB.cell (o := 8) rfl
      have x_9 : w10.cell? ⟨w.heap.size + 1 + 1, 9, none⟩ = some (.slice da b7.length dc) := XB.cell (o := 9) rfl
      have x_10 : w10.cell? ⟨w.heap.size + 1 + 1, 10, none⟩ = some (.slice sa b8.length sc) := XB.cell (o := 10) rfl
      have e_0 : w10.cell? ⟨w.heap.size, 0, none⟩ = some (.int .i64 0) := RB.out.cell (o := 0) rfl
      have f_0 := RB.out.free 0
      have e_1 : w10.cell? ⟨w.heap.size, 1, none⟩ = some (.int .i64 0) := RB.out.cell (o := 1) rfl
      have f_1 := RB.out.free 1
      have e_2 : w10.cell? ⟨w.heap.size, 2, none⟩ = some (.int .i64 0) := RB.out.cell (o := 2) rfl
      have f_2 := RB.out.free 2
      have e_3 : w10.cell? ⟨w.heap.size, 3, none⟩ = some (.int .i64 0) := RB.out.cell (o := 3) rfl
      have f_3 := RB.out.free 3
      have e_4 : w10.cell? ⟨w.heap.size, 4, none⟩ = some (.int .i64 0) := RB.out.cell (o := 4) rfl
      have f_4 := RB.out.free 4
      have e_5 : w10.cell? ⟨w.heap.size, 5, none⟩ = some (.int .i64 0) := RB.out.cell (o := 5) rfl
      have f_5 := RB.out.free 5
      have e_6 : w10.cell? ⟨w.heap.size, 6, none⟩ = some (.int .i64 0) := RB.out.cell (o := 6) rfl
      have f_6 := RB.out.free 6
      have e_7 : w10.cell? ⟨w.heap.size, 7, none⟩ = some (.int .i64 0) := RB.out.cell (o := 7) rfl
      have f_7 := RB.out.free 7
      have e_8 : w10.cell? ⟨w.heap.size, 8, none⟩ = some (.string ByteArray.empty) := RB.out.cell (o := 8) rfl
      have f_8 := RB.out.free 8
      have e_9 : w10.cell? ⟨w.heap.size, 9, none⟩ = some (.slice none 0 0) := RB.out.cell (o := 9) rfl
      have f_9 := RB.out.free 9
      have e_10 : w10.cell? ⟨w.heap.size, 10, none⟩ = some (.slice none 0 0) := RB.out.cell (o := 10) rfl
      have f_10 := RB.out.free 10
      clear XB
      go_wp2
      exact bodyPost_ret (v := .tuple #[.agg #[.int .i64 t2, .int .i64 nd2, .int .i64 n3, .int .i64 n1, .int .i64 t4, .int .i64 nd4, .int .i64 t5, .int .i64 nd5, .string (strOfNums b6), .slice da b7.length dc, .slice sa b8.length sc], .bool true]) (by simp [results, Tryz.results48, go_sem, *] <;> rfl) rfl (by
        unfold RDecPost
        rw [if_pos HG.out, HO.out]
        have g := chg11 w10 w.heap.size (.int .i64 t2) (.int .i64 nd2) (.int .i64 n3) (.int .i64 n1) (.int .i64 t4) (.int .i64 nd4) (.int .i64 t5) (.int .i64 nd5) (.string (strOfNums b6)) (.slice da b7.length dc) (.slice sa b8.length sc)
        exact ⟨_, _, rfl, own_down (own_chgR HD10.out g (by omega)) (by omega), own_down (own_chgR HS10.out g (by omega)) (by omega), Chg.below_trans B10.out g B10.out.size (fun i hi e => by omega)⟩)
  · rw [decide_eq_false hs8] at KD
    have HB : Hid (decB l = false) := Lib.hid (by unfold decB; rw [hR.out]; simp only; rw [decide_eq_false hs8]; rfl)
    clear hs8
    have RB := Lib.hid P8.out.rblk
    have B10 := HBD
    go_wp2_with fail
    refine KD.out.mono ?_
    rintro e w10 ⟨rfl, rfl⟩
    have e_0 : wz.cell? ⟨w.heap.size, 0, none⟩ = some (.int .i64 0) := RB.out.cell (o := 0) rfl
    have f_0 := RB.out.free 0
    have e_1 : wz.cell? ⟨w.heap.size, 1, none⟩ = some (.int .i64 0) := RB.out.cell (o := 1) rfl
    have f_1 := RB.out.free 1
    have e_2 : wz.cell? ⟨w.heap.size, 2, none⟩ = some (.int .i64 0) := RB.out.cell (o := 2) rfl
    have f_2 := RB.out.free 2
    have e_3 : wz.cell? ⟨w.heap.size, 3, none⟩ = some (.int .i64 0) := RB.out.cell (o := 3) rfl
    have f_3 := RB.out.free 3
    have e_4 : wz.cell? ⟨w.heap.size, 4, none⟩ = some (.int .i64 0) := RB.out.cell (o := 4) rfl
    have f_4 := RB.out.free 4
    have e_5 : wz.cell? ⟨w.heap.size, 5, none⟩ = some (.int .i64 0) := RB.out.cell (o := 5) rfl
    have f_5 := RB.out.free 5
    have e_6 : wz.cell? ⟨w.heap.size, 6, none⟩ = some (.int .i64 0) := RB.out.cell (o := 6) rfl
    have f_6 := RB.out.free 6
    have e_7 : wz.cell? ⟨w.heap.size, 7, none⟩ = some (.int .i64 0) := RB.out.cell (o := 7) rfl
    have f_7 := RB.out.free 7
    have e_8 : wz.cell? ⟨w.heap.size, 8, none⟩ = some (.string ByteArray.empty) := RB.out.cell (o := 8) rfl
    have f_8 := RB.out.free 8
    have e_9 : wz.cell? ⟨w.heap.size, 9, none⟩ = some (.slice none 0 0) := RB.out.cell (o := 9) rfl
    have f_9 := RB.out.free 9
    have e_10 : wz.cell? ⟨w.heap.size, 10, none⟩ = some (.slice none 0 0) := RB.out.cell (o := 10) rfl
    have f_10 := RB.out.free 10
    go_wp2
    exact bodyPost_ret (v := .tuple #[.agg #[.int .i64 0, .int .i64 0, .int .i64 0, .int .i64 0, .int .i64 0, .int .i64 0, .int .i64 0, .int .i64 0, .string ByteArray.empty, .slice none 0 0, .slice none 0 0], .bool false]) (by simp [results, Tryz.results48, go_sem, *] <;> rfl) rfl (hbad.out HB.out _ _ ⟨rfl, Chg.below_trans B10.out (chg11 _ w.heap.size _ _ _ _ _ _ _ _ _ _ _) B10.out.size (fun i hi e => by omega)⟩)
end Go.Proofs.YthbalmoafpggdaaGreat
namespace Go.Proofs.YthbalmoafpggdaaGreat
open Go.RowKit
set_option linter.unusedVariables false
set_option linter.unusedSimpArgs false
theorem ofNums_inj : ∀ (xs ys : List Int), (∀ q ∈ xs, 0 ≤ q ∧ q < 256) → (∀ q ∈ ys, 0 ≤ q ∧ q < 256) → xs.map (fun n => UInt8.ofNat n.toNat) = ys.map (fun n => UInt8.ofNat n.toNat) → xs = ys
  | [], [], _, _, _ => rfl
  | [], y :: ys, _, _, h => by simp at h
  | x :: xs, [], _, _, h => by simp at h
  | x :: xs, y :: ys, hx, hy, h => by
    simp only [List.map_cons, List.cons.injEq] at h
    have h1 := hx x (by simp)
    have h2 := hy y (by simp)
    have e := congrArg UInt8.toNat h.1
    rw [UInt8.toNat_ofNat', UInt8.toNat_ofNat'] at e
    rw [ofNums_inj xs ys (fun q hq => hx q (by simp [hq])) (fun q hq => hy q (by simp [hq])) h.2, show x = y by omega]
theorem str_eq (xs ys : List Int) (hx : ∀ q ∈ xs, 0 ≤ q ∧ q < 256) (hy : ∀ q ∈ ys, 0 ≤ q ∧ q < 256) : ((strOfNums xs).toList == (strOfNums ys).toList) = decide (xs = ys) := by
  rw [Lib.strOfNums_toList, Lib.strOfNums_toList]
  by_cases e : xs = ys
  · subst e; simp
  · rw [decide_eq_false e, beq_eq_false_iff_ne]
    intro h
    exact e (ofNums_inj xs ys hx hy h)
end Go.Proofs.YthbalmoafpggdaaGreat
namespace Go.Proofs.YthbalmoafpggdaaGreat
open Go.RowKit
set_option linter.unusedVariables false
set_option linter.unusedSimpArgs false
def eqB (a b : Opr) : Bool := (decide (a.time = b.time) && decide (a.node = b.node)) && (a.seq == b.seq) && (a.kind == b.kind) && (decide (a.ot = b.ot) && decide (a.on = b.on)) && (decide (a.pt = b.pt) && decide (a.pn = b.pn)) && (a.name.toList == b.name.toList) && decide (a.data = b.data) && (leqB a.seen b.seen && leqB b.seen a.seen)
theorem leqB_refl (xs : List Int) : leqB xs xs = true := (leqB_iff xs xs).2 (fun k _ => Int.le_refl _)
theorem eqB_refl (a : Opr) : eqB a a = true := by unfold eqB; simp [leqB_refl]
end Go.Proofs.YthbalmoafpggdaaGreat
namespace Go.Proofs.YthbalmoafpggdaaGreat
open Go.RowKit
set_option linter.unusedVariables false
set_option linter.unusedSimpArgs false
structure QMid (w : World) (b1 b2 : Nat) (cs1 cs2 : Array Value) (w' : World) : Prop where
  blk1 : Blk w' b1 cs1 46
  blk2 : Blk w' b2 cs2 46
  bel : Below w.heap.size w w'
theorem QMid.below {w W w' : World} {b1 b2 : Nat} {cs1 cs2 : Array Value} (h : QMid w b1 b2 cs1 cs2 W) (hb : Below W.heap.size W w') : QMid w b1 b2 cs1 cs2 w' := ⟨blkBelow hb h.blk1 h.blk1.lt, blkBelow hb h.blk2 h.blk2.lt, h.bel.trans (hb.mono h.bel.size)⟩
set_option maxHeartbeats 4000000 in
set_option maxRecDepth 100000 in
theorem refOpEq (a b : Opr) (d s d2 s2 : Value) (w : World) (hd : Rdv u8v w d a.data) (hs : Rdv i64v w s a.seen) (hd2 : Rdv u8v w d2 b.data) (hs2 : Rdv i64v w s2 b.seen) (ha : Byt a.data) (hb : Byt b.data) :
    Calls Tryz.prog 43 #[.agg #[.int .i64 (a).time, .int .i64 (a).node, .int .i64 (a).seq, .int .i64 (a).kind, .int .i64 (a).ot, .int .i64 (a).on, .int .i64 (a).pt, .int .i64 (a).pn, .string (a).name, d, s], .agg #[.int .i64 (b).time, .int .i64 (b).node, .int .i64 (b).seq, .int .i64 (b).kind, .int .i64 (b).ot, .int .i64 (b).on, .int .i64 (b).pt, .int .i64 (b).pn, .string (b).name, d2, s2]] w fun e w' => e = .returned (.bool (eqB a b)) ∧ Below w.heap.size w w' := by
  have KC1 := Lib.hid (fun w' hw => conv_rdv (P := Tryz.prog) 30 5 Tryz.underlying30 Tryz.underlying5 (hd.below hw) 9 Tryz.underlying9 : ∀ w', Below w.heap.size w w' → _)
  have KC2 := Lib.hid (fun w' hw => conv_rdv (P := Tryz.prog) 30 5 Tryz.underlying30 Tryz.underlying5 (hd2.below hw) 9 Tryz.underlying9 : ∀ w', Below w.heap.size w w' → _)
  have KV := Lib.hid (fun w' hw => refEq s s2 a.seen b.seen w' (hs.below hw) (hs2.below hw) : ∀ w', Below w.heap.size w w' → _)
  have hse := str_eq a.data b.data ha hb
  obtain ⟨da, dn, dc, rfl⟩ := hd.shape
  obtain ⟨da2, dn2, dc2, rfl⟩ := hd2.shape
  clear hd hs hd2 hs2 ha hb
  obtain ⟨time, node, seq, kind, ot, on, pt, pn, name, data, xs⟩ := a
  obtain ⟨time2, node2, seq2, kind2, ot2, on2, pt2, pn2, name2, data2, xs2⟩ := b
  simp only at *
  obtain ⟨b1, h1⟩ : ∃ b1, (decide (time = time2) && decide (node = node2)) = b1 := ⟨_, rfl⟩
  obtain ⟨b2, h2⟩ : ∃ b2, (seq == seq2) = b2 := ⟨_, rfl⟩
  obtain ⟨b3, h3⟩ : ∃ b3, (kind == kind2) = b3 := ⟨_, rfl⟩
  obtain ⟨b4, h4⟩ : ∃ b4, (decide (ot = ot2) && decide (on = on2)) = b4 := ⟨_, rfl⟩
  obtain ⟨b5, h5⟩ : ∃ b5, (decide (pt = pt2) && decide (pn = pn2)) = b5 := ⟨_, rfl⟩
  obtain ⟨b6, h6⟩ : ∃ b6, (name.toList == name2.toList) = b6 := ⟨_, rfl⟩
  obtain ⟨b7, h7⟩ : ∃ b7, decide (data = data2) = b7 := ⟨_, rfl⟩
  obtain ⟨b8, h8⟩ : ∃ b8, (leqB xs xs2 && leqB xs2 xs) = b8 := ⟨_, rfl⟩
  have HE : Hid (eqB ⟨time, node, seq, kind, ot, on, pt, pn, name, data, xs⟩ ⟨time2, node2, seq2, kind2, ot2, on2, pt2, pn2, name2, data2, xs2⟩ = (b1 && b2 && b3 && b4 && b5 && b6 && b7 && b8)) := Lib.hid (by unfold eqB; simp only; rw [h1, h2, h3, h4, h5, h6, h7, h8])
  rw [h7] at hse
  rw [h8] at KV
  have KS1 := Lib.hid (fun w => refSameG time node time2 node2 w)
  have KS4 := Lib.hid (fun w => refSameG ot on ot2 on2 w)
  have KS5 := Lib.hid (fun w => refSameG pt pn pt2 pn2 w)
  rw [h1] at KS1
  rw [h4] at KS4
  rw [h5] at KS5
  clear h1 h4 h5 h7 h8
  have AL := ((Below.refl w.heap.size w).alloc (Nat.le_refl _) (.cells #[.int .i64 time, .int .i64 node, .int .i64 seq, .int .i64 kind, .int .i64 ot, .int .i64 on, .int .i64 pt, .int .i64 pn, .string name, .slice da dn dc, s] 46)).alloc (by simp) (.cells #[.int .i64 time2, .int .i64 node2, .int .i64 seq2, .int .i64 kind2, .int .i64 ot2, .int .i64 on2, .int .i64 pt2, .int .i64 pn2, .string name2, .slice da2 dn2 dc2, s2] 46)
  have Q0 : Hid (QMid w w.heap.size (w.heap.size + 1) #[.int .i64 time, .int .i64 node, .int .i64 seq, .int .i64 kind, .int .i64 ot, .int .i64 on, .int .i64 pt, .int .i64 pn, .string name, .slice da dn dc, s] #[.int .i64 time2, .int .i64 node2, .int .i64 seq2, .int .i64 kind2, .int .i64 ot2, .int .i64 on2, .int .i64 pt2, .int .i64 pn2, .string name2, .slice da2 dn2 dc2, s2] ((w.alloc (.cells #[.int .i64 time, .int .i64 node, .int .i64 seq, .int .i64 kind, .int .i64 ot, .int .i64 on, .int .i64 pt, .int .i64 pn, .string name, .slice da dn dc, s] 46)).alloc (.cells #[.int .i64 time2, .int .i64 node2, .int .i64 seq2, .int .i64 kind2, .int .i64 ot2, .int .i64 on2, .int .i64 pt2, .int .i64 pn2, .string name2, .slice da2 dn2 dc2, s2] 46))) := Lib.hid ⟨(Blk.new _ _ _).alloc _, by have := Blk.new (w.alloc (.cells #[.int .i64 time, .int .i64 node, .int .i64 seq, .int .i64 kind, .int .i64 ot, .int .i64 on, .int .i64 pt, .int .i64 pn, .string name, .slice da dn dc, s] 46)) #[.int .i64 time2, .int .i64 node2, .int .i64 seq2, .int .i64 kind2, .int .i64 ot2, .int .i64 on2, .int .i64 pt2, .int .i64 pn2, .string name2, .slice da2 dn2 dc2, s2] 46; simpa using this, AL⟩
  clear AL
  go_enter Tryz.func43, Tryz.ntmps43
  go_wp2_with fail
  refine (KS1.out _).mono ?_
  rintro e w1 ⟨rfl, hb1⟩
  have Q1 := Lib.hid (Q0.out.below hb1)
  clear hb1
  (try clear c_0 c_1 c_2 c_3 c_4 c_5 c_6 c_7 c_8 c_9 c_10 g_0 g_1 g_2 g_3 g_4 g_5 g_6 g_7 g_8 g_9 g_10)
  have c_0 : w1.cell? ⟨w.heap.size, 0, none⟩ = some (.int .i64 time) := (Q1.out.blk1).cell (o := 0) rfl
  have c_1 : w1.cell? ⟨w.heap.size, 1, none⟩ = some (.int .i64 node) := (Q1.out.blk1).cell (o := 1) rfl
  have c_2 : w1.cell? ⟨w.heap.size, 2, none⟩ = some (.int .i64 seq) := (Q1.out.blk1).cell (o := 2) rfl
  have c_3 : w1.cell? ⟨w.heap.size, 3, none⟩ = some (.int .i64 kind) := (Q1.out.blk1).cell (o := 3) rfl
  have c_4 : w1.cell? ⟨w.heap.size, 4, none⟩ = some (.int .i64 ot) := (Q1.out.blk1).cell (o := 4) rfl
  have c_5 : w1.cell? ⟨w.heap.size, 5, none⟩ = some (.int .i64 on) := (Q1.out.blk1).cell (o := 5) rfl
  have c_6 : w1.cell? ⟨w.heap.size, 6, none⟩ = some (.int .i64 pt) := (Q1.out.blk1).cell (o := 6) rfl
  have c_7 : w1.cell? ⟨w.heap.size, 7, none⟩ = some (.int .i64 pn) := (Q1.out.blk1).cell (o := 7) rfl
  have c_8 : w1.cell? ⟨w.heap.size, 8, none⟩ = some (.string name) := (Q1.out.blk1).cell (o := 8) rfl
  have c_9 : w1.cell? ⟨w.heap.size, 9, none⟩ = some (.slice da dn dc) := (Q1.out.blk1).cell (o := 9) rfl
  have c_10 : w1.cell? ⟨w.heap.size, 10, none⟩ = some (s) := (Q1.out.blk1).cell (o := 10) rfl
  have g_0 : w1.cell? ⟨(w.heap.size + 1), 0, none⟩ = some (.int .i64 time2) := (Q1.out.blk2).cell (o := 0) rfl
  have g_1 : w1.cell? ⟨(w.heap.size + 1), 1, none⟩ = some (.int .i64 node2) := (Q1.out.blk2).cell (o := 1) rfl
  have g_2 : w1.cell? ⟨(w.heap.size + 1), 2, none⟩ = some (.int .i64 seq2) := (Q1.out.blk2).cell (o := 2) rfl
  have g_3 : w1.cell? ⟨(w.heap.size + 1), 3, none⟩ = some (.int .i64 kind2) := (Q1.out.blk2).cell (o := 3) rfl
  have g_4 : w1.cell? ⟨(w.heap.size + 1), 4, none⟩ = some (.int .i64 ot2) := (Q1.out.blk2).cell (o := 4) rfl
  have g_5 : w1.cell? ⟨(w.heap.size + 1), 5, none⟩ = some (.int .i64 on2) := (Q1.out.blk2).cell (o := 5) rfl
  have g_6 : w1.cell? ⟨(w.heap.size + 1), 6, none⟩ = some (.int .i64 pt2) := (Q1.out.blk2).cell (o := 6) rfl
  have g_7 : w1.cell? ⟨(w.heap.size + 1), 7, none⟩ = some (.int .i64 pn2) := (Q1.out.blk2).cell (o := 7) rfl
  have g_8 : w1.cell? ⟨(w.heap.size + 1), 8, none⟩ = some (.string name2) := (Q1.out.blk2).cell (o := 8) rfl
  have g_9 : w1.cell? ⟨(w.heap.size + 1), 9, none⟩ = some (.slice da2 dn2 dc2) := (Q1.out.blk2).cell (o := 9) rfl
  have g_10 : w1.cell? ⟨(w.heap.size + 1), 10, none⟩ = some (s2) := (Q1.out.blk2).cell (o := 10) rfl
  cases b1
  · go_wp2
    go_ret
    exact ⟨ret_b (by rw [HE.out]; first | rfl | simp), Q1.out.bel⟩
  cases b2
  · go_wp2
    go_ret
    exact ⟨ret_b (by rw [HE.out]; first | rfl | simp), Q1.out.bel⟩
  cases b3
  · go_wp2
    go_ret
    exact ⟨ret_b (by rw [HE.out]; first | rfl | simp), Q1.out.bel⟩
  go_wp2_with fail
  refine (KS4.out _).mono ?_
  rintro e w2 ⟨rfl, hb2⟩
  have Q2 := Lib.hid (Q1.out.below hb2)
  clear hb2
  (try clear c_0 c_1 c_2 c_3 c_4 c_5 c_6 c_7 c_8 c_9 c_10 g_0 g_1 g_2 g_3 g_4 g_5 g_6 g_7 g_8 g_9 g_10)
  have c_0 : w2.cell? ⟨w.heap.size, 0, none⟩ = some (.int .i64 time) := (Q2.out.blk1).cell (o := 0) rfl
  have c_1 : w2.cell? ⟨w.heap.size, 1, none⟩ = some (.int .i64 node) := (Q2.out.blk1).cell (o := 1) rfl
  have c_2 : w2.cell? ⟨w.heap.size, 2, none⟩ = some (.int .i64 seq) := (Q2.out.blk1).cell (o := 2) rfl
  have c_3 : w2.cell? ⟨w.heap.size, 3, none⟩ = some (.int .i64 kind) := (Q2.out.blk1).cell (o := 3) rfl
  have c_4 : w2.cell? ⟨w.heap.size, 4, none⟩ = some (.int .i64 ot) := (Q2.out.blk1).cell (o := 4) rfl
  have c_5 : w2.cell? ⟨w.heap.size, 5, none⟩ = some (.int .i64 on) := (Q2.out.blk1).cell (o := 5) rfl
  have c_6 : w2.cell? ⟨w.heap.size, 6, none⟩ = some (.int .i64 pt) := (Q2.out.blk1).cell (o := 6) rfl
  have c_7 : w2.cell? ⟨w.heap.size, 7, none⟩ = some (.int .i64 pn) := (Q2.out.blk1).cell (o := 7) rfl
  have c_8 : w2.cell? ⟨w.heap.size, 8, none⟩ = some (.string name) := (Q2.out.blk1).cell (o := 8) rfl
  have c_9 : w2.cell? ⟨w.heap.size, 9, none⟩ = some (.slice da dn dc) := (Q2.out.blk1).cell (o := 9) rfl
  have c_10 : w2.cell? ⟨w.heap.size, 10, none⟩ = some (s) := (Q2.out.blk1).cell (o := 10) rfl
  have g_0 : w2.cell? ⟨(w.heap.size + 1), 0, none⟩ = some (.int .i64 time2) := (Q2.out.blk2).cell (o := 0) rfl
  have g_1 : w2.cell? ⟨(w.heap.size + 1), 1, none⟩ = some (.int .i64 node2) := (Q2.out.blk2).cell (o := 1) rfl
  have g_2 : w2.cell? ⟨(w.heap.size + 1), 2, none⟩ = some (.int .i64 seq2) := (Q2.out.blk2).cell (o := 2) rfl
  have g_3 : w2.cell? ⟨(w.heap.size + 1), 3, none⟩ = some (.int .i64 kind2) := (Q2.out.blk2).cell (o := 3) rfl
  have g_4 : w2.cell? ⟨(w.heap.size + 1), 4, none⟩ = some (.int .i64 ot2) := (Q2.out.blk2).cell (o := 4) rfl
  have g_5 : w2.cell? ⟨(w.heap.size + 1), 5, none⟩ = some (.int .i64 on2) := (Q2.out.blk2).cell (o := 5) rfl
  have g_6 : w2.cell? ⟨(w.heap.size + 1), 6, none⟩ = some (.int .i64 pt2) := (Q2.out.blk2).cell (o := 6) rfl
  have g_7 : w2.cell? ⟨(w.heap.size + 1), 7, none⟩ = some (.int .i64 pn2) := (Q2.out.blk2).cell (o := 7) rfl
  have g_8 : w2.cell? ⟨(w.heap.size + 1), 8, none⟩ = some (.string name2) := (Q2.out.blk2).cell (o := 8) rfl
  have g_9 : w2.cell? ⟨(w.heap.size + 1), 9, none⟩ = some (.slice da2 dn2 dc2) := (Q2.out.blk2).cell (o := 9) rfl
  have g_10 : w2.cell? ⟨(w.heap.size + 1), 10, none⟩ = some (s2) := (Q2.out.blk2).cell (o := 10) rfl
  cases b4
  · go_wp2
    go_ret
    exact ⟨ret_b (by rw [HE.out]; first | rfl | simp), Q2.out.bel⟩
  go_wp2_with fail
  refine (KS5.out _).mono ?_
  rintro e w3 ⟨rfl, hb3⟩
  have Q3 := Lib.hid (Q2.out.below hb3)
  clear hb3
  (try clear c_0 c_1 c_2 c_3 c_4 c_5 c_6 c_7 c_8 c_9 c_10 g_0 g_1 g_2 g_3 g_4 g_5 g_6 g_7 g_8 g_9 g_10)
  have c_0 : w3.cell? ⟨w.heap.size, 0, none⟩ = some (.int .i64 time) := (Q3.out.blk1).cell (o := 0) rfl
  have c_1 : w3.cell? ⟨w.heap.size, 1, none⟩ = some (.int .i64 node) := (Q3.out.blk1).cell (o := 1) rfl
  have c_2 : w3.cell? ⟨w.heap.size, 2, none⟩ = some (.int .i64 seq) := (Q3.out.blk1).cell (o := 2) rfl
  have c_3 : w3.cell? ⟨w.heap.size, 3, none⟩ = some (.int .i64 kind) := (Q3.out.blk1).cell (o := 3) rfl
  have c_4 : w3.cell? ⟨w.heap.size, 4, none⟩ = some (.int .i64 ot) := (Q3.out.blk1).cell (o := 4) rfl
  have c_5 : w3.cell? ⟨w.heap.size, 5, none⟩ = some (.int .i64 on) := (Q3.out.blk1).cell (o := 5) rfl
  have c_6 : w3.cell? ⟨w.heap.size, 6, none⟩ = some (.int .i64 pt) := (Q3.out.blk1).cell (o := 6) rfl
  have c_7 : w3.cell? ⟨w.heap.size, 7, none⟩ = some (.int .i64 pn) := (Q3.out.blk1).cell (o := 7) rfl
  have c_8 : w3.cell? ⟨w.heap.size, 8, none⟩ = some (.string name) := (Q3.out.blk1).cell (o := 8) rfl
  have c_9 : w3.cell? ⟨w.heap.size, 9, none⟩ = some (.slice da dn dc) := (Q3.out.blk1).cell (o := 9) rfl
  have c_10 : w3.cell? ⟨w.heap.size, 10, none⟩ = some (s) := (Q3.out.blk1).cell (o := 10) rfl
  have g_0 : w3.cell? ⟨(w.heap.size + 1), 0, none⟩ = some (.int .i64 time2) := (Q3.out.blk2).cell (o := 0) rfl
  have g_1 : w3.cell? ⟨(w.heap.size + 1), 1, none⟩ = some (.int .i64 node2) := (Q3.out.blk2).cell (o := 1) rfl
  have g_2 : w3.cell? ⟨(w.heap.size + 1), 2, none⟩ = some (.int .i64 seq2) := (Q3.out.blk2).cell (o := 2) rfl
  have g_3 : w3.cell? ⟨(w.heap.size + 1), 3, none⟩ = some (.int .i64 kind2) := (Q3.out.blk2).cell (o := 3) rfl
  have g_4 : w3.cell? ⟨(w.heap.size + 1), 4, none⟩ = some (.int .i64 ot2) := (Q3.out.blk2).cell (o := 4) rfl
  have g_5 : w3.cell? ⟨(w.heap.size + 1), 5, none⟩ = some (.int .i64 on2) := (Q3.out.blk2).cell (o := 5) rfl
  have g_6 : w3.cell? ⟨(w.heap.size + 1), 6, none⟩ = some (.int .i64 pt2) := (Q3.out.blk2).cell (o := 6) rfl
  have g_7 : w3.cell? ⟨(w.heap.size + 1), 7, none⟩ = some (.int .i64 pn2) := (Q3.out.blk2).cell (o := 7) rfl
  have g_8 : w3.cell? ⟨(w.heap.size + 1), 8, none⟩ = some (.string name2) := (Q3.out.blk2).cell (o := 8) rfl
  have g_9 : w3.cell? ⟨(w.heap.size + 1), 9, none⟩ = some (.slice da2 dn2 dc2) := (Q3.out.blk2).cell (o := 9) rfl
  have g_10 : w3.cell? ⟨(w.heap.size + 1), 10, none⟩ = some (s2) := (Q3.out.blk2).cell (o := 10) rfl
  cases b5
  · go_wp2
    go_ret
    exact ⟨ret_b (by rw [HE.out]; first | rfl | simp), Q3.out.bel⟩
  cases b6
  · go_wp2
    go_ret
    exact ⟨ret_b (by rw [HE.out]; first | rfl | simp), Q3.out.bel⟩
  have hc1 := KC1.out _ Q3.out.bel
  have hc2 := KC2.out _ Q3.out.bel
  cases b7
  · go_wp2
    go_ret
    exact ⟨ret_b (by rw [HE.out]; first | rfl | simp), Q3.out.bel⟩
  go_wp2_with fail
  refine (KV.out _ Q3.out.bel).mono ?_
  rintro e w4 ⟨rfl, rfl⟩
  go_wp2
  go_ret
  exact ⟨ret_b (by rw [HE.out]; first | rfl | simp), Q3.out.bel⟩
end Go.Proofs.YthbalmoafpggdaaGreat
namespace Go.Proofs.YthbalmoafpggdaaGreat
open Go.RowKit
set_option linter.unusedVariables false
set_option linter.unusedSimpArgs false
def o0 : Opr := ⟨5, 2, 1, 1, 5, 2, 0, 0, ⟨#[97]⟩, [], []⟩
def l0 : List Int := [1, 5, 2, 1, 5, 2, 0, 0, 1, 97, 0, 0]
theorem o0_may : mayB o0 = true := by kernel_rfl
theorem o0_L : opL o0 = l0 := by kernel_rfl
theorem l0_decB : decB l0 = true := by kernel_rfl
theorem l0_decO : decO l0 = o0 := by kernel_rfl
theorem o0_name : nameE [97, 1] = 22 := by kernel_rfl
def OTrue (w : World) (e : Ending) (w' : World) : Prop := e = .returned (.bool true) ∧ Below w.heap.size w w'
end Go.Proofs.YthbalmoafpggdaaGreat
namespace Go.Proofs.YthbalmoafpggdaaGreat
open Go.RowKit
set_option linter.unusedVariables false
set_option linter.unusedSimpArgs false
theorem shortC (v : Value) (l : List Int) (n : Nat) (w : World) (h : Rdv u8v w v l) (hn : n ≤ 1000000) :
    Calls Tryz.prog 13 #[v, .int .i64 n] w fun e w' => (∃ v', e = .returned v' ∧ Rdv u8v w v' (l.take n)) ∧ w = w' := by
  obtain ⟨a, m, c, rfl⟩ := h.shape
  have hT := h.take
  have h0 := h
  obtain ⟨rfl, h1, h2, h3⟩ := h.cap
  unfold maxLen at h2
  have HT := Lib.hid hT
  have H0 := Lib.hid h0
  clear hT h0 h3 h
  by_cases hc : n < l.length
  · go_enter Tryz.func13, Tryz.ntmps13
    go_wp2
    have hT := HT.out n c (by omega) (by omega) (by omega)
    go_ret
    exact ⟨⟨_, rfl, hT⟩, rfl⟩
  · have e : Hid (l.take n = l) := List.take_of_length_le (by omega)
    go_enter Tryz.func13, Tryz.ntmps13
    go_wp2
    go_ret
    exact ⟨⟨_, rfl, by rw [e.out]; exact H0.out⟩, rfl⟩
theorem shortC3 (a : Option Addr) (l : List Int) (c n : Nat) (w : World) (hn : n ≤ 1000000) (h1 : l.length ≤ c) (h2 : c ≤ 9223372036854775807) :
    Calls Tryz.prog 13 #[.slice a l.length c, .int .i64 n] w fun e w' => (∃ v', e = .returned v' ∧ ∀ w0, Rdv u8v w0 (.slice a l.length c) l → Rdv u8v w0 v' (l.take n)) ∧ w = w' := by
  by_cases hc : n < l.length
  · have HT : Hid (∀ w0, Rdv u8v w0 (.slice a l.length c) l → Rdv u8v w0 (.slice a n c) (l.take n)) := fun w0 h => h.take n c (by omega) (by omega) (by omega)
    go_enter Tryz.func13, Tryz.ntmps13
    go_wp2
    have hT := HT.out
    go_ret
    exact ⟨⟨_, rfl, hT⟩, rfl⟩
  · have e : Hid (l.take n = l) := List.take_of_length_le (by omega)
    go_enter Tryz.func13, Tryz.ntmps13
    go_wp2
    go_ret
    exact ⟨⟨_, rfl, fun w0 h => by rw [e.out]; exact h⟩, rfl⟩
end Go.Proofs.YthbalmoafpggdaaGreat
namespace Go.Proofs.YthbalmoafpggdaaGreat
open Go.RowKit
set_option linter.unusedVariables false
set_option linter.unusedSimpArgs false
theorem Byt.take {l : List Int} (h : Byt l) (k : Nat) : Byt (l.take k) := fun q hq => h q (List.mem_of_mem_take hq)
theorem Byt.drop {l : List Int} (h : Byt l) (k : Nat) : Byt (l.drop k) := fun q hq => h q (List.mem_of_mem_drop hq)
theorem Byt.append {l m : List Int} (h : Byt l) (k : Byt m) : Byt (l ++ m) := fun q hq => by
  rcases List.mem_append.1 hq with hq | hq
  · exact h q hq
  · exact k q hq
end Go.Proofs.YthbalmoafpggdaaGreat

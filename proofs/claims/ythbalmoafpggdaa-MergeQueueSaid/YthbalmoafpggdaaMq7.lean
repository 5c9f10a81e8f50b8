/- merge: the law's begun. -/
import Derived.Test.YthbalmoafpggdaaChecked
import Derived.WalkKit
import Derived.Outline
import Derived.WalkSpells
import Derived.WalkLawsBesides
import Derived.Deep.QuietTactic
import Derived.Deep.RegionWith
import Derived.Deep.DeepMust
import Derived.BigQuiet
import Derived.Test.YthbalmoafpggdaaMem
import Derived.RegionTactic
import Derived.ChangeAlike
import Derived.StillTailTactics
import Derived.BigRegion
import Derived.Deep.RegionHeld3
import Derived.Deep.RegionLaw
import Derived.Deep.AppendLies
import Derived.Deep.DeepCutAuto
import Derived.Deep.CutBlock
import Derived.Test.YthbalmoafpggdaaMq6
namespace Go.Proofs.Ythbalmoafpggdaa
open Go.RowKit
set_option linter.unusedVariables false
set_option linter.unusedSimpArgs false
/-- Two lists in the queue's order that hold the same are the same. -/
theorem mq_uniq (back : Bool) (l1 l2 : List Mit) (hp : l1.Perm l2) (h1 : l1.Pairwise (fun a b => mlt back b a = false)) (h2 : l2.Pairwise (fun a b => mlt back b a = false)) (hc : ∀ x ∈ l1, ∀ y ∈ l1, x.came = y.came → x = y) : l1 = l2 := by
  refine List.Perm.eq_of_pairwise (le := fun a b => mlt back b a = false) (fun a b ha hb h3 h4 => ?_) h1 h2 hp
  have hb' := hp.mem_iff.2 hb
  refine hc a ha b hb' ?_
  rw [mlt_no, mlt_iff] at h3 h4
  cases back
  all_goals simp only [Bool.false_eq_true, if_false, if_true] at h3 h4
  all_goals omega
theorem num_came : ∀ (ps : List P3) (n : Nat) (x : Mit), x ∈ num n ps → (n : Int) < x.came
  | [], _, x, h => by cases h
  | p :: ps, n, x, h => by
    rcases List.mem_cons.1 h with rfl | h
    · simp; omega
    · have := num_came ps (n + 1) x h
      omega
theorem num_inj : ∀ (ps : List P3) (n : Nat) (x y : Mit), x ∈ num n ps → y ∈ num n ps → x.came = y.came → x = y
  | [], _, x, y, h, _, _ => by cases h
  | p :: ps, n, x, y, hx, hy, e => by
    rcases List.mem_cons.1 hx with rfl | hx
    · rcases List.mem_cons.1 hy with rfl | hy
      · rfl
      · have := num_came ps (n + 1) y hy
        simp at e; omega
    · rcases List.mem_cons.1 hy with rfl | hy
      · have := num_came ps (n + 1) x hx
        simp at e; omega
      · exact num_inj ps (n + 1) x y hx hy e
theorem sorted_two (ys : List Mit) (h1 : ys.Perm (num 0 [⟨5, 0, 1⟩, ⟨2, 0, 2⟩])) (h2 : ys.Pairwise (fun a b => mlt false b a = false)) : ys.map toP = [⟨2, 0, 2⟩, ⟨5, 0, 1⟩] := by
  have e : ys = [⟨2, 0, 2, 2⟩, ⟨5, 0, 1, 1⟩] := by
    refine mq_uniq false ys _ (h1.trans ?_) h2 ?_ (fun x hx y hy => num_inj _ 0 x y (h1.mem_iff.1 hx) (h1.mem_iff.1 hy))
    · exact List.Perm.swap _ _ _
    · simp [mlt, lf, idLt]
  rw [e]; rfl
theorem ops_one {w : World} {g : Nat} (p : P3) (h : Blk w g #[.int .i64 p.time, .int .i64 p.node, .int .i64 0, .int .i64 p.mark, .int .i64 0, .int .i64 0, .int .i64 0, .int .i64 0, .string ByteArray.empty, .slice none 0 0, .slice none 0 0] 58) : OpsRd w (.slice (some ⟨g, 0, none⟩) 1 1) [p] := by
  refine ⟨_, 1, rfl, by simp, by decide, .inr ⟨g, 0, rfl, fun i q hq => ?_⟩⟩
  rcases i with _ | i
  · simp at hq
    subst hq
    exact ⟨h.cell rfl, h.cell rfl, h.cell rfl, h.cell rfl, h.cell rfl, h.cell rfl, h.cell rfl, h.cell rfl, h.cell rfl, h.cell rfl, h.cell rfl⟩
  · simp at hq
theorem lst_two {w : World} {g : Nat} {u1 u2 : Value} {l1 l2 : List P3} (h : Blk w g #[u1, u2] 55) (h1 : OpsRd w u1 l1) (h2 : OpsRd w u2 l2) : LstRd w (.slice (some ⟨g, 0, none⟩) 2 2) [l1, l2] := by
  refine ⟨_, 2, rfl, by simp, by decide, .inr ⟨g, 0, rfl, fun i q hq => ?_⟩⟩
  rcases i with _ | _ | i
  · simp at hq; subst hq; exact ⟨u1, h.cell (o := 0) rfl, h1⟩
  · simp at hq; subst hq; exact ⟨u2, h.cell (o := 1) rfl, h2⟩
  · simp at hq
theorem ops_first {w : World} {v : Value} {p : P3} {ps : List P3} (h : OpsRd w v (p :: ps)) : ∃ g o c, v = .slice (some ⟨g, o, none⟩) (ps.length + 1) c ∧ ps.length + 1 ≤ c ∧ c ≤ 9223372036854775807 ∧ PcAt w g o p := by
  obtain ⟨a, c, rfl, h2, h3, h4⟩ := h
  rcases h4 with h4 | ⟨g, o, rfl, h5⟩
  · cases h4
  · have := h5 0 p rfl
    rw [Nat.zero_mul, Nat.add_zero] at this
    exact ⟨g, o, c, rfl, h2, by unfold maxLen at h3; omega, this⟩
theorem pop_two {w wr : World} {b : Nat} {x : Mit} (h : DSt false clkF w b 2 [⟨9, 0, 3⟩, ⟨8, 0, 4⟩] ([] ++ [x]) 1 wr) : x = ⟨8, 0, 4, 2⟩ := by
  obtain ⟨v, xs, h1, h2, h3, h4, h5, h6⟩ := h.q
  obtain ⟨y, hy⟩ : ∃ y, xs.toList = [y] := List.length_eq_one_iff.1 (by simpa using h3)
  rw [hy] at h4 h6
  have hp : [x, y].Pairwise (fun a b => mlt false b a = false) := by
    simp only [List.pairwise_cons, List.mem_singleton, List.not_mem_nil, false_implies, implies_true, List.Pairwise.nil, and_true]
    rintro z rfl
    exact h6 x (by simp) z (by simp)
  have e : [x, y] = [⟨8, 0, 4, 2⟩, ⟨9, 0, 3, 1⟩] := by
    refine mq_uniq false _ _ (h4.trans ?_) hp ?_ (fun a ha b hb => num_inj _ 0 a b (h4.mem_iff.1 ha) (h4.mem_iff.1 hb))
    · exact List.Perm.swap _ _ _
    · simp [mlt, lf, idLt]
  injection e
theorem dLen {back : Bool} {F : Value} {w wr : World} {b n : Nat} {all : List P3} {popped : List Mit} {rest : Nat} (h : DSt back F w b n all popped rest wr) : Calls Try.prog 36 #[.pointer (some ⟨b, 0, none⟩)] wr fun e w' => e = .returned (.int .i64 rest) ∧ wr = w' := by
  obtain ⟨v, xs, h1, h2, h3, _⟩ := h.q
  rw [← h3]
  exact qLen b F n v xs wr h1
def MTrue (w : World) (e : Ending) (w' : World) : Prop := e = .returned (.bool true) ∧ Below w.heap.size w w'
set_option maxRecDepth 100000 in
set_option maxHeartbeats 4000000 in
theorem mqBegun (w : World) : Calls Try.prog 25 #[] w (MTrue w) := by
  go_enter Try.func25, Try.ntmps25
  go_wp2_with fail
  refine (atC 5 0 1 _).mono ?_
  rintro e w1 ⟨rfl, b1⟩
  have B1 := Lib.hid b1
  clear b1
  go_wp2_with fail
  refine (atC 2 0 2 _).mono ?_
  rintro e w2 ⟨rfl, b2⟩
  have b1s := B1.out.size
  have C1 : Blk w2 w1.heap.size #[.int .i64 5, .int .i64 0, .int .i64 0, .int .i64 1, .int .i64 0, .int .i64 0, .int .i64 0, .int .i64 0, .string ByteArray.empty, .slice none 0 0, .slice none 0 0] 58 := blkBelow b2 (Blk.new _ _ _) (Blk.new _ _ _).lt
  have B2 : Hid (Below w.heap.size w w2) := Lib.hid ((Below.alloc B1.out b1s _).trans (b2.mono (by simp; omega)))
  clear b2
  go_wp2_with fail
  have C2 := (C1.alloc (.cells #[.int .i64 2, .int .i64 0, .int .i64 0, .int .i64 2, .int .i64 0, .int .i64 0, .int .i64 0, .int .i64 0, .string ByteArray.empty, .slice none 0 0, .slice none 0 0] 58)).alloc (.cells #[.slice (some ⟨w1.heap.size, 0, none⟩) 1 1, .slice (some ⟨w2.heap.size, 0, none⟩) 1 1] 55)
  have D2 : Blk ((w2.alloc (.cells #[.int .i64 2, .int .i64 0, .int .i64 0, .int .i64 2, .int .i64 0, .int .i64 0, .int .i64 0, .int .i64 0, .string ByteArray.empty, .slice none 0 0, .slice none 0 0] 58)).alloc (.cells #[.slice (some ⟨w1.heap.size, 0, none⟩) 1 1, .slice (some ⟨w2.heap.size, 0, none⟩) 1 1] 55)) w2.heap.size #[.int .i64 2, .int .i64 0, .int .i64 0, .int .i64 2, .int .i64 0, .int .i64 0, .int .i64 0, .int .i64 0, .string ByteArray.empty, .slice none 0 0, .slice none 0 0] 58 := (Blk.new _ _ _).alloc _
  have E2 : Blk ((w2.alloc (.cells #[.int .i64 2, .int .i64 0, .int .i64 0, .int .i64 2, .int .i64 0, .int .i64 0, .int .i64 0, .int .i64 0, .string ByteArray.empty, .slice none 0 0, .slice none 0 0] 58)).alloc (.cells #[.slice (some ⟨w1.heap.size, 0, none⟩) 1 1, .slice (some ⟨w2.heap.size, 0, none⟩) 1 1] 55)) (w2.heap.size + 1) #[.slice (some ⟨w1.heap.size, 0, none⟩) 1 1, .slice (some ⟨w2.heap.size, 0, none⟩) 1 1] 55 := by
    have := Blk.new (w2.alloc (.cells #[.int .i64 2, .int .i64 0, .int .i64 0, .int .i64 2, .int .i64 0, .int .i64 0, .int .i64 0, .int .i64 0, .string ByteArray.empty, .slice none 0 0, .slice none 0 0] 58)) #[.slice (some ⟨w1.heap.size, 0, none⟩) 1 1, .slice (some ⟨w2.heap.size, 0, none⟩) 1 1] 55
    simpa using this
  have K := Lib.hid (sortedC _ [[⟨5, 0, 1⟩], [⟨2, 0, 2⟩]] _ (lst_two E2 (ops_one ⟨5, 0, 1⟩ C2) (ops_one ⟨2, 0, 2⟩ D2)) (by decide))
  have b2s := B2.out.size
  clear C1 C2 D2 E2
  refine K.out.mono ?_
  rintro e w3 ⟨v, ys, rfl, hrd, hp, hs, b3⟩
  rw [sorted_two ys hp hs] at hrd
  have B3 : Hid (Below w.heap.size w w3) := Lib.hid ((Below.alloc (Below.alloc B2.out b2s _) (by simp; omega) _).trans (b3.mono (by simp; omega)))
  have HR := Lib.hid hrd
  clear hrd hp hs b3 K
  go_wp2_with fail
  refine (qNewNil _).mono ?_
  rintro e w4 ⟨b, rfl, hb, hq, b4⟩
  have b3s := B3.out.size
  have hb0 : w.heap.size ≤ b := by omega
  have S0 : SSt false clkF w b [] w4 := ⟨⟨_, #[], hq, fun k h0 h1 => by simp at h1, by simp [num]⟩, B3.out.trans (b4.mono b3s)⟩
  have Z4 : Below b w3 w4 := b4.mono (by omega)
  have hbz := hq.blk.lt
  have HZ4 := Lib.hid Z4
  have HS0 := Lib.hid S0
  have HB := Lib.hid hb
  clear hb hq b4 S0 Z4
  go_wp2_with fail
  refine (atC 9 0 3 _).mono ?_
  rintro e w5 ⟨rfl, b5⟩
  have K5 := Lib.hid (sPush lessOkC hb0 (HS0.out.below b5) (by decide) ⟨9, 0, 3⟩)
  have HZ5 := Lib.hid (HZ4.out.trans (b5.mono (by omega)))
  have b5s := b5.size
  clear b5 HZ4 HS0
  go_wp2_with fail
  refine K5.out.mono ?_
  rintro e w6 ⟨rfl, h6, b6⟩
  have H6 := Lib.hid h6
  have HZ6 := Lib.hid (HZ5.out.trans b6)
  have b6s := b6.size
  clear h6 K5 HZ5 b6
  go_wp2_with fail
  refine (atC 8 0 4 _).mono ?_
  rintro e w7 ⟨rfl, b7⟩
  have K7 := Lib.hid (sPush lessOkC hb0 (H6.out.below b7) (by decide) ⟨8, 0, 4⟩)
  have HZ7 := Lib.hid (HZ6.out.trans (b7.mono (by omega)))
  have b7s := b7.size
  clear b7 HZ6 H6
  go_wp2_with fail
  refine K7.out.mono ?_
  rintro e w8 ⟨rfl, h8, b8⟩
  have HZ8 := Lib.hid (HZ7.out.trans b8)
  have b8s := b8.size
  obtain ⟨x, hK⟩ := sPop (n := 2) (all := [⟨9, 0, 3⟩, ⟨8, 0, 4⟩]) (popped := []) (rest := 1) lessOkC hb0 h8.d (by decide)
  have K8 := Lib.hid hK
  clear hK h8 K7 HZ7 b8
  go_wp2_with fail
  refine K8.out.mono ?_
  rintro e w9 ⟨rfl, h9, _, b9⟩
  obtain rfl := pop_two h9
  have HZ9 := Lib.hid (HZ8.out.trans b9)
  have b9s := b9.size
  have hr9 := HR.out.below (HZ9.out.mono (by have := HB.out; omega))
  obtain ⟨g, o, c, rfl, q1, q2, hpc⟩ := ops_first hr9
  have z3 : w9.cell? ⟨g, o + 3, none⟩ = some (.int .i64 2) := hpc.c3
  have zg := World.block_lt_of_cell? w9 _ z3
  simp only at zg
  have HL := Lib.hid (fun w' (hw : Below w9.heap.size w9 w') => dLen (h9.below hw))
  have HBE := Lib.hid (h9.bel)
  clear h9 b9 K8 HZ8 hr9 hpc HR HZ9 HB
  go_wp2_with fail
  refine (HL.out _ ((Below.refl _ _).alloc (Nat.le_refl _) _)).mono ?_
  rintro e w10 ⟨rfl, rfl⟩
  go_wp2
  go_ret
  exact ⟨rfl, Below.alloc HBE.out HBE.out.size _⟩
end Go.Proofs.Ythbalmoafpggdaa

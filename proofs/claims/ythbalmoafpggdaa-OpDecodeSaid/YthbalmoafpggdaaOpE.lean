/- Operations: ops.Encode, Cost. -/
import Derived.Test.YthbalmoafpggdaaChecked
import Derived.WalkKit
import Derived.Outline
import Derived.WalkSpells
import Derived.WalkLawsBesides
import Derived.Deep.QuietTactic
import Derived.Deep.RegionWith
import Derived.Deep.DeepMust
import Derived.BigQuiet
import Derived.Test.YthbalmoafpggdaaMem
import Derived.RegionTactic
import Derived.ChangeAlike
import Derived.StillTailTactics
import Derived.Deep.LoopGhost
import Derived.Test.YthbalmoafpggdaaOpM3
import Derived.Test.YthbalmoafpggdaaCd4
import Derived.Test.YthbalmoafpggdaaWrL
namespace Go.Proofs.Ythbalmoafpggdaa
open Go.RowKit
set_option linter.unusedVariables false
set_option linter.unusedSimpArgs false
/-- An operation's bytes. -/
def opL (o : Opr) : List Int := numL o.kind.toNat ++ (numL o.time.toNat ++ numL o.node.toNat) ++ numL o.seq.toNat ++ (numL o.ot.toNat ++ numL o.on.toNat) ++ (numL o.pt.toNat ++ numL o.pn.toNat) ++ (numL (strL o.name).length ++ strL o.name) ++ (numL o.data.length ++ o.data) ++ (numL (cutL o.seen).length ++ numsL (cutL o.seen))
/-- What may be can be written. -/
structure OpFine (o : Opr) : Prop where
  kind : 0 ≤ o.kind ∧ o.kind ≤ 4
  id : idOk o.time o.node = true
  seq : 1 ≤ o.seq ∧ o.seq ≤ 1152921504606846976
  obj : idOk o.ot o.on = true
  par : idOk o.pt o.pn = true
  name : (strL o.name).length ≤ 65536
  data : o.data.length ≤ 65536
  seen : vecMayB (cutL o.seen) = true ∧ (cutL o.seen).length ≤ 64
theorem id_of_valid {t n : Int} (h : validID t n = true) : idOk t n = true := by
  unfold validID at h
  unfold idOk
  simp only [Bool.and_eq_true, decide_eq_true_eq] at *
  omega
theorem id_of_early {t n t' n' : Int} (h : earlyB t n t' n' = true) : idOk t n = true := by
  unfold earlyB at h
  rw [Bool.and_eq_true] at h
  exact id_of_valid h.1
theorem nameE_len {l : List UInt8} (h : nameE l = 0) : l.length ≤ 64 := by
  unfold nameE nameG at h
  split at h
  · omega
  · split at h <;> omega
theorem par_fine {o : Opr} (h : parB o = true) : idOk o.pt o.pn = true := by
  unfold parB at h
  rw [Bool.or_eq_true, decide_eq_true_eq] at h
  rcases h with h | h
  · rw [h.1, h.2]; rfl
  · exact id_of_early h
theorem named_fine {o : Opr} (h : namedB o = true) : (strL o.name).length ≤ 65536 ∧ o.data.length ≤ 65536 := by
  unfold namedB at h
  simp only [Bool.and_eq_true, decide_eq_true_eq] at h
  have := nameE_len h.1
  rw [strL_len, Lib.size_eq]
  omega
theorem may_fine {o : Opr} (h : mayB o = true) : OpFine o := by
  unfold mayB at h
  simp only [Bool.and_eq_true, decide_eq_true_eq] at h
  obtain ⟨⟨⟨⟨h1, h2⟩, h3⟩, h4⟩, h5⟩ := h
  unfold seenB at h4
  simp only [Bool.and_eq_true, decide_eq_true_eq] at h4
  unfold kindB at h5
  by_cases k1 : o.kind = 1 ∨ o.kind = 2
  · rw [if_pos k1] at h5
    simp only [Bool.and_eq_true, decide_eq_true_eq] at h5
    have := named_fine h5.2
    exact ⟨by omega, id_of_valid h1, ⟨h2, h3⟩, by rw [h5.1.1.1, h5.1.1.2]; exact id_of_valid h1, par_fine h5.1.2, this.1, this.2, h4.1⟩
  rw [if_neg k1] at h5
  by_cases k3 : o.kind = 3
  · rw [if_pos k3] at h5
    simp only [Bool.and_eq_true, Bool.or_eq_true, decide_eq_true_eq] at h5
    have := named_fine h5.2
    refine ⟨by omega, id_of_valid h1, ⟨h2, h3⟩, id_of_early h5.1.1, ?_, this.1, this.2, h4.1⟩
    rcases h5.1.2 with h | h
    · exact par_fine h
    · rw [h.1, h.2]; rfl
  rw [if_neg k3] at h5
  by_cases k4 : o.kind = 4
  · rw [if_pos k4] at h5
    simp only [Bool.and_eq_true, decide_eq_true_eq] at h5
    refine ⟨by omega, id_of_valid h1, ⟨h2, h3⟩, id_of_early h5.1.1.1, by rw [h5.1.1.2.1, h5.1.1.2.2]; rfl, ?_, h5.2, h4.1⟩
    rw [strL_len, Lib.size_eq, h5.1.2]; simp
  · rw [if_neg k4] at h5; cases h5
/-- While an operation is written. -/
structure EncM (w : World) (b : Nat) (cs : Array Value) (p : Nat) (v : Value) (l : List Int) (w' : World) : Prop where
  wr : Wr w' p v l false
  blk : Blk w' b cs 58
  bel : Below w.heap.size w w'
  bp : w.heap.size ≤ b ∧ b < p
  fresh : ∀ k, v.ownBlock = some k → b < k
theorem EncM.step {w w1 w2 : World} {b p : Nat} {cs : Array Value} {v : Value} {l l' : List Int} (h : EncM w b cs p v l w1) (hs : WStep p v w1 l' false w2) : ∃ v', EncM w b cs p v' l' w2 := by
  obtain ⟨v', h1, h2, h3⟩ := hs
  have hb := h.bp
  have hbl := h.blk.lt
  have hno : ∀ i, i ≤ b → ¬ WS p v i := fun i hi hw => by
    rcases hw with hw | hw
    · omega
    · have := h.fresh i hw; omega
  refine ⟨v', h1, h3.blk h.blk (hno b (Nat.le_refl _)), h3.below_trans h.bel h.bel.size (fun i hi => hno i (by omega)), hb, fun k hk => ?_⟩
  rcases h2 with h2 | h2
  · exact h.fresh k (h2 ▸ hk)
  · have := h2 k hk; omega
def EStep (w : World) (b : Nat) (cs : Array Value) (p : Nat) (l' : List Int) (e : Ending) (w' : World) : Prop := e = .returned (.tuple #[]) ∧ ∃ v', EncM w b cs p v' l' w'
theorem eNum {w w1 : World} {b p : Nat} {cs : Array Value} {v : Value} {l : List Int} (h : EncM w b cs p v l w1) (n : Int) (hn : 0 ≤ n ∧ n ≤ 4611686018427387904) (hl : l.length ≤ 500000000000) : Calls Try.prog 11 #[.pointer (some ⟨p, 0, none⟩), .int .i64 n] w1 (EStep w b cs p (l ++ numL n.toNat)) := by
  refine (wNum p v l false n w1 h.wr (by omega) (by omega)).mono ?_
  rintro e w2 ⟨he, hs⟩
  have e1 : numW n = some (numL n.toNat) := by unfold numW; rw [if_pos hn]
  rw [e1] at hs
  exact ⟨he, h.step hs⟩
theorem eID {w w1 : World} {b p : Nat} {cs : Array Value} {v : Value} {l : List Int} (h : EncM w b cs p v l w1) (t n : Int) (hn : idOk t n = true) (hl : l.length ≤ 500000000000) : Calls Try.prog 76 #[.pointer (some ⟨p, 0, none⟩), .agg #[.int .i64 t, .int .i64 n]] w1 (EStep w b cs p (l ++ (numL t.toNat ++ numL n.toNat))) := by
  refine (wID p v l false t n w1 h.wr (by omega)).mono ?_
  rintro e w2 ⟨he, hs⟩
  have e1 : idW t n = some (numL t.toNat ++ numL n.toNat) := by unfold idW; rw [if_pos hn]
  rw [e1] at hs
  exact ⟨he, h.step hs⟩
theorem eText {w w1 : World} {b p : Nat} {cs : Array Value} {v : Value} {l : List Int} (h : EncM w b cs p v l w1) (s : ByteArray) (hn : (strL s).length ≤ 65536) (hl : l.length ≤ 500000000000) : Calls Try.prog 59 #[.pointer (some ⟨p, 0, none⟩), .string s] w1 (EStep w b cs p (l ++ (numL (strL s).length ++ strL s))) := by
  refine (wText p v l false s w1 h.wr (by rw [strL_len] at hn; omega) (by omega)).mono ?_
  rintro e w2 ⟨he, hs⟩
  have e1 : bytesW (strL s) = some (numL (strL s).length ++ strL s) := by unfold bytesW; rw [if_pos hn]
  rw [e1] at hs
  exact ⟨he, h.step hs⟩
theorem rdv_old {enc : Int → Value} {w : World} {x : Value} {xs : List Int} (h : Rdv enc w x xs) : ∀ b o n c, x = .slice (some ⟨b, o, none⟩) n c → 0 < n → b < w.heap.size := by
  intro b o n c e hn
  obtain ⟨a, c', e', _, _, h3⟩ := h
  rw [e', Value.slice.injEq] at e
  obtain ⟨rfl, rfl, _⟩ := e
  rcases h3 with h3 | ⟨b', o', h3, h4⟩
  · rw [h3] at hn; simp at hn
  · injection h3 with h3
    injection h3 with h3 _
    subst h3
    exact World.block_lt_of_cell? w _ (h4 0 hn)
theorem EncM.apt {w w1 : World} {b p : Nat} {cs : Array Value} {v : Value} {l : List Int} (h : EncM w b cs p v l w1) {enc : Int → Value} {x : Value} {xs : List Int} (hx : Rdv enc w x xs) : Apt x p v := by
  intro b' o n c e hn
  have := rdv_old hx b' o n c e hn
  have hb := h.bp
  exact ⟨by omega, fun e2 => by have := h.fresh _ e2; omega⟩
theorem eBytes {w w1 : World} {b p : Nat} {cs : Array Value} {v : Value} {l : List Int} (h : EncM w b cs p v l w1) (x : Value) (xs : List Int) (hx : Rdv u8v w x xs) (hn : xs.length ≤ 65536) (hl : l.length ≤ 500000000000) : Calls Try.prog 15 #[.pointer (some ⟨p, 0, none⟩), x] w1 (EStep w b cs p (l ++ (numL xs.length ++ xs))) := by
  refine (wBytes p v l false x xs w1 h.wr (hx.below h.bel) (h.apt hx) (fun b o n c e h0 => Nat.lt_of_lt_of_le (rdv_old hx b o n c e h0) h.bel.size) (by omega)).mono ?_
  rintro e w2 ⟨he, hs⟩
  have e1 : bytesW xs = some (numL xs.length ++ xs) := by unfold bytesW; rw [if_pos hn]
  rw [e1] at hs
  exact ⟨he, h.step hs⟩
theorem eVec {w w1 : World} {b p : Nat} {cs : Array Value} {v : Value} {l : List Int} (h : EncM w b cs p v l w1) (x : Value) (xs : List Int) (hx : Rdv i64v w x xs) (hn : vecMayB (cutL xs) = true ∧ (cutL xs).length ≤ 64) (hl : l.length ≤ 500000000000) : Calls Try.prog 60 #[.pointer (some ⟨p, 0, none⟩), x] w1 (EStep w b cs p (l ++ (numL (cutL xs).length ++ numsL (cutL xs)))) := by
  refine (wVector p v l false x xs w1 h.wr (hx.below h.bel) (h.apt hx) (fun b o n c e h0 => Nat.lt_of_lt_of_le (rdv_old hx b o n c e h0) h.bel.size) (by omega)).mono ?_
  rintro e w2 ⟨he, hs⟩
  have e1 : vecW xs = some (numL (cutL xs).length ++ numsL (cutL xs)) := by unfold vecW; rw [if_pos hn]
  rw [e1] at hs
  exact ⟨he, h.step hs⟩
theorem own_down {w : World} {B B' e s n : Nat} {v : Value} {xs : List Value} (h : w.ownsRow B e s v n xs) (hB : B' ≤ B) : w.ownsRow B' e s v n xs := by
  refine ⟨h.1, ?_⟩
  rcases h.2 with h2 | ⟨g, c, cur, h1, h2, r⟩
  · exact .inl h2
  · exact .inr ⟨g, c, cur, h1, by omega, r⟩
def EncPost (o : Opr) (w : World) (e : Ending) (w' : World) : Prop :=
  if mayB o = true then ∃ v, e = .returned (.tuple #[v, .int .i64 0]) ∧ w'.ownsRow w.heap.size 5 1 v (opL o).length ((opL o).map u8v) ∧ Below w.heap.size w w'
  else e = .returned (.tuple #[.slice none 0 0, .int .i64 22]) ∧ Below w.heap.size w w'
set_option maxHeartbeats 2000000 in
set_option maxRecDepth 100000 in
theorem opsEncode (o : Opr) (d s : Value) (w : World) (hd : Rdv u8v w d o.data) (hs : Rdv i64v w s o.seen) (hn : o.name.size < 4294967281) :
    Calls Try.prog 53 #[.agg #[.int .i64 (o).time, .int .i64 (o).node, .int .i64 (o).seq, .int .i64 (o).kind, .int .i64 (o).ot, .int .i64 (o).on, .int .i64 (o).pt, .int .i64 (o).pn, .string (o).name, d, s]] w (EncPost o w) := by
  have KM := Lib.hid (fun w' hb => opsMay o d s w' (hd.below hb) (hs.below hb) hn : ∀ w', Below w.heap.size w w' → _)
  have HD := Lib.hid hd
  have HS := Lib.hid hs
  unfold EncPost
  cases hm : mayB o
  · rw [hm] at KM
    clear hd hs hm
    obtain ⟨time, node, seq, kind, ot, on, pt, pn, name, data, xs⟩ := o
    simp only at *
    go_enter Try.func53, Try.ntmps53
    go_wp2_with fail
    refine (KM.out _ ((Below.refl _ _).alloc (Nat.le_refl _) _)).mono ?_
    rintro e w1 ⟨rfl, hb1⟩
    have HB : Hid (Below w.heap.size w w1) := Lib.hid (((Below.refl w.heap.size w).alloc (Nat.le_refl _) (.cells #[.int .i64 time, .int .i64 node, .int .i64 seq, .int .i64 kind, .int .i64 ot, .int .i64 on, .int .i64 pt, .int .i64 pn, .string name, d, s] 58)).trans (hb1.mono (by simp)))
    clear hb1
    go_wp2
    go_ret2
    exact ⟨rfl, HB.out⟩
  · have F := Lib.hid (may_fine hm)
    rw [hm] at KM
    simp only [if_true]
    have hL : Hid (opL o = opL o) := rfl
    unfold opL at hL ⊢
    have l1 := numL_len o.kind.toNat
    have l2 := numL_len o.time.toNat
    have l3 := numL_len o.node.toNat
    have l4 := numL_len o.seq.toNat
    have l5 := numL_len o.ot.toNat
    have l6 := numL_len o.on.toNat
    have l7 := numL_len o.pt.toNat
    have l8 := numL_len o.pn.toNat
    have l9 := numL_len (strL o.name).length
    have l10 := numL_len o.data.length
    have l11 := numL_len (cutL o.seen).length
    have l12 := F.out.name
    have l13 := F.out.data
    have l14 := numsL_len (cutL o.seen)
    have l15 := F.out.seen.2
    have F1 := Lib.hid F.out.kind
    have F2 := Lib.hid F.out.id
    have F3 := Lib.hid F.out.seq
    have F4 := Lib.hid F.out.obj
    have F5 := Lib.hid F.out.par
    have F6 := Lib.hid F.out.seen
    clear hd hs hm F hL
    obtain ⟨time, node, seq, kind, ot, on, pt, pn, name, data, xs⟩ := o
    simp only at *
    go_enter Try.func53, Try.ntmps53
    go_wp2_with fail
    refine (KM.out _ ((Below.refl _ _).alloc (Nat.le_refl _) _)).mono ?_
    rintro e w1 ⟨rfl, hb1⟩
    have B1 : Hid (Blk w1 w.heap.size #[.int .i64 time, .int .i64 node, .int .i64 seq, .int .i64 kind, .int .i64 ot, .int .i64 on, .int .i64 pt, .int .i64 pn, .string name, d, s] 58) := Lib.hid (blkBelow hb1 (Blk.new _ _ _) (Blk.new _ _ _).lt)
    have HB : Hid (Below w.heap.size w w1) := Lib.hid (((Below.refl w.heap.size w).alloc (Nat.le_refl _) (.cells #[.int .i64 time, .int .i64 node, .int .i64 seq, .int .i64 kind, .int .i64 ot, .int .i64 on, .int .i64 pt, .int .i64 pn, .string name, d, s] 58)).trans (hb1.mono (by simp)))
    clear hb1
    go_wp2_with fail
    refine (wNew _).mono ?_
    rintro e w2 ⟨p, rfl, hp, hW, hb2⟩
    have E2 : Hid (EncM w w.heap.size #[.int .i64 time, .int .i64 node, .int .i64 seq, .int .i64 kind, .int .i64 ot, .int .i64 on, .int .i64 pt, .int .i64 pn, .string name, d, s] p (.slice none 0 0) [] w2) := Lib.hid ⟨hW, blkBelow hb2 B1.out B1.out.lt, HB.out.trans (hb2.mono HB.out.size), ⟨Nat.le_refl _, by have := B1.out.lt; omega⟩, fun k hk => by simp [Value.ownBlock] at hk⟩
    clear hp hW hb2 B1 HB
    have c_0 : w2.cell? ⟨w.heap.size, 0, none⟩ = some (.int .i64 time) := (E2.out.blk).cell (o := 0) rfl
    have c_1 : w2.cell? ⟨w.heap.size, 1, none⟩ = some (.int .i64 node) := (E2.out.blk).cell (o := 1) rfl
    have c_2 : w2.cell? ⟨w.heap.size, 2, none⟩ = some (.int .i64 seq) := (E2.out.blk).cell (o := 2) rfl
    have c_3 : w2.cell? ⟨w.heap.size, 3, none⟩ = some (.int .i64 kind) := (E2.out.blk).cell (o := 3) rfl
    have c_4 : w2.cell? ⟨w.heap.size, 4, none⟩ = some (.int .i64 ot) := (E2.out.blk).cell (o := 4) rfl
    have c_5 : w2.cell? ⟨w.heap.size, 5, none⟩ = some (.int .i64 on) := (E2.out.blk).cell (o := 5) rfl
    have c_6 : w2.cell? ⟨w.heap.size, 6, none⟩ = some (.int .i64 pt) := (E2.out.blk).cell (o := 6) rfl
    have c_7 : w2.cell? ⟨w.heap.size, 7, none⟩ = some (.int .i64 pn) := (E2.out.blk).cell (o := 7) rfl
    have c_8 : w2.cell? ⟨w.heap.size, 8, none⟩ = some (.string name) := (E2.out.blk).cell (o := 8) rfl
    have c_9 : w2.cell? ⟨w.heap.size, 9, none⟩ = some (d) := (E2.out.blk).cell (o := 9) rfl
    have c_10 : w2.cell? ⟨w.heap.size, 10, none⟩ = some (s) := (E2.out.blk).cell (o := 10) rfl
    go_wp2_with fail
    refine (eNum E2.out kind (by have := F1.out; omega) (by simp)).mono ?_
    rintro e w3 ⟨rfl, v3, hE3⟩
    have E3 := Lib.hid hE3
    clear hE3 c_0 c_1 c_2 c_3 c_4 c_5 c_6 c_7 c_8 c_9 c_10
    have c_0 : w3.cell? ⟨w.heap.size, 0, none⟩ = some (.int .i64 time) := (E3.out.blk).cell (o := 0) rfl
    have c_1 : w3.cell? ⟨w.heap.size, 1, none⟩ = some (.int .i64 node) := (E3.out.blk).cell (o := 1) rfl
    have c_2 : w3.cell? ⟨w.heap.size, 2, none⟩ = some (.int .i64 seq) := (E3.out.blk).cell (o := 2) rfl
    have c_3 : w3.cell? ⟨w.heap.size, 3, none⟩ = some (.int .i64 kind) := (E3.out.blk).cell (o := 3) rfl
    have c_4 : w3.cell? ⟨w.heap.size, 4, none⟩ = some (.int .i64 ot) := (E3.out.blk).cell (o := 4) rfl
    have c_5 : w3.cell? ⟨w.heap.size, 5, none⟩ = some (.int .i64 on) := (E3.out.blk).cell (o := 5) rfl
    have c_6 : w3.cell? ⟨w.heap.size, 6, none⟩ = some (.int .i64 pt) := (E3.out.blk).cell (o := 6) rfl
    have c_7 : w3.cell? ⟨w.heap.size, 7, none⟩ = some (.int .i64 pn) := (E3.out.blk).cell (o := 7) rfl
    have c_8 : w3.cell? ⟨w.heap.size, 8, none⟩ = some (.string name) := (E3.out.blk).cell (o := 8) rfl
    have c_9 : w3.cell? ⟨w.heap.size, 9, none⟩ = some (d) := (E3.out.blk).cell (o := 9) rfl
    have c_10 : w3.cell? ⟨w.heap.size, 10, none⟩ = some (s) := (E3.out.blk).cell (o := 10) rfl
    go_wp2_with fail
    refine (eID E3.out time node F2.out (by simp; omega)).mono ?_
    rintro e w4 ⟨rfl, v4, hE4⟩
    have E4 := Lib.hid hE4
    clear hE4 c_0 c_1 c_2 c_3 c_4 c_5 c_6 c_7 c_8 c_9 c_10
    have c_0 : w4.cell? ⟨w.heap.size, 0, none⟩ = some (.int .i64 time) := (E4.out.blk).cell (o := 0) rfl
    have c_1 : w4.cell? ⟨w.heap.size, 1, none⟩ = some (.int .i64 node) := (E4.out.blk).cell (o := 1) rfl
    have c_2 : w4.cell? ⟨w.heap.size, 2, none⟩ = some (.int .i64 seq) := (E4.out.blk).cell (o := 2) rfl
    have c_3 : w4.cell? ⟨w.heap.size, 3, none⟩ = some (.int .i64 kind) := (E4.out.blk).cell (o := 3) rfl
    have c_4 : w4.cell? ⟨w.heap.size, 4, none⟩ = some (.int .i64 ot) := (E4.out.blk).cell (o := 4) rfl
    have c_5 : w4.cell? ⟨w.heap.size, 5, none⟩ = some (.int .i64 on) := (E4.out.blk).cell (o := 5) rfl
    have c_6 : w4.cell? ⟨w.heap.size, 6, none⟩ = some (.int .i64 pt) := (E4.out.blk).cell (o := 6) rfl
    have c_7 : w4.cell? ⟨w.heap.size, 7, none⟩ = some (.int .i64 pn) := (E4.out.blk).cell (o := 7) rfl
    have c_8 : w4.cell? ⟨w.heap.size, 8, none⟩ = some (.string name) := (E4.out.blk).cell (o := 8) rfl
    have c_9 : w4.cell? ⟨w.heap.size, 9, none⟩ = some (d) := (E4.out.blk).cell (o := 9) rfl
    have c_10 : w4.cell? ⟨w.heap.size, 10, none⟩ = some (s) := (E4.out.blk).cell (o := 10) rfl
    go_wp2_with fail
    refine (eNum E4.out seq (by have := F3.out; omega) (by simp; omega)).mono ?_
    rintro e w5 ⟨rfl, v5, hE5⟩
    have E5 := Lib.hid hE5
    clear hE5 c_0 c_1 c_2 c_3 c_4 c_5 c_6 c_7 c_8 c_9 c_10
    have c_0 : w5.cell? ⟨w.heap.size, 0, none⟩ = some (.int .i64 time) := (E5.out.blk).cell (o := 0) rfl
    have c_1 : w5.cell? ⟨w.heap.size, 1, none⟩ = some (.int .i64 node) := (E5.out.blk).cell (o := 1) rfl
    have c_2 : w5.cell? ⟨w.heap.size, 2, none⟩ = some (.int .i64 seq) := (E5.out.blk).cell (o := 2) rfl
    have c_3 : w5.cell? ⟨w.heap.size, 3, none⟩ = some (.int .i64 kind) := (E5.out.blk).cell (o := 3) rfl
    have c_4 : w5.cell? ⟨w.heap.size, 4, none⟩ = some (.int .i64 ot) := (E5.out.blk).cell (o := 4) rfl
    have c_5 : w5.cell? ⟨w.heap.size, 5, none⟩ = some (.int .i64 on) := (E5.out.blk).cell (o := 5) rfl
    have c_6 : w5.cell? ⟨w.heap.size, 6, none⟩ = some (.int .i64 pt) := (E5.out.blk).cell (o := 6) rfl
    have c_7 : w5.cell? ⟨w.heap.size, 7, none⟩ = some (.int .i64 pn) := (E5.out.blk).cell (o := 7) rfl
    have c_8 : w5.cell? ⟨w.heap.size, 8, none⟩ = some (.string name) := (E5.out.blk).cell (o := 8) rfl
    have c_9 : w5.cell? ⟨w.heap.size, 9, none⟩ = some (d) := (E5.out.blk).cell (o := 9) rfl
    have c_10 : w5.cell? ⟨w.heap.size, 10, none⟩ = some (s) := (E5.out.blk).cell (o := 10) rfl
    go_wp2_with fail
    refine (eID E5.out ot on F4.out (by simp; omega)).mono ?_
    rintro e w6 ⟨rfl, v6, hE6⟩
    have E6 := Lib.hid hE6
    clear hE6 c_0 c_1 c_2 c_3 c_4 c_5 c_6 c_7 c_8 c_9 c_10
    have c_0 : w6.cell? ⟨w.heap.size, 0, none⟩ = some (.int .i64 time) := (E6.out.blk).cell (o := 0) rfl
    have c_1 : w6.cell? ⟨w.heap.size, 1, none⟩ = some (.int .i64 node) := (E6.out.blk).cell (o := 1) rfl
    have c_2 : w6.cell? ⟨w.heap.size, 2, none⟩ = some (.int .i64 seq) := (E6.out.blk).cell (o := 2) rfl
    have c_3 : w6.cell? ⟨w.heap.size, 3, none⟩ = some (.int .i64 kind) := (E6.out.blk).cell (o := 3) rfl
    have c_4 : w6.cell? ⟨w.heap.size, 4, none⟩ = some (.int .i64 ot) := (E6.out.blk).cell (o := 4) rfl
    have c_5 : w6.cell? ⟨w.heap.size, 5, none⟩ = some (.int .i64 on) := (E6.out.blk).cell (o := 5) rfl
    have c_6 : w6.cell? ⟨w.heap.size, 6, none⟩ = some (.int .i64 pt) := (E6.out.blk).cell (o := 6) rfl
    have c_7 : w6.cell? ⟨w.heap.size, 7, none⟩ = some (.int .i64 pn) := (E6.out.blk).cell (o := 7) rfl
    have c_8 : w6.cell? ⟨w.heap.size, 8, none⟩ = some (.string name) := (E6.out.blk).cell (o := 8) rfl
    have c_9 : w6.cell? ⟨w.heap.size, 9, none⟩ = some (d) := (E6.out.blk).cell (o := 9) rfl
    have c_10 : w6.cell? ⟨w.heap.size, 10, none⟩ = some (s) := (E6.out.blk).cell (o := 10) rfl
    go_wp2_with fail
    refine (eID E6.out pt pn F5.out (by simp; omega)).mono ?_
    rintro e w7 ⟨rfl, v7, hE7⟩
    have E7 := Lib.hid hE7
    clear hE7 c_0 c_1 c_2 c_3 c_4 c_5 c_6 c_7 c_8 c_9 c_10
    have c_0 : w7.cell? ⟨w.heap.size, 0, none⟩ = some (.int .i64 time) := (E7.out.blk).cell (o := 0) rfl
    have c_1 : w7.cell? ⟨w.heap.size, 1, none⟩ = some (.int .i64 node) := (E7.out.blk).cell (o := 1) rfl
    have c_2 : w7.cell? ⟨w.heap.size, 2, none⟩ = some (.int .i64 seq) := (E7.out.blk).cell (o := 2) rfl
    have c_3 : w7.cell? ⟨w.heap.size, 3, none⟩ = some (.int .i64 kind) := (E7.out.blk).cell (o := 3) rfl
    have c_4 : w7.cell? ⟨w.heap.size, 4, none⟩ = some (.int .i64 ot) := (E7.out.blk).cell (o := 4) rfl
    have c_5 : w7.cell? ⟨w.heap.size, 5, none⟩ = some (.int .i64 on) := (E7.out.blk).cell (o := 5) rfl
    have c_6 : w7.cell? ⟨w.heap.size, 6, none⟩ = some (.int .i64 pt) := (E7.out.blk).cell (o := 6) rfl
    have c_7 : w7.cell? ⟨w.heap.size, 7, none⟩ = some (.int .i64 pn) := (E7.out.blk).cell (o := 7) rfl
    have c_8 : w7.cell? ⟨w.heap.size, 8, none⟩ = some (.string name) := (E7.out.blk).cell (o := 8) rfl
    have c_9 : w7.cell? ⟨w.heap.size, 9, none⟩ = some (d) := (E7.out.blk).cell (o := 9) rfl
    have c_10 : w7.cell? ⟨w.heap.size, 10, none⟩ = some (s) := (E7.out.blk).cell (o := 10) rfl
    go_wp2_with fail
    refine (eText E7.out name l12 (by simp; omega)).mono ?_
    rintro e w8 ⟨rfl, v8, hE8⟩
    have E8 := Lib.hid hE8
    clear hE8 c_0 c_1 c_2 c_3 c_4 c_5 c_6 c_7 c_8 c_9 c_10
    have c_0 : w8.cell? ⟨w.heap.size, 0, none⟩ = some (.int .i64 time) := (E8.out.blk).cell (o := 0) rfl
    have c_1 : w8.cell? ⟨w.heap.size, 1, none⟩ = some (.int .i64 node) := (E8.out.blk).cell (o := 1) rfl
    have c_2 : w8.cell? ⟨w.heap.size, 2, none⟩ = some (.int .i64 seq) := (E8.out.blk).cell (o := 2) rfl
    have c_3 : w8.cell? ⟨w.heap.size, 3, none⟩ = some (.int .i64 kind) := (E8.out.blk).cell (o := 3) rfl
    have c_4 : w8.cell? ⟨w.heap.size, 4, none⟩ = some (.int .i64 ot) := (E8.out.blk).cell (o := 4) rfl
    have c_5 : w8.cell? ⟨w.heap.size, 5, none⟩ = some (.int .i64 on) := (E8.out.blk).cell (o := 5) rfl
    have c_6 : w8.cell? ⟨w.heap.size, 6, none⟩ = some (.int .i64 pt) := (E8.out.blk).cell (o := 6) rfl
    have c_7 : w8.cell? ⟨w.heap.size, 7, none⟩ = some (.int .i64 pn) := (E8.out.blk).cell (o := 7) rfl
    have c_8 : w8.cell? ⟨w.heap.size, 8, none⟩ = some (.string name) := (E8.out.blk).cell (o := 8) rfl
    have c_9 : w8.cell? ⟨w.heap.size, 9, none⟩ = some (d) := (E8.out.blk).cell (o := 9) rfl
    have c_10 : w8.cell? ⟨w.heap.size, 10, none⟩ = some (s) := (E8.out.blk).cell (o := 10) rfl
    go_wp2_with fail
    refine (eBytes E8.out d data HD.out l13 (by simp; omega)).mono ?_
    rintro e w9 ⟨rfl, v9, hE9⟩
    have E9 := Lib.hid hE9
    clear hE9 c_0 c_1 c_2 c_3 c_4 c_5 c_6 c_7 c_8 c_9 c_10
    have c_0 : w9.cell? ⟨w.heap.size, 0, none⟩ = some (.int .i64 time) := (E9.out.blk).cell (o := 0) rfl
    have c_1 : w9.cell? ⟨w.heap.size, 1, none⟩ = some (.int .i64 node) := (E9.out.blk).cell (o := 1) rfl
    have c_2 : w9.cell? ⟨w.heap.size, 2, none⟩ = some (.int .i64 seq) := (E9.out.blk).cell (o := 2) rfl
    have c_3 : w9.cell? ⟨w.heap.size, 3, none⟩ = some (.int .i64 kind) := (E9.out.blk).cell (o := 3) rfl
    have c_4 : w9.cell? ⟨w.heap.size, 4, none⟩ = some (.int .i64 ot) := (E9.out.blk).cell (o := 4) rfl
    have c_5 : w9.cell? ⟨w.heap.size, 5, none⟩ = some (.int .i64 on) := (E9.out.blk).cell (o := 5) rfl
    have c_6 : w9.cell? ⟨w.heap.size, 6, none⟩ = some (.int .i64 pt) := (E9.out.blk).cell (o := 6) rfl
    have c_7 : w9.cell? ⟨w.heap.size, 7, none⟩ = some (.int .i64 pn) := (E9.out.blk).cell (o := 7) rfl
    have c_8 : w9.cell? ⟨w.heap.size, 8, none⟩ = some (.string name) := (E9.out.blk).cell (o := 8) rfl
    have c_9 : w9.cell? ⟨w.heap.size, 9, none⟩ = some (d) := (E9.out.blk).cell (o := 9) rfl
    have c_10 : w9.cell? ⟨w.heap.size, 10, none⟩ = some (s) := (E9.out.blk).cell (o := 10) rfl
    go_wp2_with fail
    refine (eVec E9.out s xs HS.out F6.out (by simp; omega)).mono ?_
    rintro e w10 ⟨rfl, v10, hE10⟩
    have E10 := Lib.hid hE10
    clear hE10 c_0 c_1 c_2 c_3 c_4 c_5 c_6 c_7 c_8 c_9 c_10
    have KD := Lib.hid (wDone p v10 _ false w10 E10.out.wr (by simp; omega))
    have HBE := Lib.hid E10.out.bel
    clear E2 E3 E4 E5 E6 E7 E8 E9 E10
    go_wp2_with fail
    refine KD.out.mono ?_
    rintro e w11 ⟨v11, rfl, ho, hb11⟩
    have HO := Lib.hid ho
    have HB11 := Lib.hid hb11
    clear ho hb11 KD
    go_wp2
    go_ret2
    exact ⟨v11, rfl, by have := own_down HO.out HBE.out.size; simpa using this, HBE.out.trans (HB11.out.mono HBE.out.size)⟩
theorem opsCost (o : Opr) (d s : Value) (w : World) (hd : Rdv u8v w d o.data) (hs : Rdv i64v w s o.seen) (hn : o.name.size < 4294967281) :
    Calls Try.prog 93 #[.agg #[.int .i64 (o).time, .int .i64 (o).node, .int .i64 (o).seq, .int .i64 (o).kind, .int .i64 (o).ot, .int .i64 (o).on, .int .i64 (o).pt, .int .i64 (o).pn, .string (o).name, d, s]] w fun e w' => e = .returned (.int .i64 (if mayB o = true then ((opL o).length : Int) else 0)) ∧ Below w.heap.size w w' := by
  have K := Lib.hid (fun w' hb => opsEncode o d s w' (hd.below hb) (hs.below hb) hn : ∀ w', Below w.heap.size w w' → _)
  unfold EncPost at K
  clear hd hs
  cases hm : mayB o
  · rw [hm] at K
    clear hm
    obtain ⟨time, node, seq, kind, ot, on, pt, pn, name, data, xs⟩ := o
    simp only at *
    go_enter Try.func93, Try.ntmps93
    go_wp2_with fail
    refine (K.out _ ((Below.refl _ _).alloc (Nat.le_refl _) _)).mono ?_
    rintro e w1 ⟨rfl, hb1⟩
    have HB : Hid (Below w.heap.size w w1) := Lib.hid (((Below.refl w.heap.size w).alloc (Nat.le_refl _) (.cells #[.int .i64 time, .int .i64 node, .int .i64 seq, .int .i64 kind, .int .i64 ot, .int .i64 on, .int .i64 pt, .int .i64 pn, .string name, d, s] 58)).trans (hb1.mono (by simp)))
    clear hb1
    go_wp2
    go_ret
    exact ⟨rfl, HB.out⟩
  · rw [hm] at K
    clear hm
    generalize opL o = L at *
    obtain ⟨time, node, seq, kind, ot, on, pt, pn, name, data, xs⟩ := o
    simp only at *
    go_enter Try.func93, Try.ntmps93
    go_wp2_with fail
    refine (K.out _ ((Below.refl _ _).alloc (Nat.le_refl _) _)).mono ?_
    rintro e w1 ⟨v1, rfl, ho, hb1⟩
    obtain ⟨a1, c1, rfl, _, _, _⟩ := own_shape ho
    have HB : Hid (Below w.heap.size w w1) := Lib.hid (((Below.refl w.heap.size w).alloc (Nat.le_refl _) (.cells #[.int .i64 time, .int .i64 node, .int .i64 seq, .int .i64 kind, .int .i64 ot, .int .i64 on, .int .i64 pt, .int .i64 pn, .string name, d, s] 58)).trans (hb1.mono (by simp)))
    clear hb1 ho
    go_wp2
    go_ret
    exact ⟨rfl, HB.out⟩
end Go.Proofs.Ythbalmoafpggdaa

/- Operations: the reference's Encode. -/
import Derived.Test.YthbalmoafpggdaaGreatChecked
import Derived.WalkKit
import Derived.Outline
import Derived.WalkSpells
import Derived.WalkLawsBesides
import Derived.Deep.QuietTactic
import Derived.Deep.RegionWith
import Derived.Deep.DeepMust
import Derived.BigQuiet
import Derived.RegionTactic
import Derived.ChangeAlike
import Derived.StillTailTactics
import Derived.Deep.LoopGhost
import Derived.Lib.ConvBytes
import Derived.Deep.DeepCutAuto
import Derived.Deep.CutBlock
import Derived.Test.YthbalmoafpggdaaGreatM1
import Derived.Test.YthbalmoafpggdaaGreatM8
import Derived.Test.YthbalmoafpggdaaGreatM10
namespace Go.Proofs.YthbalmoafpggdaaGreat
open Go.RowKit
set_option linter.unusedVariables false
set_option linter.unusedSimpArgs false
/-- While the parts are made. -/
structure RfM (w : World) (b0 : Nat) (cs : Array Value) (q : Nat) (ps : List Value) (xss : List (List Int)) (bv : Value) (L : List Int) (w' : World) : Prop where
  own : w'.ownsRow w.heap.size 5 1 bv L.length (L.map u8v)
  sep : ∀ k, bv.ownBlock = some k → k < q
  blk : Blk w' b0 cs 46
  pblk : Blk w' q ps.toArray 30
  parts : ∀ (j : Nat) (p : Value) (xs : List Int), ps[j]? = some p → xss[j]? = some xs → w'.ownsRow (q + 1) 5 1 p xs.length (xs.map u8v)
  bel : Below w.heap.size w w'
  ord : w.heap.size ≤ b0 ∧ b0 < q
  len : ∀ xs ∈ xss, xs.length ≤ 70000
theorem RfM.below {w w1 w2 : World} {b0 q : Nat} {cs : Array Value} {ps : List Value} {xss : List (List Int)} {bv : Value} {L : List Int} (h : RfM w b0 cs q ps xss bv L w1) (hb : Below w1.heap.size w1 w2) : RfM w b0 cs q ps xss bv L w2 :=
  ⟨ownsRow_below h.own hb, h.sep, blkBelow hb h.blk h.blk.lt, blkBelow hb h.pblk h.pblk.lt, fun j p xs h1 h2 => ownsRow_below (h.parts j p xs h1 h2) hb, h.bel.trans (hb.mono h.bel.size), h.ord, h.len⟩
theorem RfM.put {w w1 : World} {b0 q i : Nat} {cs : Array Value} {ps : List Value} {xss : List (List Int)} {bv v : Value} {L xs : List Int} (h : RfM w b0 cs q ps xss bv L w1) (hv : w1.ownsRow (q + 1) 5 1 v xs.length (xs.map u8v)) (hl : xs.length ≤ 70000) :
    RfM w b0 cs q (ps.set i v) (xss.set i xs) bv L (w1.setCell ⟨q, i, none⟩ v) := by
  have g : Chg (· = q) w1 (w1.setCell ⟨q, i, none⟩ v) := Chg.set (S := (· = q)) (Chg.refl _ _) (p := ⟨q, i, none⟩) (fun _ => rfl) v
  have ho := h.ord
  refine ⟨ownsRow_chg h.own g (fun k hk e => by have := h.sep k hk; omega), h.sep, g.blk h.blk (by omega), ?_, ?_, h.bel.setCell (by simp only; omega) _, ho, ?_⟩
  · have := h.pblk.set i v
    simpa using this
  · intro j p ys h1 h2
    have hr : ∀ {p : Value} {ys : List Int}, w1.ownsRow (q + 1) 5 1 p ys.length (ys.map u8v) → (w1.setCell ⟨q, i, none⟩ v).ownsRow (q + 1) 5 1 p ys.length (ys.map u8v) := fun hr => ownsRow_chg hr g (fun k hk e => by have := (hr.lt k hk).1; omega)
    by_cases e : i = j
    · subst e
      rw [List.getElem?_set] at h1 h2
      simp only [if_true] at h1 h2
      split at h1
      · split at h2
        · injection h1 with h1
          injection h2 with h2
          subst h1 h2
          exact hr hv
        · cases h2
      · cases h1
    · rw [List.getElem?_set_ne e] at h1 h2
      exact hr (h.parts j p ys h1 h2)
  · intro ys hy
    rcases List.mem_or_eq_of_mem_set hy with h1 | rfl
    · exact h.len ys h1
    · exact hl
/-- While they are put together. -/
structure RfL (w : World) (N1 q : Nat) (ps : List Value) (xss : List (List Int)) (bv : Value) (L : List Int) (wr : World) : Prop where
  own : wr.ownsRow w.heap.size 5 1 bv L.length (L.map u8v)
  sep : ∀ k, bv.ownBlock = some k → k < q ∨ N1 ≤ k
  pblk : Blk wr q ps.toArray 30
  parts : ∀ (j : Nat) (p : Value) (xs : List Int), ps[j]? = some p → xss[j]? = some xs → wr.ownsRow (q + 1) 5 1 p xs.length (xs.map u8v) ∧ ∀ k, p.ownBlock = some k → k < N1
  bel : Below w.heap.size w wr
  n1 : q < N1 ∧ N1 ≤ wr.heap.size
  len : ∀ xs ∈ xss, xs.length ≤ 70000
theorem RfM.start {w w1 : World} {b0 q : Nat} {cs : Array Value} {ps : List Value} {xss : List (List Int)} {bv : Value} {L : List Int} (h : RfM w b0 cs q ps xss bv L w1) : RfL w w1.heap.size q ps xss bv L w1 :=
  ⟨h.own, fun k hk => .inl (h.sep k hk), h.pblk, fun j p xs h1 h2 => ⟨h.parts j p xs h1 h2, fun k hk => ((h.parts j p xs h1 h2).lt k hk).2⟩, h.bel, ⟨h.pblk.lt, Nat.le_refl _⟩, h.len⟩
theorem RfL.grow {w wr w1 : World} {N1 q : Nat} {ps : List Value} {xss : List (List Int)} {bv v : Value} {L xs : List Int} (h : RfL w N1 q ps xss bv L wr) (ho : w1.ownsRow w.heap.size 5 1 v (L.length + xs.length) (L.map u8v ++ xs.map u8v)) (hg : wr.grownBy w1 bv.ownBlock) (hb : v.ownBlock = bv.ownBlock ∨ v.ownBlock = some wr.heap.size) : RfL w N1 q ps xss v (L ++ xs) w1 := by
  have g : Chg (fun k => bv.ownBlock = some k) wr w1 := (Chg.refl _ _).grown hg (fun k hk _ => hk)
  have n1 := h.n1
  have hq : ¬ bv.ownBlock = some q := fun e => by rcases h.sep q e with h1 | h1 <;> omega
  refine ⟨by simpa using ho, ?_, g.blk h.pblk hq, fun j p ys h1 h2 => ⟨ownsRow_chg (h.parts j p ys h1 h2).1 g (fun k hk e => ?_), (h.parts j p ys h1 h2).2⟩, ?_, ⟨n1.1, Nat.le_trans n1.2 hg.size⟩, h.len⟩
  · intro k hk
    rcases hb with hb | hb
    · exact h.sep k (hb ▸ hk)
    · rw [hb] at hk
      injection hk with hk
      omega
  · have a := ((h.parts j p ys h1 h2).1.lt k hk).1
    have b := (h.parts j p ys h1 h2).2 k hk
    rcases h.sep k e with h3 | h3 <;> omega
  · exact h.bel.grown hg h.bel.size (fun k hk => (h.own.lt k hk).1)
theorem RfL.drew {w wr : World} {N1 q : Nat} {ps : List Value} {xss : List (List Int)} {bv : Value} {L : List Int} (h : RfL w N1 q ps xss bv L wr) : RfL w N1 q ps xss bv L wr.drew :=
  ⟨h.own, h.sep, h.pblk, h.parts, h.bel.drew, h.n1, h.len⟩
def REncPost (o : Opr) (w : World) (e : Ending) (w' : World) : Prop := ∃ v, e = .returned v ∧ w'.ownsRow w.heap.size 5 1 v (if mayB o = true then opL o else []).length ((if mayB o = true then opL o else []).map u8v) ∧ Below w.heap.size w w'
def GoodPost (x : List Int) (w : World) (e : Ending) (w' : World) : Prop := ∃ v, e = .returned (.tuple #[v, .bool true]) ∧ w'.ownsRow w.heap.size 5 1 v x.length (x.map u8v) ∧ Below w.heap.size w w'
theorem gNum (n : Int) (w : World) (hn : 0 ≤ n ∧ n ≤ 4611686018427387904) : Calls Tryz.prog 19 #[.int .i64 n] w (GoodPost (numL n.toNat) w) := by
  have h := refNum n w
  have e1 : numW n = some (numL n.toNat) := by unfold numW; rw [if_pos hn]
  rw [e1] at h
  exact h
theorem gID (t n : Int) (w : World) (hn : idOk t n = true) : Calls Tryz.prog 58 #[.agg #[.int .i64 t, .int .i64 n]] w (GoodPost (numL t.toNat ++ numL n.toNat) w) := by
  have h := refID t n w
  have e1 : idW t n = some (numL t.toNat ++ numL n.toNat) := by unfold idW; rw [if_pos hn]
  rw [e1] at h
  exact h
theorem gBytes (x : Value) (xs : List Int) (w : World) (hx : Rdv u8v w x xs) (hn : xs.length ≤ 65536) : Calls Tryz.prog 59 #[x] w (GoodPost (numL xs.length ++ xs) w) := by
  have h := refBytes x xs w hx
  have e1 : bytesW xs = some (numL xs.length ++ xs) := by unfold bytesW; rw [if_pos hn]
  rw [e1] at h
  exact h
theorem gVec (x : Value) (xs : List Int) (w : World) (hx : Rdv i64v w x xs) (hn : vecMayB (cutL xs) = true ∧ (cutL xs).length ≤ 64) : Calls Tryz.prog 21 #[x] w (GoodPost (numL (cutL xs).length ++ numsL (cutL xs)) w) := by
  have h := refVector x xs w hx
  have e1 : vecW xs = some (numL (cutL xs).length ++ numsL (cutL xs)) := by unfold vecW; rw [if_pos hn]
  rw [e1] at h
  exact h
set_option maxHeartbeats 2000000 in
set_option maxRecDepth 100000 in
theorem refEncode (o : Opr) (d s : Value) (w : World) (hd : Rdv u8v w d o.data) (hs : Rdv i64v w s o.seen) (hn : o.name.size < 4294967281) :
    Calls Tryz.prog 22 #[.agg #[.int .i64 (o).time, .int .i64 (o).node, .int .i64 (o).seq, .int .i64 (o).kind, .int .i64 (o).ot, .int .i64 (o).on, .int .i64 (o).pt, .int .i64 (o).pn, .string (o).name, d, s]] w (REncPost o w) := by
  have KM := Lib.hid (fun w' hb => refMayOp o d s w' (hd.below hb) (hs.below hb) hn : ∀ w', Below w.heap.size w w' → _)
  have HD := Lib.hid hd
  have HS := Lib.hid hs
  unfold REncPost
  cases hm : mayB o
  · rw [hm] at KM
    clear hd hs hm
    obtain ⟨time, node, seq, kind, ot, on, pt, pn, name, data, xs⟩ := o
    simp only at *
    go_enter Tryz.func22, Tryz.ntmps22
    go_wp2_with fail
    refine (KM.out _ ((Below.refl _ _).alloc (Nat.le_refl _) _)).mono ?_
    rintro e w1 ⟨rfl, hb1⟩
    have HB : Hid (Below w.heap.size w w1) := Lib.hid (((Below.refl w.heap.size w).alloc (Nat.le_refl _) (.cells #[.int .i64 time, .int .i64 node, .int .i64 seq, .int .i64 kind, .int .i64 ot, .int .i64 on, .int .i64 pt, .int .i64 pn, .string name, d, s] 46)).trans (hb1.mono (by simp)))
    clear hb1
    go_wp2
    go_ret
    exact ⟨_, rfl, World.ownsRow_nil _ _ _ _, HB.out⟩
  · have F := Lib.hid (may_fine hm)
    rw [hm] at KM
    simp only [if_true]
    have l1 := numL_len o.kind.toNat
    have l2 := numL_len o.time.toNat
    have l3 := numL_len o.node.toNat
    have l4 := numL_len o.seq.toNat
    have l5 := numL_len o.ot.toNat
    have l6 := numL_len o.on.toNat
    have l7 := numL_len o.pt.toNat
    have l8 := numL_len o.pn.toNat
    have l9 := numL_len (strL o.name).length
    have l10 := numL_len o.data.length
    have l11 := numL_len (cutL o.seen).length
    have l12 := F.out.name
    have l13 := F.out.data
    have l14 := numsL_len (cutL o.seen)
    have l15 := F.out.seen.2
    have F1 := Lib.hid F.out.kind
    have F2 := Lib.hid F.out.id
    have F3 := Lib.hid F.out.seq
    have F4 := Lib.hid F.out.obj
    have F5 := Lib.hid F.out.par
    have F6 := Lib.hid F.out.seen
    have hL : Hid (opL o = (numL o.kind.toNat ++ (numL o.time.toNat ++ numL o.node.toNat) ++ numL o.seq.toNat ++ (numL o.ot.toNat ++ numL o.on.toNat) ++ (numL o.pt.toNat ++ numL o.pn.toNat) ++ (numL (strL o.name).length ++ strL o.name) ++ (numL o.data.length ++ o.data) ++ (numL (cutL o.seen).length ++ numsL (cutL o.seen)))) := rfl
    generalize opL o = LL at *
    clear hd hs hm F
    obtain ⟨time, node, seq, kind, ot, on, pt, pn, name, data, xs⟩ := o
    simp only at *
    have K0 := Lib.hid (fun w' => gNum kind w' (by have := F1.out; omega))
    have K1 := Lib.hid (fun w' => gID time node w' F2.out)
    have K2 := Lib.hid (fun w' => gNum seq w' (by have := F3.out; omega))
    have K3 := Lib.hid (fun w' => gID ot on w' F4.out)
    have K4 := Lib.hid (fun w' => gID pt pn w' F5.out)
    have K5 := Lib.hid (fun x w' hx => gBytes x (strL name) w' hx l12)
    have K6 := Lib.hid (fun w' hw => gBytes d data w' (HD.out.below hw) l13)
    have K7 := Lib.hid (fun w' hw => gVec s xs w' (HS.out.below hw) F6.out)
    have m0 : (numL kind.toNat).length ≤ 70000 := by omega
    have m1 : (numL time.toNat ++ numL node.toNat).length ≤ 70000 := by simp; omega
    have m2 : (numL seq.toNat).length ≤ 70000 := by omega
    have m3 : (numL ot.toNat ++ numL on.toNat).length ≤ 70000 := by simp; omega
    have m4 : (numL pt.toNat ++ numL pn.toNat).length ≤ 70000 := by simp; omega
    have m5 : (numL (strL name).length ++ strL name).length ≤ 70000 := by simp; omega
    have m6 : (numL data.length ++ data).length ≤ 70000 := by simp; omega
    have m7 : (numL (cutL xs).length ++ numsL (cutL xs)).length ≤ 70000 := by simp; omega
    clear l1 l2 l3 l4 l5 l6 l7 l8 l9 l10 l11 l12 l13 l14 l15 F1 F2 F3 F4 F5 F6
    generalize (numL (cutL xs).length ++ numsL (cutL xs)) = x7 at *
    generalize (numL data.length ++ data) = x6 at *
    generalize (numL (strL name).length ++ strL name) = x5 at *
    generalize (numL pt.toNat ++ numL pn.toNat) = x4 at *
    generalize (numL ot.toNat ++ numL on.toNat) = x3 at *
    generalize numL seq.toNat = x2 at *
    generalize (numL time.toNat ++ numL node.toNat) = x1 at *
    generalize numL kind.toNat = x0 at *
    go_enter Tryz.func22, Tryz.ntmps22
    go_wp2_with fail
    refine (KM.out _ ((Below.refl _ _).alloc (Nat.le_refl _) _)).mono ?_
    rintro e w1 ⟨rfl, hb1⟩
    have B1 : Hid (Blk w1 w.heap.size #[.int .i64 time, .int .i64 node, .int .i64 seq, .int .i64 kind, .int .i64 ot, .int .i64 on, .int .i64 pt, .int .i64 pn, .string name, d, s] 46) := Lib.hid (blkBelow hb1 (Blk.new _ _ _) (Blk.new _ _ _).lt)
    have HB : Hid (Below w.heap.size w w1) := Lib.hid (((Below.refl w.heap.size w).alloc (Nat.le_refl _) (.cells #[.int .i64 time, .int .i64 node, .int .i64 seq, .int .i64 kind, .int .i64 ot, .int .i64 on, .int .i64 pt, .int .i64 pn, .string name, d, s] 46)).trans (hb1.mono (by simp)))
    clear hb1
    have c_0 : w1.cell? ⟨w.heap.size, 0, none⟩ = some (.int .i64 time) := (B1.out).cell (o := 0) rfl
    have c_1 : w1.cell? ⟨w.heap.size, 1, none⟩ = some (.int .i64 node) := (B1.out).cell (o := 1) rfl
    have c_2 : w1.cell? ⟨w.heap.size, 2, none⟩ = some (.int .i64 seq) := (B1.out).cell (o := 2) rfl
    have c_3 : w1.cell? ⟨w.heap.size, 3, none⟩ = some (.int .i64 kind) := (B1.out).cell (o := 3) rfl
    have c_4 : w1.cell? ⟨w.heap.size, 4, none⟩ = some (.int .i64 ot) := (B1.out).cell (o := 4) rfl
    have c_5 : w1.cell? ⟨w.heap.size, 5, none⟩ = some (.int .i64 on) := (B1.out).cell (o := 5) rfl
    have c_6 : w1.cell? ⟨w.heap.size, 6, none⟩ = some (.int .i64 pt) := (B1.out).cell (o := 6) rfl
    have c_7 : w1.cell? ⟨w.heap.size, 7, none⟩ = some (.int .i64 pn) := (B1.out).cell (o := 7) rfl
    have c_8 : w1.cell? ⟨w.heap.size, 8, none⟩ = some (.string name) := (B1.out).cell (o := 8) rfl
    have c_9 : w1.cell? ⟨w.heap.size, 9, none⟩ = some (d) := (B1.out).cell (o := 9) rfl
    have c_10 : w1.cell? ⟨w.heap.size, 10, none⟩ = some (s) := (B1.out).cell (o := 10) rfl
    go_wp2_with fail
    refine (K0.out _).mono ?_
    rintro e w2 ⟨bv, rfl, hbv, hb2⟩
    have B2 : Hid (Blk w2 w.heap.size #[.int .i64 time, .int .i64 node, .int .i64 seq, .int .i64 kind, .int .i64 ot, .int .i64 on, .int .i64 pt, .int .i64 pn, .string name, d, s] 46) := Lib.hid (blkBelow hb2 B1.out B1.out.lt)
    have HB2 := Lib.hid (HB.out.trans (hb2.mono HB.out.size))
    have R2 : Hid (RfM w w.heap.size #[.int .i64 time, .int .i64 node, .int .i64 seq, .int .i64 kind, .int .i64 ot, .int .i64 on, .int .i64 pt, .int .i64 pn, .string name, d, s] w2.heap.size [.slice none 0 0, .slice none 0 0, .slice none 0 0, .slice none 0 0, .slice none 0 0, .slice none 0 0, .slice none 0 0] [[], [], [], [], [], [], []] bv x0 (w2.alloc (.cells #[.slice none 0 0, .slice none 0 0, .slice none 0 0, .slice none 0 0, .slice none 0 0, .slice none 0 0, .slice none 0 0] 30))) := Lib.hid ⟨(own_down hbv HB.out.size).alloc _, fun k hk => (hbv.lt k hk).2, B2.out.alloc _, Blk.new _ _ _, fun j p ys h1 h2 => by
      have e1 : p = .slice none 0 0 := by
        have := List.mem_of_getElem? h1
        simpa using this
      have e2 : ys = [] := by
        have := List.mem_of_getElem? h2
        simpa using this
      subst e1 e2
      exact World.ownsRow_nil _ _ _ _, HB2.out.alloc HB2.out.size _, ⟨Nat.le_refl _, B2.out.lt⟩, fun ys hy => by simp at hy; subst hy; simp⟩
    obtain ⟨ba, bc, rfl, _, _, _⟩ := own_shape hbv
    clear hbv hb2 c_0 c_1 c_2 c_3 c_4 c_5 c_6 c_7 c_8 c_9 c_10
    have c_0 : w2.cell? ⟨w.heap.size, 0, none⟩ = some (.int .i64 time) := (B2.out).cell (o := 0) rfl
    have c_1 : w2.cell? ⟨w.heap.size, 1, none⟩ = some (.int .i64 node) := (B2.out).cell (o := 1) rfl
    have c_2 : w2.cell? ⟨w.heap.size, 2, none⟩ = some (.int .i64 seq) := (B2.out).cell (o := 2) rfl
    have c_3 : w2.cell? ⟨w.heap.size, 3, none⟩ = some (.int .i64 kind) := (B2.out).cell (o := 3) rfl
    have c_4 : w2.cell? ⟨w.heap.size, 4, none⟩ = some (.int .i64 ot) := (B2.out).cell (o := 4) rfl
    have c_5 : w2.cell? ⟨w.heap.size, 5, none⟩ = some (.int .i64 on) := (B2.out).cell (o := 5) rfl
    have c_6 : w2.cell? ⟨w.heap.size, 6, none⟩ = some (.int .i64 pt) := (B2.out).cell (o := 6) rfl
    have c_7 : w2.cell? ⟨w.heap.size, 7, none⟩ = some (.int .i64 pn) := (B2.out).cell (o := 7) rfl
    have c_8 : w2.cell? ⟨w.heap.size, 8, none⟩ = some (.string name) := (B2.out).cell (o := 8) rfl
    have c_9 : w2.cell? ⟨w.heap.size, 9, none⟩ = some (d) := (B2.out).cell (o := 9) rfl
    have c_10 : w2.cell? ⟨w.heap.size, 10, none⟩ = some (s) := (B2.out).cell (o := 10) rfl
    have hmk : ∀ w, (Instr.makeSlice 86 (.int .i64 7) (.int .i64 7)).run Tryz.prog w = .ok (.slice (some ⟨w.heap.size, 0, none⟩) 7 7) (w.alloc (.cells #[.slice none 0 0, .slice none 0 0, .slice none 0 0, .slice none 0 0, .slice none 0 0, .slice none 0 0, .slice none 0 0] 30)) := fun _ => by kernel_rfl
    have hz2 : w.heap.size < w2.heap.size := B2.out.lt
    have hne1 : ¬ (w.heap.size = w2.heap.size) := by omega
    have hne2 : ¬ (w2.heap.size = w.heap.size) := by omega
    go_wp2_with fail
    refine (K1.out _).mono ?_
    rintro e w3 ⟨v3, rfl, ho3, hb3⟩
    have R3a := Lib.hid (R2.out.below hb3)
    have R3 : Hid (RfM w w.heap.size #[.int .i64 time, .int .i64 node, .int .i64 seq, .int .i64 kind, .int .i64 ot, .int .i64 on, .int .i64 pt, .int .i64 pn, .string name, d, s] w2.heap.size [v3, .slice none 0 0, .slice none 0 0, .slice none 0 0, .slice none 0 0, .slice none 0 0, .slice none 0 0] [x1, [], [], [], [], [], []] (.slice ba x0.length bc) x0 (w3.setCell ⟨w2.heap.size, 0, none⟩ v3)) := Lib.hid (R3a.out.put (i := 0) (own_down ho3 R2.out.pblk.lt) (by omega))
    have pc := R3a.out.pblk.cell (o := 0) rfl
    have pf := R3a.out.pblk.free 0
    (try clear c_0 c_1 c_2 c_3 c_4 c_5 c_6 c_7 c_8 c_9 c_10)
    have c_0 : w3.cell? ⟨w.heap.size, 0, none⟩ = some (.int .i64 time) := (R3a.out.blk).cell (o := 0) rfl
    have c_1 : w3.cell? ⟨w.heap.size, 1, none⟩ = some (.int .i64 node) := (R3a.out.blk).cell (o := 1) rfl
    have c_2 : w3.cell? ⟨w.heap.size, 2, none⟩ = some (.int .i64 seq) := (R3a.out.blk).cell (o := 2) rfl
    have c_3 : w3.cell? ⟨w.heap.size, 3, none⟩ = some (.int .i64 kind) := (R3a.out.blk).cell (o := 3) rfl
    have c_4 : w3.cell? ⟨w.heap.size, 4, none⟩ = some (.int .i64 ot) := (R3a.out.blk).cell (o := 4) rfl
    have c_5 : w3.cell? ⟨w.heap.size, 5, none⟩ = some (.int .i64 on) := (R3a.out.blk).cell (o := 5) rfl
    have c_6 : w3.cell? ⟨w.heap.size, 6, none⟩ = some (.int .i64 pt) := (R3a.out.blk).cell (o := 6) rfl
    have c_7 : w3.cell? ⟨w.heap.size, 7, none⟩ = some (.int .i64 pn) := (R3a.out.blk).cell (o := 7) rfl
    have c_8 : w3.cell? ⟨w.heap.size, 8, none⟩ = some (.string name) := (R3a.out.blk).cell (o := 8) rfl
    have c_9 : w3.cell? ⟨w.heap.size, 9, none⟩ = some (d) := (R3a.out.blk).cell (o := 9) rfl
    have c_10 : w3.cell? ⟨w.heap.size, 10, none⟩ = some (s) := (R3a.out.blk).cell (o := 10) rfl
    obtain ⟨va3, vc3, rfl, _, _, _⟩ := own_shape ho3
    clear ho3 hb3
    go_wp2_with fail
    refine (K2.out _).mono ?_
    rintro e w4 ⟨v4, rfl, ho4, hb4⟩
    have R4a := Lib.hid (R3.out.below hb4)
    have R4 : Hid (RfM w w.heap.size #[.int .i64 time, .int .i64 node, .int .i64 seq, .int .i64 kind, .int .i64 ot, .int .i64 on, .int .i64 pt, .int .i64 pn, .string name, d, s] w2.heap.size [.slice va3 (x1).length vc3, v4, .slice none 0 0, .slice none 0 0, .slice none 0 0, .slice none 0 0, .slice none 0 0] [x1, x2, [], [], [], [], []] (.slice ba x0.length bc) x0 (w4.setCell ⟨w2.heap.size, 1, none⟩ v4)) := Lib.hid (R4a.out.put (i := 1) (own_down ho4 R3.out.pblk.lt) (by omega))
    have pc := R4a.out.pblk.cell (o := 1) rfl
    have pf := R4a.out.pblk.free 1
    (try clear c_0 c_1 c_2 c_3 c_4 c_5 c_6 c_7 c_8 c_9 c_10)
    have c_0 : w4.cell? ⟨w.heap.size, 0, none⟩ = some (.int .i64 time) := (R4a.out.blk).cell (o := 0) rfl
    have c_1 : w4.cell? ⟨w.heap.size, 1, none⟩ = some (.int .i64 node) := (R4a.out.blk).cell (o := 1) rfl
    have c_2 : w4.cell? ⟨w.heap.size, 2, none⟩ = some (.int .i64 seq) := (R4a.out.blk).cell (o := 2) rfl
    have c_3 : w4.cell? ⟨w.heap.size, 3, none⟩ = some (.int .i64 kind) := (R4a.out.blk).cell (o := 3) rfl
    have c_4 : w4.cell? ⟨w.heap.size, 4, none⟩ = some (.int .i64 ot) := (R4a.out.blk).cell (o := 4) rfl
    have c_5 : w4.cell? ⟨w.heap.size, 5, none⟩ = some (.int .i64 on) := (R4a.out.blk).cell (o := 5) rfl
    have c_6 : w4.cell? ⟨w.heap.size, 6, none⟩ = some (.int .i64 pt) := (R4a.out.blk).cell (o := 6) rfl
    have c_7 : w4.cell? ⟨w.heap.size, 7, none⟩ = some (.int .i64 pn) := (R4a.out.blk).cell (o := 7) rfl
    have c_8 : w4.cell? ⟨w.heap.size, 8, none⟩ = some (.string name) := (R4a.out.blk).cell (o := 8) rfl
    have c_9 : w4.cell? ⟨w.heap.size, 9, none⟩ = some (d) := (R4a.out.blk).cell (o := 9) rfl
    have c_10 : w4.cell? ⟨w.heap.size, 10, none⟩ = some (s) := (R4a.out.blk).cell (o := 10) rfl
    obtain ⟨va4, vc4, rfl, _, _, _⟩ := own_shape ho4
    clear ho4 hb4
    go_wp2_with fail
    refine (K3.out _).mono ?_
    rintro e w5 ⟨v5, rfl, ho5, hb5⟩
    have R5a := Lib.hid (R4.out.below hb5)
    have R5 : Hid (RfM w w.heap.size #[.int .i64 time, .int .i64 node, .int .i64 seq, .int .i64 kind, .int .i64 ot, .int .i64 on, .int .i64 pt, .int .i64 pn, .string name, d, s] w2.heap.size [.slice va3 (x1).length vc3, .slice va4 (x2).length vc4, v5, .slice none 0 0, .slice none 0 0, .slice none 0 0, .slice none 0 0] [x1, x2, x3, [], [], [], []] (.slice ba x0.length bc) x0 (w5.setCell ⟨w2.heap.size, 2, none⟩ v5)) := Lib.hid (R5a.out.put (i := 2) (own_down ho5 R4.out.pblk.lt) (by omega))
    have pc := R5a.out.pblk.cell (o := 2) rfl
    have pf := R5a.out.pblk.free 2
    (try clear c_0 c_1 c_2 c_3 c_4 c_5 c_6 c_7 c_8 c_9 c_10)
    have c_0 : w5.cell? ⟨w.heap.size, 0, none⟩ = some (.int .i64 time) := (R5a.out.blk).cell (o := 0) rfl
    have c_1 : w5.cell? ⟨w.heap.size, 1, none⟩ = some (.int .i64 node) := (R5a.out.blk).cell (o := 1) rfl
    have c_2 : w5.cell? ⟨w.heap.size, 2, none⟩ = some (.int .i64 seq) := (R5a.out.blk).cell (o := 2) rfl
    have c_3 : w5.cell? ⟨w.heap.size, 3, none⟩ = some (.int .i64 kind) := (R5a.out.blk).cell (o := 3) rfl
    have c_4 : w5.cell? ⟨w.heap.size, 4, none⟩ = some (.int .i64 ot) := (R5a.out.blk).cell (o := 4) rfl
    have c_5 : w5.cell? ⟨w.heap.size, 5, none⟩ = some (.int .i64 on) := (R5a.out.blk).cell (o := 5) rfl
    have c_6 : w5.cell? ⟨w.heap.size, 6, none⟩ = some (.int .i64 pt) := (R5a.out.blk).cell (o := 6) rfl
    have c_7 : w5.cell? ⟨w.heap.size, 7, none⟩ = some (.int .i64 pn) := (R5a.out.blk).cell (o := 7) rfl
    have c_8 : w5.cell? ⟨w.heap.size, 8, none⟩ = some (.string name) := (R5a.out.blk).cell (o := 8) rfl
    have c_9 : w5.cell? ⟨w.heap.size, 9, none⟩ = some (d) := (R5a.out.blk).cell (o := 9) rfl
    have c_10 : w5.cell? ⟨w.heap.size, 10, none⟩ = some (s) := (R5a.out.blk).cell (o := 10) rfl
    obtain ⟨va5, vc5, rfl, _, _, _⟩ := own_shape ho5
    clear ho5 hb5
    go_wp2_with fail
    refine (K4.out _).mono ?_
    rintro e w6 ⟨v6, rfl, ho6, hb6⟩
    have R6a := Lib.hid (R5.out.below hb6)
    have R6 : Hid (RfM w w.heap.size #[.int .i64 time, .int .i64 node, .int .i64 seq, .int .i64 kind, .int .i64 ot, .int .i64 on, .int .i64 pt, .int .i64 pn, .string name, d, s] w2.heap.size [.slice va3 (x1).length vc3, .slice va4 (x2).length vc4, .slice va5 (x3).length vc5, v6, .slice none 0 0, .slice none 0 0, .slice none 0 0] [x1, x2, x3, x4, [], [], []] (.slice ba x0.length bc) x0 (w6.setCell ⟨w2.heap.size, 3, none⟩ v6)) := Lib.hid (R6a.out.put (i := 3) (own_down ho6 R5.out.pblk.lt) (by omega))
    have pc := R6a.out.pblk.cell (o := 3) rfl
    have pf := R6a.out.pblk.free 3
    (try clear c_0 c_1 c_2 c_3 c_4 c_5 c_6 c_7 c_8 c_9 c_10)
    have c_0 : w6.cell? ⟨w.heap.size, 0, none⟩ = some (.int .i64 time) := (R6a.out.blk).cell (o := 0) rfl
    have c_1 : w6.cell? ⟨w.heap.size, 1, none⟩ = some (.int .i64 node) := (R6a.out.blk).cell (o := 1) rfl
    have c_2 : w6.cell? ⟨w.heap.size, 2, none⟩ = some (.int .i64 seq) := (R6a.out.blk).cell (o := 2) rfl
    have c_3 : w6.cell? ⟨w.heap.size, 3, none⟩ = some (.int .i64 kind) := (R6a.out.blk).cell (o := 3) rfl
    have c_4 : w6.cell? ⟨w.heap.size, 4, none⟩ = some (.int .i64 ot) := (R6a.out.blk).cell (o := 4) rfl
    have c_5 : w6.cell? ⟨w.heap.size, 5, none⟩ = some (.int .i64 on) := (R6a.out.blk).cell (o := 5) rfl
    have c_6 : w6.cell? ⟨w.heap.size, 6, none⟩ = some (.int .i64 pt) := (R6a.out.blk).cell (o := 6) rfl
    have c_7 : w6.cell? ⟨w.heap.size, 7, none⟩ = some (.int .i64 pn) := (R6a.out.blk).cell (o := 7) rfl
    have c_8 : w6.cell? ⟨w.heap.size, 8, none⟩ = some (.string name) := (R6a.out.blk).cell (o := 8) rfl
    have c_9 : w6.cell? ⟨w.heap.size, 9, none⟩ = some (d) := (R6a.out.blk).cell (o := 9) rfl
    have c_10 : w6.cell? ⟨w.heap.size, 10, none⟩ = some (s) := (R6a.out.blk).cell (o := 10) rfl
    obtain ⟨va6, vc6, rfl, _, _, _⟩ := own_shape ho6
    clear ho6 hb6
    go_upto_region 9 with fail
    generalize hwq : (w6.setCell ⟨w2.heap.size, 3, none⟩ (.slice va6 x4.length vc6)) = wq at *
    clear hwq
    clear c_0 c_1 c_2 c_3 c_4 c_5 c_6 c_7 c_8 c_9 c_10
    have c_0 : wq.cell? ⟨w.heap.size, 0, none⟩ = some (.int .i64 time) := (R6.out.blk).cell (o := 0) rfl
    have c_1 : wq.cell? ⟨w.heap.size, 1, none⟩ = some (.int .i64 node) := (R6.out.blk).cell (o := 1) rfl
    have c_2 : wq.cell? ⟨w.heap.size, 2, none⟩ = some (.int .i64 seq) := (R6.out.blk).cell (o := 2) rfl
    have c_3 : wq.cell? ⟨w.heap.size, 3, none⟩ = some (.int .i64 kind) := (R6.out.blk).cell (o := 3) rfl
    have c_4 : wq.cell? ⟨w.heap.size, 4, none⟩ = some (.int .i64 ot) := (R6.out.blk).cell (o := 4) rfl
    have c_5 : wq.cell? ⟨w.heap.size, 5, none⟩ = some (.int .i64 on) := (R6.out.blk).cell (o := 5) rfl
    have c_6 : wq.cell? ⟨w.heap.size, 6, none⟩ = some (.int .i64 pt) := (R6.out.blk).cell (o := 6) rfl
    have c_7 : wq.cell? ⟨w.heap.size, 7, none⟩ = some (.int .i64 pn) := (R6.out.blk).cell (o := 7) rfl
    have c_8 : wq.cell? ⟨w.heap.size, 8, none⟩ = some (.string name) := (R6.out.blk).cell (o := 8) rfl
    have c_9 : wq.cell? ⟨w.heap.size, 9, none⟩ = some (d) := (R6.out.blk).cell (o := 9) rfl
    have c_10 : wq.cell? ⟨w.heap.size, 10, none⟩ = some (s) := (R6.out.blk).cell (o := 10) rfl
    have hcv := Lib.run_convert_string_bytes (P := Tryz.prog) wq 9 30 5 name Tryz.underlying9 Tryz.underlying30 Tryz.underlying5
    have HBB := Lib.hid (below_bytes wq 5 name)
    have hc1 := grownCap_ge wq name.size 0 5
    have hc2 := grownCap_le_maxLen wq name.size 0 5 (by unfold maxLen; omega)
    have HRB := Lib.hid (rdv_bytes wq 5 name _ hc1 hc2)
    have R6b := Lib.hid (R6.out.below HBB.out)
    generalize grownCap wq name.size 0 5 = cc at *
    clear hc1 hc2
    go_wp2_with fail
    refine (K5.out _ _ HRB.out).mono ?_
    rintro e w7 ⟨v7, rfl, ho7, hb7⟩
    have R7a := Lib.hid (R6b.out.below hb7)
    have R7 : Hid (RfM w w.heap.size #[.int .i64 time, .int .i64 node, .int .i64 seq, .int .i64 kind, .int .i64 ot, .int .i64 on, .int .i64 pt, .int .i64 pn, .string name, d, s] w2.heap.size [.slice va3 (x1).length vc3, .slice va4 (x2).length vc4, .slice va5 (x3).length vc5, .slice va6 (x4).length vc6, v7, .slice none 0 0, .slice none 0 0] [x1, x2, x3, x4, x5, [], []] (.slice ba x0.length bc) x0 (w7.setCell ⟨w2.heap.size, 4, none⟩ v7)) := Lib.hid (R7a.out.put (i := 4) (own_down ho7 R6b.out.pblk.lt) (by omega))
    have pc := R7a.out.pblk.cell (o := 4) rfl
    have pf := R7a.out.pblk.free 4
    (try clear c_0 c_1 c_2 c_3 c_4 c_5 c_6 c_7 c_8 c_9 c_10)
    have c_0 : w7.cell? ⟨w.heap.size, 0, none⟩ = some (.int .i64 time) := (R7a.out.blk).cell (o := 0) rfl
    have c_1 : w7.cell? ⟨w.heap.size, 1, none⟩ = some (.int .i64 node) := (R7a.out.blk).cell (o := 1) rfl
    have c_2 : w7.cell? ⟨w.heap.size, 2, none⟩ = some (.int .i64 seq) := (R7a.out.blk).cell (o := 2) rfl
    have c_3 : w7.cell? ⟨w.heap.size, 3, none⟩ = some (.int .i64 kind) := (R7a.out.blk).cell (o := 3) rfl
    have c_4 : w7.cell? ⟨w.heap.size, 4, none⟩ = some (.int .i64 ot) := (R7a.out.blk).cell (o := 4) rfl
    have c_5 : w7.cell? ⟨w.heap.size, 5, none⟩ = some (.int .i64 on) := (R7a.out.blk).cell (o := 5) rfl
    have c_6 : w7.cell? ⟨w.heap.size, 6, none⟩ = some (.int .i64 pt) := (R7a.out.blk).cell (o := 6) rfl
    have c_7 : w7.cell? ⟨w.heap.size, 7, none⟩ = some (.int .i64 pn) := (R7a.out.blk).cell (o := 7) rfl
    have c_8 : w7.cell? ⟨w.heap.size, 8, none⟩ = some (.string name) := (R7a.out.blk).cell (o := 8) rfl
    have c_9 : w7.cell? ⟨w.heap.size, 9, none⟩ = some (d) := (R7a.out.blk).cell (o := 9) rfl
    have c_10 : w7.cell? ⟨w.heap.size, 10, none⟩ = some (s) := (R7a.out.blk).cell (o := 10) rfl
    obtain ⟨va7, vc7, rfl, _, _, _⟩ := own_shape ho7
    clear ho7 hb7
    clear hcv HRB HBB R6b
    go_wp2_with fail
    refine (K6.out _ R7.out.bel).mono ?_
    rintro e w8 ⟨v8, rfl, ho8, hb8⟩
    have R8a := Lib.hid (R7.out.below hb8)
    have R8 : Hid (RfM w w.heap.size #[.int .i64 time, .int .i64 node, .int .i64 seq, .int .i64 kind, .int .i64 ot, .int .i64 on, .int .i64 pt, .int .i64 pn, .string name, d, s] w2.heap.size [.slice va3 (x1).length vc3, .slice va4 (x2).length vc4, .slice va5 (x3).length vc5, .slice va6 (x4).length vc6, .slice va7 (x5).length vc7, v8, .slice none 0 0] [x1, x2, x3, x4, x5, x6, []] (.slice ba x0.length bc) x0 (w8.setCell ⟨w2.heap.size, 5, none⟩ v8)) := Lib.hid (R8a.out.put (i := 5) (own_down ho8 R7.out.pblk.lt) (by omega))
    have pc := R8a.out.pblk.cell (o := 5) rfl
    have pf := R8a.out.pblk.free 5
    (try clear c_0 c_1 c_2 c_3 c_4 c_5 c_6 c_7 c_8 c_9 c_10)
    have c_0 : w8.cell? ⟨w.heap.size, 0, none⟩ = some (.int .i64 time) := (R8a.out.blk).cell (o := 0) rfl
    have c_1 : w8.cell? ⟨w.heap.size, 1, none⟩ = some (.int .i64 node) := (R8a.out.blk).cell (o := 1) rfl
    have c_2 : w8.cell? ⟨w.heap.size, 2, none⟩ = some (.int .i64 seq) := (R8a.out.blk).cell (o := 2) rfl
    have c_3 : w8.cell? ⟨w.heap.size, 3, none⟩ = some (.int .i64 kind) := (R8a.out.blk).cell (o := 3) rfl
    have c_4 : w8.cell? ⟨w.heap.size, 4, none⟩ = some (.int .i64 ot) := (R8a.out.blk).cell (o := 4) rfl
    have c_5 : w8.cell? ⟨w.heap.size, 5, none⟩ = some (.int .i64 on) := (R8a.out.blk).cell (o := 5) rfl
    have c_6 : w8.cell? ⟨w.heap.size, 6, none⟩ = some (.int .i64 pt) := (R8a.out.blk).cell (o := 6) rfl
    have c_7 : w8.cell? ⟨w.heap.size, 7, none⟩ = some (.int .i64 pn) := (R8a.out.blk).cell (o := 7) rfl
    have c_8 : w8.cell? ⟨w.heap.size, 8, none⟩ = some (.string name) := (R8a.out.blk).cell (o := 8) rfl
    have c_9 : w8.cell? ⟨w.heap.size, 9, none⟩ = some (d) := (R8a.out.blk).cell (o := 9) rfl
    have c_10 : w8.cell? ⟨w.heap.size, 10, none⟩ = some (s) := (R8a.out.blk).cell (o := 10) rfl
    obtain ⟨va8, vc8, rfl, _, _, _⟩ := own_shape ho8
    clear ho8 hb8
    go_wp2_with fail
    refine (K7.out _ R8.out.bel).mono ?_
    rintro e w9 ⟨v9, rfl, ho9, hb9⟩
    have R9a := Lib.hid (R8.out.below hb9)
    have R9 : Hid (RfM w w.heap.size #[.int .i64 time, .int .i64 node, .int .i64 seq, .int .i64 kind, .int .i64 ot, .int .i64 on, .int .i64 pt, .int .i64 pn, .string name, d, s] w2.heap.size [.slice va3 (x1).length vc3, .slice va4 (x2).length vc4, .slice va5 (x3).length vc5, .slice va6 (x4).length vc6, .slice va7 (x5).length vc7, .slice va8 (x6).length vc8, v9] [x1, x2, x3, x4, x5, x6, x7] (.slice ba x0.length bc) x0 (w9.setCell ⟨w2.heap.size, 6, none⟩ v9)) := Lib.hid (R9a.out.put (i := 6) (own_down ho9 R8.out.pblk.lt) (by omega))
    have pc := R9a.out.pblk.cell (o := 6) rfl
    have pf := R9a.out.pblk.free 6
    (try clear c_0 c_1 c_2 c_3 c_4 c_5 c_6 c_7 c_8 c_9 c_10)
    have c_0 : w9.cell? ⟨w.heap.size, 0, none⟩ = some (.int .i64 time) := (R9a.out.blk).cell (o := 0) rfl
    have c_1 : w9.cell? ⟨w.heap.size, 1, none⟩ = some (.int .i64 node) := (R9a.out.blk).cell (o := 1) rfl
    have c_2 : w9.cell? ⟨w.heap.size, 2, none⟩ = some (.int .i64 seq) := (R9a.out.blk).cell (o := 2) rfl
    have c_3 : w9.cell? ⟨w.heap.size, 3, none⟩ = some (.int .i64 kind) := (R9a.out.blk).cell (o := 3) rfl
    have c_4 : w9.cell? ⟨w.heap.size, 4, none⟩ = some (.int .i64 ot) := (R9a.out.blk).cell (o := 4) rfl
    have c_5 : w9.cell? ⟨w.heap.size, 5, none⟩ = some (.int .i64 on) := (R9a.out.blk).cell (o := 5) rfl
    have c_6 : w9.cell? ⟨w.heap.size, 6, none⟩ = some (.int .i64 pt) := (R9a.out.blk).cell (o := 6) rfl
    have c_7 : w9.cell? ⟨w.heap.size, 7, none⟩ = some (.int .i64 pn) := (R9a.out.blk).cell (o := 7) rfl
    have c_8 : w9.cell? ⟨w.heap.size, 8, none⟩ = some (.string name) := (R9a.out.blk).cell (o := 8) rfl
    have c_9 : w9.cell? ⟨w.heap.size, 9, none⟩ = some (d) := (R9a.out.blk).cell (o := 9) rfl
    have c_10 : w9.cell? ⟨w.heap.size, 10, none⟩ = some (s) := (R9a.out.blk).cell (o := 10) rfl
    obtain ⟨va9, vc9, rfl, _, _, _⟩ := own_shape ho9
    clear ho9 hb9
    clear c_0 c_1 c_2 c_3 c_4 c_5 c_6 c_7 c_8 c_9 c_10
    go_wp2
    obtain ⟨N1, hN1⟩ : ∃ N1, N1 = (w9.setCell ⟨w2.heap.size, 6, none⟩ (.slice va9 x7.length vc9)).heap.size := ⟨_, rfl⟩
    obtain ⟨wz, hwz⟩ : ∃ wz, wz = w9.setCell ⟨w2.heap.size, 6, none⟩ (.slice va9 x7.length vc9) := ⟨_, rfl⟩
    obtain ⟨ps, hps⟩ : ∃ ps : List Value, ps = [.slice va3 x1.length vc3, .slice va4 x2.length vc4, .slice va5 x3.length vc5, .slice va6 x4.length vc6, .slice va7 x5.length vc7, .slice va8 x6.length vc8, .slice va9 x7.length vc9] := ⟨_, rfl⟩
    obtain ⟨xss, hxs⟩ : ∃ xss : List (List Int), xss = [x1, x2, x3, x4, x5, x6, x7] := ⟨_, rfl⟩
    have RS := R9.out.start
    rw [← hN1, ← hwz, ← hps, ← hxs] at RS
    rw [← hwz]
    have hp7 : ps.length = 7 := by rw [hps]; rfl
    have hx7 : xss.length = 7 := by rw [hxs]; rfl
    have hfl : Hid (LL = x0 ++ xss.flatten) := Lib.hid (by rw [hL.out, hxs]; simp [List.append_assoc])
    clear hwz hN1 hps hxs
    have RS0 := Lib.hid RS
    obtain ⟨i0, hi, hz0, hz1, hz2'⟩ := info_parts Tryz.info5
    clear RS hL KM HD HS K0 K1 K2 K3 K4 K5 K6 K7 R2 R3 R4 R5 R6 R7 R8 R9 R3a R4a R5a R6a R7a R8a R9a B1 HB B2 HB2 hmk pc pf
    go_loopw [3, 6] (fun bv i wr => ∃ k : Nat, k ≤ 7 ∧ i = .int .i64 k ∧ ∃ L : List Int, L = x0 ++ (xss.take k).flatten ∧ L.length ≤ 70000 + k * 70000 ∧ RfL w N1 w2.heap.size ps xss bv L wr) (fun _ i _ => 7 - (intOf i).toNat)
    case atStart => exact ⟨0, by omega, rfl, x0, by simp, by omega, RS0.out⟩
    case round =>
      obtain ⟨k, hk, rfl, L, hLk, hLl, hR⟩ := hrel
      have HL := Lib.hid hLk
      have HR := Lib.hid hR
      obtain ⟨ba', bc', rfl, _, _, _⟩ := own_shape hR.own
      clear hLk hR
      by_cases hlt : k < 7
      · obtain ⟨p, hp⟩ : ∃ p, ps[k]? = some p := ⟨_, List.getElem?_eq_getElem (by omega)⟩
        obtain ⟨ys, hy⟩ : ∃ ys, xss[k]? = some ys := ⟨_, List.getElem?_eq_getElem (by omega)⟩
        have hcell := HR.out.pblk.cell (o := k) (by simpa using hp)
        have hpr := (HR.out.parts k p ys hp hy).1
        have hyl := HR.out.len ys (List.mem_of_getElem? hy)
        have HPR := Lib.hid (Rdv.of_owns hpr)
        obtain ⟨pa, pc', rfl, _, _, _⟩ := own_shape hpr
        have HT : Hid (x0 ++ (xss.take (k + 1)).flatten = L ++ ys) := Lib.hid (by
          have e : xss.take (k + 1) = xss.take k ++ [ys] := by
            rw [List.getElem?_eq_getElem (by omega)] at hy
            injection hy with hy
            rw [List.take_succ_eq_append_getElem (by omega), hy]
          rw [e, HL.out]; simp [List.append_assoc])
        have HO := Lib.hid HR.out.own
        have hwz := HR.out.bel.size
        have k1 : (k : Int) < 7 := by omega
        have k2 : (0 : Int) ≤ k := by omega
        clear hpr hp hy
        go_wp2_with (at_builtin; refine wpList_append_rd rfl _ _ 30 rfl w.heap.size 5 i0 (.int .u8 0) 1 Tryz.underlying30 hi hz0 hz1 hz2' rfl _ _ _ rfl HO.out (.slice pa ys.length pc') u8v ys rfl HPR.out (fun _ => rfl) ?c1 ?c2 ?c3 ?_)
        case c1 => unfold maxLen; omega
        case c2 => omega
        case c3 => omega
        intro v4 w4 ho4 hg4 hb4
        have HG := Lib.hid (HR.out.grow ho4 hg4 hb4)
        clear ho4 hg4 hb4 HR HO HPR hcell
        go_wp2
        go_roundw
        case rel => exact ⟨k + 1, by omega, by go_num, L ++ ys, HT.out.symm, by simp; omega, HG.out⟩
        case measure => simp [intOf]; omega
      · obtain rfl : k = 7 := by omega
        go_wp2
        go_ret
        refine ⟨_, rfl, ?_, HR.out.bel⟩
        have e : LL = L := by rw [hfl.out, HL.out, ← hx7, List.take_length]
        rw [e]
        exact HR.out.own
end Go.Proofs.YthbalmoafpggdaaGreat

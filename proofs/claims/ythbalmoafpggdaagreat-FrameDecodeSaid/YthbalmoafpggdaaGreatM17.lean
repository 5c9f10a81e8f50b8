/- Frames: what is written; a writer since a world; sized. Frames: frames.Encode. Frames: the reference's Eq. Frames: what is written is read (plain). -/
import Derived.Test.YthbalmoafpggdaaGreatChecked
import Derived.WalkKit
import Derived.Outline
import Derived.WalkSpells
import Derived.WalkLawsBesides
import Derived.Deep.QuietTactic
import Derived.Deep.RegionWith
import Derived.Deep.DeepMust
import Derived.BigQuiet
import Derived.RegionTactic
import Derived.ChangeAlike
import Derived.StillTailTactics
import Derived.Deep.LoopGhost
import Derived.Test.YthbalmoafpggdaaGreatM1
import Derived.Test.YthbalmoafpggdaaGreatM16
import Derived.Test.YthbalmoafpggdaaGreatM14
import Derived.Test.YthbalmoafpggdaaGreatM13
import Derived.Test.YthbalmoafpggdaaGreatM8
namespace Go.Proofs.YthbalmoafpggdaaGreat
open Go.RowKit
set_option linter.unusedVariables false
set_option linter.unusedSimpArgs false
def opsL (qs : List Opr) : List Int := qs.flatMap fun q => numL (opL q).length ++ opL q
def headN (f : Frm) : List Int := [f.kind, f.src, f.dst, f.sess, f.seq]
def preL (f : Frm) : List Int := numsL (headN f) ++ truthW f.last ++ (numL (cutL f.vec).length ++ numsL (cutL f.vec)) ++ numL f.ops.length
def bodyL (f : Frm) : List Int := preL f ++ opsL f.ops
theorem opsL_snoc {qs : List Opr} {i : Nat} {q : Opr} (hq : qs[i]? = some q) : opsL (qs.take (i + 1)) = opsL (qs.take i) ++ (numL (opL q).length ++ opL q) := by
  unfold opsL
  rw [List.take_add_one, hq]
  simp
theorem opsL_le (qs : List Opr) (i : Nat) : (opsL (qs.take i)).length ≤ (opsL qs).length := by
  have h : opsL qs = opsL (qs.take i) ++ opsL (qs.drop i) := by
    unfold opsL
    rw [← List.flatMap_append, List.take_append_drop]
  rw [h, List.length_append]
  omega
theorem opL_byt {o : Opr} (hd : Byt o.data) : Byt (opL o) := by
  unfold opL
  have nb : ∀ n, Byt (numL n) := fun n => numL_byt n
  have sb : Byt (strL o.name) := strL_byt _
  have vb : Byt (numsL (cutL o.seen)) := numsL_byt _
  repeat' apply Byt.append
  all_goals first | exact nb _ | exact sb | exact vb | exact hd
theorem opsL_byt (qs : List Opr) (h : ∀ q ∈ qs, Byt q.data) : Byt (opsL qs) := by
  intro x hx
  unfold opsL at hx
  rw [List.mem_flatMap] at hx
  obtain ⟨q, hq, hx⟩ := hx
  exact ((show Byt (numL (opL q).length) from numL_byt _).append (opL_byt (h q hq))) x hx
theorem preL_byt (f : Frm) : Byt (preL f) := by
  unfold preL
  have nb : ∀ n, Byt (numL n) := fun n => numL_byt n
  have vb : ∀ v, Byt (numsL v) := fun v => numsL_byt v
  have tb : Byt (truthW f.last) := by intro q hq; unfold truthW at hq; split at hq <;> simp at hq <;> omega
  exact ((((vb _).append tb).append ((nb _).append (vb _))).append (nb _))
theorem bodyL_byt (f : Frm) (h : ∀ q ∈ f.ops, Byt q.data) : Byt (bodyL f) := (preL_byt f).append (opsL_byt _ h)
/-- A writer at p, that was there in w0 and has written l; all else of w0 is as it was. -/
def WG (w0 : World) (p : Nat) (l : List Int) (W : World) : Prop := ∃ v, Wr W p v l false ∧ Chg (· = p) w0 W ∧ ∀ k, v.ownBlock = some k → w0.heap.size ≤ k
theorem WG.step {w0 W W' : World} {p : Nat} {v : Value} {l' : List Int} (h1 : Chg (· = p) w0 W) (h2 : ∀ k, v.ownBlock = some k → w0.heap.size ≤ k) (h : WStep p v W l' false W') : WG w0 p l' W' := by
  obtain ⟨v', g1, g2, g3⟩ := h
  refine ⟨v', g1, h1.trans' g3 fun i hi hs => ?_, fun k hk => ?_⟩
  · rcases hs with hs | hs
    · exact hs
    · have := h2 i hs; omega
  · rcases g2 with g2 | g2
    · exact h2 k (g2 ▸ hk)
    · exact Nat.le_trans h1.size (g2 k hk)
def WGPost (w0 : World) (p : Nat) (l' : List Int) (e : Ending) (w' : World) : Prop := e = .returned (.tuple #[]) ∧ WG w0 p l' w'
theorem wgNum {w0 W : World} {p : Nat} {l : List Int} (h : WG w0 p l W) (n : Int) (hn : 0 ≤ n ∧ n ≤ 4611686018427387904) (hl : l.length ≤ 500000000000) : Calls Tryz.prog 25 #[.pointer (some ⟨p, 0, none⟩), .int .i64 n] W (WGPost w0 p (l ++ numL n.toNat)) := by
  obtain ⟨v, h1, h2, h3⟩ := h
  refine (wNum p v l false n W h1 (by omega) (by omega)).mono ?_
  rintro e w2 ⟨he, hs⟩
  have e1 : numW n = some (numL n.toNat) := by unfold numW; rw [if_pos hn]
  rw [e1] at hs
  exact ⟨he, WG.step h2 h3 hs⟩
theorem wgTruth {w0 W : World} {p : Nat} {l : List Int} (h : WG w0 p l W) (q : Bool) (hl : l.length ≤ 500000000000) : Calls Tryz.prog 26 #[.pointer (some ⟨p, 0, none⟩), .bool q] W (WGPost w0 p (l ++ truthW q)) := by
  obtain ⟨v, h1, h2, h3⟩ := h
  refine (wTruth p v l false q W h1 (by omega)).mono ?_
  rintro e w2 ⟨he, hs⟩
  exact ⟨he, WG.step h2 h3 hs⟩
theorem wgVec {w0 W : World} {p : Nat} {l : List Int} (h : WG w0 p l W) (w : World) (hw : Below w.heap.size w W) (hp : w.heap.size ≤ p) (hw0 : w.heap.size ≤ w0.heap.size) (x : Value) (xs : List Int) (hx : Rdv i64v w x xs) (hn : vokB xs = true) (hl : l.length ≤ 500000000000) : Calls Tryz.prog 27 #[.pointer (some ⟨p, 0, none⟩), x] W (WGPost w0 p (l ++ (numL (cutL xs).length ++ numsL (cutL xs)))) := by
  obtain ⟨v, h1, h2, h3⟩ := h
  have hold := rdv_old hx
  refine (wVector p v l false x xs W h1 (hx.below hw) (fun b o n c e h0 => ⟨by have := hold b o n c e h0; omega, fun e2 => by have := hold b o n c e h0; have := h3 _ e2; omega⟩) (fun b o n c e h0 => Nat.lt_of_lt_of_le (hold b o n c e h0) hw.size) (by omega)).mono ?_
  rintro e w2 ⟨he, hs⟩
  have e1 : vecW xs = some (numL (cutL xs).length ++ numsL (cutL xs)) := by
    unfold vokB at hn
    rw [Bool.and_eq_true, decide_eq_true_eq] at hn
    unfold vecW; rw [if_pos hn]
  rw [e1] at hs
  exact ⟨he, WG.step h2 h3 hs⟩
theorem wgDone {w0 W : World} {p : Nat} {l : List Int} (h : WG w0 p l W) (hl : l.length ≤ 500000000000) : Calls Tryz.prog 28 #[.pointer (some ⟨p, 0, none⟩)] W fun e w' => ∃ v, e = .returned (.tuple #[v, .int .i64 0]) ∧ w'.ownsRow W.heap.size 5 1 v l.length (l.map u8v) ∧ Below W.heap.size W w' := by
  obtain ⟨v, h1, _, _⟩ := h
  exact wDone p v l false W h1 (by omega)
theorem wgNew {w1 w2 : World} {p : Nat} (h : Wr w2 p (.slice none 0 0) [] false) (w0 : World) (hw : Below w2.heap.size w2 w0) : WG w0 p [] w0 :=
  ⟨_, h.below hw, Chg.refl _ _, fun k hk => by simp [Value.ownBlock] at hk⟩
/-- A row of bytes that is the caller's. -/
def RowPost (l : List Int) (w : World) (e : Ending) (w' : World) : Prop := ∃ v, e = .returned v ∧ w'.ownsRow w.heap.size 5 1 v l.length (l.map u8v) ∧ Below w.heap.size w w'
set_option maxHeartbeats 2000000 in
set_option maxRecDepth 100000 in
theorem frSized (x : Value) (xs : List Int) (w : World) (hx : Rdv u8v w x xs) (hl : xs.length ≤ 10000000) : Calls Tryz.prog 30 #[x] w (RowPost (numL xs.length ++ xs) w) := by
  obtain ⟨i0, hi, hz0, hz1, hz2⟩ := info_parts Tryz.info5
  obtain ⟨a, n, c, rfl⟩ := hx.shape
  obtain ⟨rfl, x1, x2, _⟩ := hx.cap
  unfold maxLen at x2
  have HX := Lib.hid hx
  have n9 := numL_len xs.length
  clear hx
  go_enter Tryz.func30, Tryz.ntmps30
  go_wp2_with fail
  refine (wNew _).mono ?_
  rintro e w2 ⟨p, rfl, hp, hW, hb2⟩
  have B2 := Lib.hid hb2
  have G2 := Lib.hid (wgNew (w1 := w2) hW w2 (Below.refl _ _))
  have HP := Lib.hid hp
  clear hp hW hb2
  go_wp2_with fail
  refine (wgNum G2.out xs.length (by omega) (by simp)).mono ?_
  rintro e w3 ⟨rfl, hg⟩
  have G3 := Lib.hid hg
  have B3 : Hid (Below w.heap.size w w3) := Lib.hid (by obtain ⟨v, _, h2, _⟩ := hg; exact Chg.below_trans B2.out h2 B2.out.size (fun i hi e => by have := HP.out; omega))
  clear hg
  go_wp2_with fail
  refine (wgDone G3.out (by simp; omega)).mono ?_
  rintro e w4 ⟨v4, rfl, ho, hb4⟩
  simp only [List.nil_append, Int.toNat_natCast] at ho
  have O4 := Lib.hid (own_down ho B3.out.size)
  have B4 := Lib.hid (B3.out.trans (hb4.mono B3.out.size))
  obtain ⟨v4a, v4c, rfl, _, _, _⟩ := own_shape ho
  clear ho hb4 G2 G3
  generalize numL xs.length = N at *
  have R4 := Lib.hid (HX.out.below B4.out)
  go_wp2_with (at_builtin; refine wpList_append_rd rfl (.tmp 16) (.tmp 17) 30 rfl w.heap.size 5 i0 (.int .u8 0) 1 Tryz.underlying30 hi hz0 hz1 hz2 rfl (.slice v4a N.length v4c) N.length (N.map u8v) rfl O4.out (.slice a xs.length c) u8v xs rfl R4.out (fun _ => rfl) ?c1 ?c2 ?c3 ?_)
  case c1 => unfold maxLen; omega
  case c2 => omega
  case c3 => exact B4.out.size
  intro v5 w5 o5 g5 _
  have B5 := Lib.hid (B4.out.grown g5 B4.out.size (fun q hq => (O4.out.lt q hq).1))
  have O5 : Hid (w5.ownsRow w.heap.size 5 1 v5 (N ++ xs).length ((N ++ xs).map u8v)) := Lib.hid (by rw [List.map_append, List.length_append]; exact o5)
  clear o5 g5 O4 R4
  go_wp2
  go_ret
  exact ⟨_, rfl, O5.out, B5.out⟩
end Go.Proofs.YthbalmoafpggdaaGreat
namespace Go.Proofs.YthbalmoafpggdaaGreat
open Go.RowKit
set_option linter.unusedVariables false
set_option linter.unusedSimpArgs false
theorem FMid.chgp {w W W' : World} {cs : Array Value} {p : Nat} (h : FMid w cs W) (g : Chg (· = p) W W') (hp : w.heap.size < p) : FMid w cs W' :=
  ⟨g.blk h.blk (by omega), Chg.below_trans h.bel g h.bel.size (fun i hi e => by omega)⟩
theorem WG.chg {w0 W : World} {p : Nat} {l : List Int} (h : WG w0 p l W) : Chg (· = p) w0 W := by
  obtain ⟨_, _, h2, _⟩ := h
  exact h2
def FEncPost (f : Frm) (w : World) (e : Ending) (w' : World) : Prop :=
  if fMayB f = true then ∃ v, e = .returned (.tuple #[v, .int .i64 0]) ∧ w'.ownsRow w.heap.size 5 1 v (frameL (bodyL f)).length ((frameL (bodyL f)).map u8v) ∧ Below w.heap.size w w'
  else e = .returned (.tuple #[.slice none 0 0, .int .i64 22]) ∧ Below w.heap.size w w'
structure EncL (W : World) (bv : Value) (L : List Int) (wr : World) : Prop where
  own : wr.ownsRow W.heap.size 5 1 bv L.length (L.map u8v)
  bel : Below W.heap.size W wr
theorem numsL_step (f : Frm) (i : Nat) (hi : i < 5) : numsL ((headN f).take (i + 1)) = numsL ((headN f).take i) ++ numL ((headN f).getD i 0).toNat := by
  unfold headN
  match i, hi with
  | 0, _ => simp [numsL]
  | 1, _ => simp [numsL]
  | 2, _ => simp [numsL]
  | 3, _ => simp [numsL]
  | 4, _ => simp [numsL]
theorem headN_ok (f : Frm) (h : HeadP f) (i : Nat) (hi : i < 5) : 0 ≤ (headN f).getD i 0 ∧ (headN f).getD i 0 ≤ 4611686018427387904 := by
  unfold HeadP at h
  unfold headN
  match i, hi with
  | 0, _ => simp; omega
  | 1, _ => simp; omega
  | 2, _ => simp; omega
  | 3, _ => simp; omega
  | 4, _ => simp; omega
theorem headN_cell (f : Frm) (i : Nat) (hi : i < 5) : (#[.int .i64 f.kind, .int .i64 f.src, .int .i64 f.dst, .int .i64 f.sess, .int .i64 f.seq] : Array Value)[i]? = some (.int .i64 ((headN f).getD i 0)) := by
  match i, hi with
  | 0, _ => rfl
  | 1, _ => rfl
  | 2, _ => rfl
  | 3, _ => rfl
  | 4, _ => rfl
theorem numsL5 (f : Frm) (i : Nat) : (numsL ((headN f).take i)).length ≤ 50 := by
  have h1 := numsL_len ((headN f).take i)
  have h2 : ((headN f).take i).length ≤ 5 := by simp [headN]; omega
  omega
theorem may_parts {f : Frm} (h : fMayB f = true) : HeadP f ∧ FitP f ∧ f.ops.all mayB = true ∧ vokB f.vec = true := by
  unfold fMayB at h
  simp only [Bool.and_eq_true, decide_eq_true_eq] at h
  exact ⟨h.1.1.1, h.1.1.2, h.1.2, h.2⟩
set_option maxHeartbeats 4000000 in
set_option maxRecDepth 100000 in
theorem framesEncode (f : Frm) (v o : Value) (w : World) (hv : Rdv i64v w v f.vec) (ho : OpsRd w o f.ops) (hn : ∀ q ∈ f.ops, q.name.size < 4294967281) (hbt : ∀ q ∈ f.ops, Byt q.data) (hl : fMayB f = true → (bodyL f).length ≤ 1048576) :
    Calls Tryz.prog 9 #[.agg #[.int .i64 (f).kind, .int .i64 (f).src, .int .i64 (f).dst, .int .i64 (f).sess, .int .i64 (f).seq, .bool (f).last, v, o]] w (FEncPost f w) := by
  obtain ⟨i0, hi, hz0, hz1, hz2⟩ := info_parts Tryz.info5
  have KM := Lib.hid (fun w' hw => framesMay f v o w' (hv.below hw) (ho.below hw) hn : ∀ w', Below w.heap.size w w' → _)
  have HV := Lib.hid hv
  obtain ⟨a, c, rfl, o1, o2, HO⟩ := ho
  have HO := Lib.hid HO
  have HN := Lib.hid hn
  clear hv hn
  obtain ⟨va, vn, vc, rfl⟩ := HV.out.shape
  obtain ⟨rfl, _, _, _⟩ := HV.out.cap
  unfold FEncPost
  cases hm : fMayB f
  · rw [hm] at KM
    simp only [Bool.false_eq_true, if_false]
    clear hm hl
    obtain ⟨kind, src, dst, sess, seq, last, vec, ops⟩ := f
    simp only at *
    have AL := (Below.refl w.heap.size w).alloc (Nat.le_refl _) (.cells #[.int .i64 kind, .int .i64 src, .int .i64 dst, .int .i64 sess, .int .i64 seq, .bool last, .slice va vec.length vc, .slice a ops.length c] 26)
    go_enter Tryz.func9, Tryz.ntmps9
    go_wp2_with fail
    refine (KM.out _ AL).mono ?_
    rintro e w1 ⟨rfl, hb1⟩
    have B1 := Lib.hid (AL.trans (hb1.mono (by simp)))
    clear hb1 AL
    go_wp2
    go_ret2
    exact ⟨rfl, B1.out⟩
  rw [hm] at KM
  have HL := Lib.hid (hl hm)
  obtain ⟨P1, P2, P3, P4⟩ := may_parts hm
  have K1 := Lib.hid P1
  have K3 := Lib.hid P3
  have K4 := Lib.hid P4
  have l8 : f.ops.length ≤ 8 := P2.2.2
  have KB := Lib.hid (bodyL_byt f hbt)
  have NS := Lib.hid (numsL_step f)
  have NK := Lib.hid (headN_ok f P1)
  have NC := Lib.hid (headN_cell f)
  have N45 := Lib.hid (numsL5 f)
  have hPre : Hid (numsL (headN f) ++ truthW f.last ++ (numL (cutL f.vec).length ++ numsL (cutL f.vec)) ++ numL f.ops.length = preL f) := rfl
  have hT5 : Hid (numsL ((headN f).take 5) = numsL (headN f)) := rfl
  have hVL : (numL (cutL f.vec).length ++ numsL (cutL f.vec)).length ≤ 700 := by
    have h1 := numL_len (cutL f.vec).length
    have h2 := numsL_len (cutL f.vec)
    unfold vokB at P4
    rw [Bool.and_eq_true, decide_eq_true_eq] at P4
    rw [List.length_append]; omega
  have hTL : (truthW f.last).length ≤ 1 := by unfold truthW; split <;> simp
  simp only [if_true]
  clear hm hl P1 P2 P3 P4
  generalize headN f = hd at *
  have hBody : Hid (bodyL f = preL f ++ opsL f.ops) := rfl
  generalize bodyL f = body at *
  generalize preL f = pre at *
  obtain ⟨kind, src, dst, sess, seq, last, vec, ops⟩ := f
  simp only at *
  have AL := (Below.refl w.heap.size w).alloc (Nat.le_refl _) (.cells #[.int .i64 kind, .int .i64 src, .int .i64 dst, .int .i64 sess, .int .i64 seq, .bool last, .slice va vec.length vc, .slice a ops.length c] 26)
  have FM : Hid (FMid w #[.int .i64 kind, .int .i64 src, .int .i64 dst, .int .i64 sess, .int .i64 seq, .bool last, .slice va vec.length vc, .slice a ops.length c] (w.alloc (.cells #[.int .i64 kind, .int .i64 src, .int .i64 dst, .int .i64 sess, .int .i64 seq, .bool last, .slice va vec.length vc, .slice a ops.length c] 26))) := Lib.hid ⟨Blk.new _ _ _, AL⟩
  go_enter Tryz.func9, Tryz.ntmps9
  go_wp2_with fail
  refine (KM.out _ AL).mono ?_
  rintro e w1 ⟨rfl, hb1⟩
  have M1 := Lib.hid (FM.out.below hb1)
  clear hb1 AL FM KM
  go_wp2_with fail
  refine (wNew _).mono ?_
  rintro e w2 ⟨p, rfl, hp, hW, hb2⟩
  have M2 := Lib.hid (M1.out.below hb2)
  have HPw : w.heap.size < p := Nat.lt_of_lt_of_le M1.out.blk.lt hp
  have HW := Lib.hid hW
  clear hp hW hb2
  have HWlt : p < w2.heap.size := HW.out.lt
  have g_0 : w2.cell? ⟨w.heap.size, 0, none⟩ = some (.int .i64 kind) := (M2.out.blk).cell (o := 0) rfl
  have g_1 : w2.cell? ⟨w.heap.size, 1, none⟩ = some (.int .i64 src) := (M2.out.blk).cell (o := 1) rfl
  have g_2 : w2.cell? ⟨w.heap.size, 2, none⟩ = some (.int .i64 dst) := (M2.out.blk).cell (o := 2) rfl
  have g_3 : w2.cell? ⟨w.heap.size, 3, none⟩ = some (.int .i64 sess) := (M2.out.blk).cell (o := 3) rfl
  have g_4 : w2.cell? ⟨w.heap.size, 4, none⟩ = some (.int .i64 seq) := (M2.out.blk).cell (o := 4) rfl
  have g_5 : w2.cell? ⟨w.heap.size, 5, none⟩ = some (.bool last) := (M2.out.blk).cell (o := 5) rfl
  have g_6 : w2.cell? ⟨w.heap.size, 6, none⟩ = some (.slice va vec.length vc) := (M2.out.blk).cell (o := 6) rfl
  have g_7 : w2.cell? ⟨w.heap.size, 7, none⟩ = some (.slice a ops.length c) := (M2.out.blk).cell (o := 7) rfl
  have ALs := (Below.refl w2.heap.size w2).alloc (Nat.le_refl _) (.cells #[.int .i64 kind, .int .i64 src, .int .i64 dst, .int .i64 sess, .int .i64 seq] 2)
  have G0 := Lib.hid (wgNew (w1 := w2) HW.out _ ALs)
  have X0 := Lib.hid (Blk.new w2 #[.int .i64 kind, .int .i64 src, .int .i64 dst, .int .i64 sess, .int .i64 seq] 2)
  have M0 := Lib.hid (M2.out.below ALs)
  clear ALs
  go_wp2
  go_loopw [29] (fun iv wr => ∃ i : Nat, i ≤ 5 ∧ iv = .int .i64 i ∧ WG (w2.alloc (.cells #[.int .i64 kind, .int .i64 src, .int .i64 dst, .int .i64 sess, .int .i64 seq] 2)) p (numsL (hd.take i)) wr) (fun iv _ => 5 - (intOf iv).toNat)
  case atStart => exact ⟨0, by omega, rfl, G0.out⟩
  case round =>
    obtain ⟨i, hi5, rfl, hG⟩ := hrel
    have GG := Lib.hid hG
    clear hG g_0 g_1 g_2 g_3 g_4 g_5 g_6 g_7
    have MM := Lib.hid (M0.out.chgp GG.out.chg HPw)
    have XX := Lib.hid (GG.out.chg.blk X0.out (by omega))
    by_cases hlt : i < 5
    · have q0 : (0 : Int) ≤ i := by omega
      have q1 : (i : Int) < 5 := by omega
      have hc : wr.cell? ⟨w2.heap.size, i, none⟩ = some (.int .i64 (hd.getD i 0)) := XX.out.cell (NC.out i hlt)
      have hns := NS.out i hlt
      have hnk := NK.out i hlt
      generalize hd.getD i 0 = y at *
      go_wp2_with fail
      refine (wgNum GG.out y hnk (by have := N45.out i; omega)).mono ?_
      rintro e w3 ⟨rfl, hg3⟩
      have G3 := Lib.hid (hns ▸ hg3 : WG _ p (numsL (hd.take (i + 1))) w3)
      clear hg3 hc hns
      go_wp2
      go_roundw
      case rel => exact ⟨i + 1, by omega, by go_num, G3.out⟩
      case measure => simp [intOf]; omega
    · obtain rfl : i = 5 := by omega
      have GA := Lib.hid (hT5.out ▸ GG.out : WG _ p (numsL hd) wr)
      have n50 := N45.out 5
      rw [hT5.out] at n50
      clear GG
      have g_0 : wr.cell? ⟨w.heap.size, 0, none⟩ = some (.int .i64 kind) := (MM.out.blk).cell (o := 0) rfl
      have g_1 : wr.cell? ⟨w.heap.size, 1, none⟩ = some (.int .i64 src) := (MM.out.blk).cell (o := 1) rfl
      have g_2 : wr.cell? ⟨w.heap.size, 2, none⟩ = some (.int .i64 dst) := (MM.out.blk).cell (o := 2) rfl
      have g_3 : wr.cell? ⟨w.heap.size, 3, none⟩ = some (.int .i64 sess) := (MM.out.blk).cell (o := 3) rfl
      have g_4 : wr.cell? ⟨w.heap.size, 4, none⟩ = some (.int .i64 seq) := (MM.out.blk).cell (o := 4) rfl
      have g_5 : wr.cell? ⟨w.heap.size, 5, none⟩ = some (.bool last) := (MM.out.blk).cell (o := 5) rfl
      have g_6 : wr.cell? ⟨w.heap.size, 6, none⟩ = some (.slice va vec.length vc) := (MM.out.blk).cell (o := 6) rfl
      have g_7 : wr.cell? ⟨w.heap.size, 7, none⟩ = some (.slice a ops.length c) := (MM.out.blk).cell (o := 7) rfl
      go_wp2_with fail
      refine (wgTruth GA.out last (by omega)).mono ?_
      rintro e w4 ⟨rfl, hg4⟩
      have G4 := Lib.hid hg4
      clear hg4 g_0 g_1 g_2 g_3 g_4 g_5 g_6 g_7
      have M4 := Lib.hid (M0.out.chgp G4.out.chg HPw)
      have g_0 : w4.cell? ⟨w.heap.size, 0, none⟩ = some (.int .i64 kind) := (M4.out.blk).cell (o := 0) rfl
      have g_1 : w4.cell? ⟨w.heap.size, 1, none⟩ = some (.int .i64 src) := (M4.out.blk).cell (o := 1) rfl
      have g_2 : w4.cell? ⟨w.heap.size, 2, none⟩ = some (.int .i64 dst) := (M4.out.blk).cell (o := 2) rfl
      have g_3 : w4.cell? ⟨w.heap.size, 3, none⟩ = some (.int .i64 sess) := (M4.out.blk).cell (o := 3) rfl
      have g_4 : w4.cell? ⟨w.heap.size, 4, none⟩ = some (.int .i64 seq) := (M4.out.blk).cell (o := 4) rfl
      have g_5 : w4.cell? ⟨w.heap.size, 5, none⟩ = some (.bool last) := (M4.out.blk).cell (o := 5) rfl
      have g_6 : w4.cell? ⟨w.heap.size, 6, none⟩ = some (.slice va vec.length vc) := (M4.out.blk).cell (o := 6) rfl
      have g_7 : w4.cell? ⟨w.heap.size, 7, none⟩ = some (.slice a ops.length c) := (M4.out.blk).cell (o := 7) rfl
      go_wp2_with fail
      refine (wgVec G4.out w M4.out.bel (by omega) (by have := M2.out.bel.size; simp; omega) _ vec HV.out K4.out (by rw [List.length_append]; omega)).mono ?_
      rintro e w5 ⟨rfl, hg5⟩
      have G5 := Lib.hid hg5
      clear hg5 g_0 g_1 g_2 g_3 g_4 g_5 g_6 g_7
      have M5 := Lib.hid (M0.out.chgp G5.out.chg HPw)
      have g_0 : w5.cell? ⟨w.heap.size, 0, none⟩ = some (.int .i64 kind) := (M5.out.blk).cell (o := 0) rfl
      have g_1 : w5.cell? ⟨w.heap.size, 1, none⟩ = some (.int .i64 src) := (M5.out.blk).cell (o := 1) rfl
      have g_2 : w5.cell? ⟨w.heap.size, 2, none⟩ = some (.int .i64 dst) := (M5.out.blk).cell (o := 2) rfl
      have g_3 : w5.cell? ⟨w.heap.size, 3, none⟩ = some (.int .i64 sess) := (M5.out.blk).cell (o := 3) rfl
      have g_4 : w5.cell? ⟨w.heap.size, 4, none⟩ = some (.int .i64 seq) := (M5.out.blk).cell (o := 4) rfl
      have g_5 : w5.cell? ⟨w.heap.size, 5, none⟩ = some (.bool last) := (M5.out.blk).cell (o := 5) rfl
      have g_6 : w5.cell? ⟨w.heap.size, 6, none⟩ = some (.slice va vec.length vc) := (M5.out.blk).cell (o := 6) rfl
      have g_7 : w5.cell? ⟨w.heap.size, 7, none⟩ = some (.slice a ops.length c) := (M5.out.blk).cell (o := 7) rfl
      go_wp2_with fail
      refine (wgNum G5.out ops.length (by omega) (by rw [List.length_append, List.length_append]; omega)).mono ?_
      rintro e w6 ⟨rfl, hg6⟩
      have G6 := Lib.hid (hPre.out ▸ hg6 : WG _ p pre w6)
      clear hg6 g_0 g_1 g_2 g_3 g_4 g_5 g_6 g_7
      have M6 := Lib.hid (M0.out.chgp G6.out.chg HPw)
      have pl : pre.length ≤ 1048576 := by have := HL.out; rw [hBody.out, List.length_append] at this; omega
      go_wp2_with fail
      refine (wgDone G6.out (by omega)).mono ?_
      rintro e w7 ⟨v7, rfl, ho7, hb7⟩
      have E7 := Lib.hid (⟨ho7, hb7⟩ : EncL w6 v7 pre w7)
      have M7 := Lib.hid (M6.out.below hb7)
      obtain ⟨v7a, v7c, rfl, _, _, _⟩ := own_shape ho7
      clear ho7 hb7
      have g_0 : w7.cell? ⟨w.heap.size, 0, none⟩ = some (.int .i64 kind) := (M7.out.blk).cell (o := 0) rfl
      have g_1 : w7.cell? ⟨w.heap.size, 1, none⟩ = some (.int .i64 src) := (M7.out.blk).cell (o := 1) rfl
      have g_2 : w7.cell? ⟨w.heap.size, 2, none⟩ = some (.int .i64 dst) := (M7.out.blk).cell (o := 2) rfl
      have g_3 : w7.cell? ⟨w.heap.size, 3, none⟩ = some (.int .i64 sess) := (M7.out.blk).cell (o := 3) rfl
      have g_4 : w7.cell? ⟨w.heap.size, 4, none⟩ = some (.int .i64 seq) := (M7.out.blk).cell (o := 4) rfl
      have g_5 : w7.cell? ⟨w.heap.size, 5, none⟩ = some (.bool last) := (M7.out.blk).cell (o := 5) rfl
      have g_6 : w7.cell? ⟨w.heap.size, 6, none⟩ = some (.slice va vec.length vc) := (M7.out.blk).cell (o := 6) rfl
      have g_7 : w7.cell? ⟨w.heap.size, 7, none⟩ = some (.slice a ops.length c) := (M7.out.blk).cell (o := 7) rfl
      clear G4 G5 M4 M5 GA XX MM X0 G0 HW M2 M1 M0 G6 NS NK NC
      go_wp2
      go_loopw [7, 58] (fun bv iv wr => ∃ i : Nat, i ≤ ops.length ∧ iv = .int .i64 i ∧ EncL w6 bv (pre ++ opsL (ops.take i)) wr) (fun _ iv _ => ops.length - (intOf iv).toNat)
      case atStart => exact ⟨0, by omega, rfl, by simpa [opsL] using E7.out⟩
      case round =>
        obtain ⟨i, hil, rfl, hE⟩ := hrel
        have EE := Lib.hid hE
        obtain ⟨ba, bc, rfl, _, _, _⟩ := own_shape hE.own
        have MM := Lib.hid (M6.out.below hE.bel)
        have hwz := hE.bel.size
        clear hE E7 g_0 g_1 g_2 g_3 g_4 g_5 g_6 g_7
        by_cases hlt : i < ops.length
        · obtain ⟨q, hq⟩ : ∃ q, ops[i]? = some q := ⟨_, List.getElem?_eq_getElem hlt⟩
          obtain ⟨b, ob, d, s, rfl, hA⟩ := HO.out i q hq
          obtain ⟨da, dn, dc, rfl⟩ := hA.dat.shape
          obtain ⟨sa, sn, sc, rfl⟩ := hA.see.shape
          have OA := Lib.hid (hA.below MM.out.bel)
          have q0 : (0 : Int) ≤ i := by omega
          have q1 : (i : Int) < ops.length := by omega
          have c_0 : wr.cell? ⟨b, ob + i * 11, none⟩ = some (.int .i64 (q).time) := (OA.out).cell 0 _ rfl
          have c_1 : wr.cell? ⟨b, ob + i * 11 + 1, none⟩ = some (.int .i64 (q).node) := (OA.out).cell 1 _ rfl
          have c_2 : wr.cell? ⟨b, ob + i * 11 + 2, none⟩ = some (.int .i64 (q).seq) := (OA.out).cell 2 _ rfl
          have c_3 : wr.cell? ⟨b, ob + i * 11 + 3, none⟩ = some (.int .i64 (q).kind) := (OA.out).cell 3 _ rfl
          have c_4 : wr.cell? ⟨b, ob + i * 11 + 4, none⟩ = some (.int .i64 (q).ot) := (OA.out).cell 4 _ rfl
          have c_5 : wr.cell? ⟨b, ob + i * 11 + 5, none⟩ = some (.int .i64 (q).on) := (OA.out).cell 5 _ rfl
          have c_6 : wr.cell? ⟨b, ob + i * 11 + 6, none⟩ = some (.int .i64 (q).pt) := (OA.out).cell 6 _ rfl
          have c_7 : wr.cell? ⟨b, ob + i * 11 + 7, none⟩ = some (.int .i64 (q).pn) := (OA.out).cell 7 _ rfl
          have c_8 : wr.cell? ⟨b, ob + i * 11 + 8, none⟩ = some (.string (q).name) := (OA.out).cell 8 _ rfl
          have c_9 : wr.cell? ⟨b, ob + i * 11 + 9, none⟩ = some (.slice da dn dc) := (OA.out).cell 9 _ rfl
          have c_10 : wr.cell? ⟨b, ob + i * 11 + 10, none⟩ = some (.slice sa sn sc) := (OA.out).cell 10 _ rfl
          have bz : b < wr.heap.size := World.block_lt_of_cell? wr _ c_0
          have KE := Lib.hid (fun w' hw => opsEncode q (.slice da dn dc) (.slice sa sn sc) w' (OA.out.dat.below hw) (OA.out.see.below hw) (HN.out q (List.mem_of_getElem? hq)) : ∀ w', Below wr.heap.size wr w' → _)
          have hmq : mayB q = true := List.all_eq_true.1 K3.out q (List.mem_of_getElem? hq)
          unfold EncPost at KE
          rw [hmq] at KE
          simp only [if_true] at KE
          have hsn : Hid (pre ++ opsL (ops.take (i + 1)) = pre ++ opsL (ops.take i) ++ (numL (opL q).length ++ opL q)) := Lib.hid (by rw [opsL_snoc hq, List.append_assoc])
          have hbig : (pre ++ opsL (ops.take i)).length + (numL (opL q).length ++ opL q).length ≤ 1048576 := by
            have h1 := opsL_le ops (i + 1)
            have h2 := HL.out
            rw [hBody.out, List.length_append] at h2
            have h3 := congrArg List.length hsn.out
            simp only [List.length_append] at h3 ⊢
            omega
          have hq10 : (opL q).length ≤ 1048576 := by simp only [List.length_append] at hbig; omega
          clear hA hq hmq
          have KZ := Lib.hid (fun x w' hx => frSized x (opL q) w' hx (by omega))
          generalize numL (opL q).length ++ opL q = Y at *
          generalize opL q = Q at *
          generalize pre ++ opsL (ops.take i) = L at *
          go_wp2_with fail
          have AL2 := (Below.refl wr.heap.size wr).alloc (Nat.le_refl _) (.cells #[.int .i64 (q).time, .int .i64 (q).node, .int .i64 (q).seq, .int .i64 (q).kind, .int .i64 (q).ot, .int .i64 (q).on, .int .i64 (q).pt, .int .i64 (q).pn, .string (q).name, .slice da dn dc, .slice sa sn sc] 46)
          refine (KE.out _ AL2).mono ?_
          rintro e w8 ⟨x8, rfl, hx8, hb8⟩
          obtain ⟨x8a, x8c, rfl, _, _, _⟩ := own_shape hx8
          have B8 := Lib.hid (AL2.trans (hb8.mono (by simp)))
          have R8 := Lib.hid (Rdv.of_owns (enc := u8v) (xs := Q) hx8)
          clear hx8 hb8 AL2 c_0 c_1 c_2 c_3 c_4 c_5 c_6 c_7 c_8 c_9 c_10
          go_wp2_with fail
          refine (KZ.out _ _ R8.out).mono ?_
          rintro e w9 ⟨y9, rfl, hy9, hb9⟩
          obtain ⟨y9a, y9c, rfl, _, _, _⟩ := own_shape hy9
          have R9 := Lib.hid (Rdv.of_owns (enc := u8v) (xs := Y) hy9)
          have B9 := Lib.hid (B8.out.trans (hb9.mono B8.out.size))
          have O9 := Lib.hid (ownsRow_below EE.out.own B9.out)
          have T9 := Lib.hid (EE.out.bel.trans (B9.out.mono hwz))
          clear hy9 hb9
          go_wp2_with (at_builtin; refine wpList_append_rd rfl (.tmp 67) (.tmp 69) 30 rfl w6.heap.size 5 i0 (.int .u8 0) 1 Tryz.underlying30 hi hz0 hz1 hz2 rfl (.slice ba L.length bc) L.length (L.map u8v) rfl O9.out (.slice y9a Y.length y9c) u8v Y rfl R9.out (fun _ => rfl) ?c1 ?c2 ?c3 ?_)
          case c1 => unfold maxLen; omega
          case c2 => omega
          case c3 => exact T9.out.size
          intro v10 w10 o10 g10 _
          have B10 := Lib.hid (T9.out.grown g10 T9.out.size (fun q hq => (O9.out.lt q hq).1))
          have O10 : Hid (w10.ownsRow w6.heap.size 5 1 v10 (L ++ Y).length ((L ++ Y).map u8v)) := Lib.hid (by rw [List.map_append, List.length_append]; exact o10)
          have E10 := Lib.hid (hsn.out.symm ▸ ⟨O10.out, B10.out⟩ : EncL w6 v10 (pre ++ opsL (ops.take (i + 1))) w10)
          clear o10 g10 O10 hsn
          go_wp2
          go_roundw
          case rel => exact ⟨i + 1, by omega, by go_num, E10.out⟩
          case measure => simp [intOf]; omega
        · have hi' : i = ops.length := by omega
          have hBE : pre ++ opsL (ops.take i) = body := by rw [hi', List.take_length, ← hBody.out]
          clear hBody
          generalize pre ++ opsL (ops.take i) = L at *
          subst hBE
          subst hi'
          have RB := Lib.hid (Rdv.of_owns (enc := u8v) (xs := L) EE.out.own)
          go_wp2_with fail
          refine (crcFrameOk _ L _ RB.out KB.out HL.out).mono ?_
          rintro e w8 ⟨v8, rfl, ho8, hb8⟩
          have hsz := MM.out.bel.size
          have O8 := Lib.hid (own_down ho8 hsz)
          have B8 := Lib.hid (MM.out.bel.trans (hb8.mono hsz))
          clear ho8 hb8
          go_wp2
          go_ret2
          exact ⟨_, rfl, O8.out, B8.out⟩
end Go.Proofs.YthbalmoafpggdaaGreat
namespace Go.Proofs.YthbalmoafpggdaaGreat
open Go.RowKit
set_option linter.unusedVariables false
set_option linter.unusedSimpArgs false
/-- The same frames? -/
def opsEqB (a b : List Opr) : Bool := decide (a.length = b.length) && (a.zip b).all fun p => eqB p.1 p.2
def frEqB (f g : Frm) : Bool := decide (f.kind = g.kind) && decide (f.src = g.src) && decide (f.dst = g.dst) && decide (f.sess = g.sess) && decide (f.seq = g.seq) && decide (f.last = g.last) && (leqB f.vec g.vec && leqB g.vec f.vec) && opsEqB f.ops g.ops
theorem zip_get {a b : List Opr} {i : Nat} {p q : Opr} (h1 : a[i]? = some p) (h2 : b[i]? = some q) : (a.zip b)[i]? = some (p, q) := by
  rw [List.getElem?_zip_eq_some]; exact ⟨h1, h2⟩
theorem zall_snoc {qs : List (Opr × Opr)} {i : Nat} {q : Opr × Opr} (hq : qs[i]? = some q) (h : (qs.take i).all (fun p => eqB p.1 p.2) = true) (h2 : eqB q.1 q.2 = true) : (qs.take (i + 1)).all (fun p => eqB p.1 p.2) = true := by
  rw [List.take_add_one, hq]
  simp only [Option.toList_some, List.all_append, List.all_cons, List.all_nil, Bool.and_true, h, h2]
theorem zall_bad {qs : List (Opr × Opr)} {i : Nat} {q : Opr × Opr} (hq : qs[i]? = some q) (h2 : eqB q.1 q.2 = false) : qs.all (fun p => eqB p.1 p.2) = false := by
  rw [List.all_eq_false]
  exact ⟨q, List.mem_of_getElem? hq, by rw [h2]; simp⟩
set_option maxHeartbeats 4000000 in
set_option maxRecDepth 100000 in
theorem refFEq (f g : Frm) (v o v2 o2 : Value) (w : World) (hv : Rdv i64v w v f.vec) (ho : OpsRd w o f.ops) (hv2 : Rdv i64v w v2 g.vec) (ho2 : OpsRd w o2 g.ops) (hb : ∀ q ∈ f.ops, Byt q.data) (hb2 : ∀ q ∈ g.ops, Byt q.data) :
    Calls Tryz.prog 12 #[.agg #[.int .i64 (f).kind, .int .i64 (f).src, .int .i64 (f).dst, .int .i64 (f).sess, .int .i64 (f).seq, .bool (f).last, v, o], .agg #[.int .i64 (g).kind, .int .i64 (g).src, .int .i64 (g).dst, .int .i64 (g).sess, .int .i64 (g).seq, .bool (g).last, v2, o2]] w fun e w' => e = .returned (.bool (frEqB f g)) ∧ Below w.heap.size w w' := by
  obtain ⟨a, c, rfl, o1, o2', HO⟩ := ho
  have HO := Lib.hid HO
  obtain ⟨a2, c2, rfl, o3, o4, HO2⟩ := ho2
  have HO2 := Lib.hid HO2
  obtain ⟨va, vn, vc, rfl⟩ := hv.shape
  obtain ⟨rfl, _, _, _⟩ := hv.cap
  obtain ⟨va2, vn2, vc2, rfl⟩ := hv2.shape
  obtain ⟨rfl, _, _, _⟩ := hv2.cap
  have KV := Lib.hid (fun w' hw => refEq (.slice va f.vec.length vc) (.slice va2 g.vec.length vc2) f.vec g.vec w' (hv.below hw) (hv2.below hw) : ∀ w', Below w.heap.size w w' → _)
  have HB := Lib.hid hb
  have HB2 := Lib.hid hb2
  unfold maxLen at o2' o4
  clear hv hv2 hb hb2
  obtain ⟨kind, src, dst, sess, seq, last, vec, ops⟩ := f
  obtain ⟨kind2, src2, dst2, sess2, seq2, last2, vec2, ops2⟩ := g
  simp only at *
  have AL := Lib.hid (((Below.refl w.heap.size w).alloc (Nat.le_refl _) (.cells #[.int .i64 kind, .int .i64 src, .int .i64 dst, .int .i64 sess, .int .i64 seq, .bool last, .slice va vec.length vc, .slice a ops.length c] 26)).alloc (by simp) (.cells #[.int .i64 kind2, .int .i64 src2, .int .i64 dst2, .int .i64 sess2, .int .i64 seq2, .bool last2, .slice va2 vec2.length vc2, .slice a2 ops2.length c2] 26))
  by_cases k1 : kind = kind2
  rotate_left 1
  · go_enter Tryz.func12, Tryz.ntmps12
    go_wp2
    go_ret
    exact ⟨ret_b (by unfold frEqB; simp [*]), AL.out⟩
  subst k1
  by_cases k2 : src = src2
  rotate_left 1
  · go_enter Tryz.func12, Tryz.ntmps12
    go_wp2
    go_ret
    exact ⟨ret_b (by unfold frEqB; simp [*]), AL.out⟩
  subst k2
  by_cases k3 : dst = dst2
  rotate_left 1
  · go_enter Tryz.func12, Tryz.ntmps12
    go_wp2
    go_ret
    exact ⟨ret_b (by unfold frEqB; simp [*]), AL.out⟩
  subst k3
  by_cases k4 : sess = sess2
  rotate_left 1
  · go_enter Tryz.func12, Tryz.ntmps12
    go_wp2
    go_ret
    exact ⟨ret_b (by unfold frEqB; simp [*]), AL.out⟩
  subst k4
  by_cases k5 : seq = seq2
  rotate_left 1
  · go_enter Tryz.func12, Tryz.ntmps12
    go_wp2
    go_ret
    exact ⟨ret_b (by unfold frEqB; simp [*]), AL.out⟩
  subst k5
  by_cases k6 : last = last2
  rotate_left 1
  · have k6' : (last == last2) = false := by simp [k6]
    have k6'' : (last != last2) = true := by simp [bne, k6']
    go_enter Tryz.func12, Tryz.ntmps12
    go_wp2
    go_ret
    exact ⟨ret_b (by unfold frEqB; simp [*]), AL.out⟩
  subst k6
  have B1 := Lib.hid ((Blk.new w #[.int .i64 kind, .int .i64 src, .int .i64 dst, .int .i64 sess, .int .i64 seq, .bool last, .slice va vec.length vc, .slice a ops.length c] 26).alloc (.cells #[.int .i64 kind, .int .i64 src, .int .i64 dst, .int .i64 sess, .int .i64 seq, .bool last, .slice va2 vec2.length vc2, .slice a2 ops2.length c2] 26))
  have B2 : Hid (Blk ((w.alloc (.cells #[.int .i64 kind, .int .i64 src, .int .i64 dst, .int .i64 sess, .int .i64 seq, .bool last, .slice va vec.length vc, .slice a ops.length c] 26)).alloc (.cells #[.int .i64 kind, .int .i64 src, .int .i64 dst, .int .i64 sess, .int .i64 seq, .bool last, .slice va2 vec2.length vc2, .slice a2 ops2.length c2] 26)) (w.heap.size + 1) #[.int .i64 kind, .int .i64 src, .int .i64 dst, .int .i64 sess, .int .i64 seq, .bool last, .slice va2 vec2.length vc2, .slice a2 ops2.length c2] 26) := Lib.hid (by have := Blk.new (w.alloc (.cells #[.int .i64 kind, .int .i64 src, .int .i64 dst, .int .i64 sess, .int .i64 seq, .bool last, .slice va vec.length vc, .slice a ops.length c] 26)) #[.int .i64 kind, .int .i64 src, .int .i64 dst, .int .i64 sess, .int .i64 seq, .bool last, .slice va2 vec2.length vc2, .slice a2 ops2.length c2] 26; simpa using this)
  cases hvv : (leqB vec vec2 && leqB vec2 vec)
  · rw [hvv] at KV
    have hE : Hid (frEqB ⟨kind, src, dst, sess, seq, last, vec, ops⟩ ⟨kind, src, dst, sess, seq, last, vec2, ops2⟩ = false) := Lib.hid (by unfold frEqB; simp only [hvv]; simp)
    clear hvv
    go_enter Tryz.func12, Tryz.ntmps12
    go_wp2_with fail
    refine (KV.out _ AL.out).mono ?_
    rintro e w3 ⟨rfl, rfl⟩
    go_wp2
    go_ret
    exact ⟨ret_b hE.out.symm, AL.out⟩
  rw [hvv] at KV
  by_cases hln : ops.length = ops2.length
  rotate_left 1
  · have hE : Hid (frEqB ⟨kind, src, dst, sess, seq, last, vec, ops⟩ ⟨kind, src, dst, sess, seq, last, vec2, ops2⟩ = false) := Lib.hid (by unfold frEqB opsEqB; simp only; rw [decide_eq_false hln]; simp)
    clear hvv
    have hln' : ¬ (ops.length : Int) = ops2.length := by omega
    go_enter Tryz.func12, Tryz.ntmps12
    go_wp2_with fail
    refine (KV.out _ AL.out).mono ?_
    rintro e w3 ⟨rfl, rfl⟩
    go_wp2
    go_ret
    exact ⟨ret_b hE.out.symm, AL.out⟩
  have hE : Hid (frEqB ⟨kind, src, dst, sess, seq, last, vec, ops⟩ ⟨kind, src, dst, sess, seq, last, vec2, ops2⟩ = (ops.zip ops2).all fun p => eqB p.1 p.2) := Lib.hid (by unfold frEqB opsEqB; simp only [hvv]; rw [decide_eq_true hln]; simp)
  clear hvv
  have HLN := Lib.hid hln
  rw [← hln] at AL B1 B2 o3 ⊢
  clear hln
  have e0 : ¬ w.heap.size + 1 = w.heap.size := by omega
  obtain ⟨W, hW⟩ : ∃ W, W = (w.alloc (.cells #[.int .i64 kind, .int .i64 src, .int .i64 dst, .int .i64 sess, .int .i64 seq, .bool last, .slice va vec.length vc, .slice a ops.length c] 26)).alloc (.cells #[.int .i64 kind, .int .i64 src, .int .i64 dst, .int .i64 sess, .int .i64 seq, .bool last, .slice va2 vec2.length vc2, .slice a2 ops.length c2] 26) := ⟨_, rfl⟩
  go_enter Tryz.func12, Tryz.ntmps12
  go_wp2_with fail
  refine (KV.out _ AL.out).mono ?_
  rintro e w3 ⟨rfl, rfl⟩
  go_wp2
  rw [← hW] at B1 B2 AL ⊢
  clear hW
  go_loopw [5] (fun iv wr => ∃ i : Nat, i ≤ ops.length ∧ iv = .int .i64 i ∧ Below W.heap.size W wr ∧ ((ops.zip ops2).take i).all (fun p => eqB p.1 p.2) = true) (fun iv _ => ops.length - (intOf iv).toNat)
  case atStart => exact ⟨0, Nat.zero_le _, rfl, Below.refl _ _, rfl⟩
  case round =>
    obtain ⟨i, hil, rfl, hbel, hall⟩ := hrel
    have BB := Lib.hid hbel
    have ALL := Lib.hid hall
    have BW := Lib.hid (AL.out.trans (hbel.mono AL.out.size))
    have F1 := Lib.hid (blkBelow hbel B1.out B1.out.lt)
    have F2 := Lib.hid (blkBelow hbel B2.out B2.out.lt)
    clear hbel hall
    have f_7 : wr.cell? ⟨w.heap.size, 7, none⟩ = some (.slice a ops.length c) := F1.out.cell (o := 7) rfl
    have g_7 : wr.cell? ⟨w.heap.size + 1, 7, none⟩ = some (.slice a2 ops.length c2) := F2.out.cell (o := 7) rfl
    by_cases hlt : i < ops.length
    · obtain ⟨q, hq⟩ : ∃ q, ops[i]? = some q := ⟨_, List.getElem?_eq_getElem hlt⟩
      obtain ⟨q2, hq2⟩ : ∃ q, ops2[i]? = some q := ⟨_, List.getElem?_eq_getElem (by rw [← HLN.out]; exact hlt)⟩
      obtain ⟨b, ob, d, s, rfl, hA⟩ := HO.out i q hq
      obtain ⟨b2, ob2, d2, s2, rfl, hA2⟩ := HO2.out i q2 hq2
      obtain ⟨da, dn, dc, rfl⟩ := hA.dat.shape
      obtain ⟨sa, sn, sc, rfl⟩ := hA.see.shape
      obtain ⟨da2, dn2, dc2, rfl⟩ := hA2.dat.shape
      obtain ⟨sa2, sn2, sc2, rfl⟩ := hA2.see.shape
      have OA := Lib.hid (hA.below BW.out)
      have OA2 := Lib.hid (hA2.below BW.out)
      have q0 : (0 : Int) ≤ i := by omega
      have q1 : (i : Int) < ops.length := by omega
      have c_0 : wr.cell? ⟨b, ob + i * 11, none⟩ = some (.int .i64 (q).time) := (OA.out).cell 0 _ rfl
      have c_1 : wr.cell? ⟨b, ob + i * 11 + 1, none⟩ = some (.int .i64 (q).node) := (OA.out).cell 1 _ rfl
      have c_2 : wr.cell? ⟨b, ob + i * 11 + 2, none⟩ = some (.int .i64 (q).seq) := (OA.out).cell 2 _ rfl
      have c_3 : wr.cell? ⟨b, ob + i * 11 + 3, none⟩ = some (.int .i64 (q).kind) := (OA.out).cell 3 _ rfl
      have c_4 : wr.cell? ⟨b, ob + i * 11 + 4, none⟩ = some (.int .i64 (q).ot) := (OA.out).cell 4 _ rfl
      have c_5 : wr.cell? ⟨b, ob + i * 11 + 5, none⟩ = some (.int .i64 (q).on) := (OA.out).cell 5 _ rfl
      have c_6 : wr.cell? ⟨b, ob + i * 11 + 6, none⟩ = some (.int .i64 (q).pt) := (OA.out).cell 6 _ rfl
      have c_7 : wr.cell? ⟨b, ob + i * 11 + 7, none⟩ = some (.int .i64 (q).pn) := (OA.out).cell 7 _ rfl
      have c_8 : wr.cell? ⟨b, ob + i * 11 + 8, none⟩ = some (.string (q).name) := (OA.out).cell 8 _ rfl
      have c_9 : wr.cell? ⟨b, ob + i * 11 + 9, none⟩ = some (.slice da dn dc) := (OA.out).cell 9 _ rfl
      have c_10 : wr.cell? ⟨b, ob + i * 11 + 10, none⟩ = some (.slice sa sn sc) := (OA.out).cell 10 _ rfl
      have d_0 : wr.cell? ⟨b2, ob2 + i * 11, none⟩ = some (.int .i64 (q2).time) := (OA2.out).cell 0 _ rfl
      have d_1 : wr.cell? ⟨b2, ob2 + i * 11 + 1, none⟩ = some (.int .i64 (q2).node) := (OA2.out).cell 1 _ rfl
      have d_2 : wr.cell? ⟨b2, ob2 + i * 11 + 2, none⟩ = some (.int .i64 (q2).seq) := (OA2.out).cell 2 _ rfl
      have d_3 : wr.cell? ⟨b2, ob2 + i * 11 + 3, none⟩ = some (.int .i64 (q2).kind) := (OA2.out).cell 3 _ rfl
      have d_4 : wr.cell? ⟨b2, ob2 + i * 11 + 4, none⟩ = some (.int .i64 (q2).ot) := (OA2.out).cell 4 _ rfl
      have d_5 : wr.cell? ⟨b2, ob2 + i * 11 + 5, none⟩ = some (.int .i64 (q2).on) := (OA2.out).cell 5 _ rfl
      have d_6 : wr.cell? ⟨b2, ob2 + i * 11 + 6, none⟩ = some (.int .i64 (q2).pt) := (OA2.out).cell 6 _ rfl
      have d_7 : wr.cell? ⟨b2, ob2 + i * 11 + 7, none⟩ = some (.int .i64 (q2).pn) := (OA2.out).cell 7 _ rfl
      have d_8 : wr.cell? ⟨b2, ob2 + i * 11 + 8, none⟩ = some (.string (q2).name) := (OA2.out).cell 8 _ rfl
      have d_9 : wr.cell? ⟨b2, ob2 + i * 11 + 9, none⟩ = some (.slice da2 dn2 dc2) := (OA2.out).cell 9 _ rfl
      have d_10 : wr.cell? ⟨b2, ob2 + i * 11 + 10, none⟩ = some (.slice sa2 sn2 sc2) := (OA2.out).cell 10 _ rfl
      have KQ := Lib.hid (fun w' (hb : Below wr.heap.size wr w') => refOpEq q q2 (.slice da dn dc) (.slice sa sn sc) (.slice da2 dn2 dc2) (.slice sa2 sn2 sc2) w' (OA.out.dat.below hb) (OA.out.see.below hb) (OA2.out.dat.below hb) (OA2.out.see.below hb) (HB.out q (List.mem_of_getElem? hq)) (HB2.out q2 (List.mem_of_getElem? hq2)))
      have HZ := Lib.hid (zip_get hq hq2)
      clear hA hA2 hq hq2
      cases heq : eqB q q2
      · rw [heq] at KQ
        have hF : Hid (false = (ops.zip ops2).all fun p => eqB p.1 p.2) := Lib.hid (zall_bad HZ.out heq).symm
        go_upto_region 6 with fail
        go_still_tail 10, (by kernel_rfl)
        change wpList _ _ _ _ _ wr.drew
        go_wp2_with fail
        refine (KQ.out _ (Drw.below ⟨1, rfl⟩ : Below wr.heap.size wr wr.drew)).mono ?_
        rintro e w5 ⟨rfl, hb5⟩
        have B5 := Lib.hid (BW.out.trans (((Drw.below ⟨1, rfl⟩ : Below wr.heap.size wr wr.drew).trans hb5).mono BW.out.size))
        clear hb5 c_0 c_1 c_2 c_3 c_4 c_5 c_6 c_7 c_8 c_9 c_10 d_0 d_1 d_2 d_3 d_4 d_5 d_6 d_7 d_8 d_9 d_10 f_7 g_7
        go_wp2
        go_ret
        exact ⟨ret_b (hF.out.trans hE.out.symm), B5.out⟩
      · rw [heq] at KQ
        have ALL2 := Lib.hid (zall_snoc HZ.out ALL.out heq)
        go_upto_region 6 with fail
        go_still_tail 10, (by kernel_rfl)
        change wpList _ _ _ _ _ wr.drew
        go_wp2_with fail
        refine (KQ.out _ (Drw.below ⟨1, rfl⟩ : Below wr.heap.size wr wr.drew)).mono ?_
        rintro e w5 ⟨rfl, hb5⟩
        have B5 := Lib.hid (BB.out.trans (((Drw.below ⟨1, rfl⟩ : Below wr.heap.size wr wr.drew).trans hb5).mono BB.out.size))
        clear hb5 c_0 c_1 c_2 c_3 c_4 c_5 c_6 c_7 c_8 c_9 c_10 d_0 d_1 d_2 d_3 d_4 d_5 d_6 d_7 d_8 d_9 d_10 f_7 g_7
        go_wp2
        go_roundw
        case rel => exact ⟨i + 1, by omega, by go_num, B5.out, ALL2.out⟩
        case measure => simp [intOf]; omega
    · obtain rfl : i = ops.length := by omega
      have hAl : Hid (true = (ops.zip ops2).all fun p => eqB p.1 p.2) := Lib.hid (by
        have := ALL.out
        rw [List.take_of_length_le (by rw [List.length_zip, ← HLN.out]; omega)] at this
        exact this.symm)
      go_wp2
      go_ret
      exact ⟨ret_b (hAl.out.trans hE.out.symm), BW.out⟩
theorem opsEqB_refl (l : List Opr) : opsEqB l l = true := by
  unfold opsEqB
  rw [decide_eq_true rfl]
  simp only [Bool.true_and, List.all_eq_true]
  intro p hp
  obtain ⟨i, hi⟩ := List.getElem?_of_mem hp
  rw [List.getElem?_zip_eq_some] at hi
  rw [hi.1] at hi
  have := hi.2
  injection this with this
  rw [← this]
  exact eqB_refl _
theorem frEqB_refl (f : Frm) : frEqB f f = true := by
  unfold frEqB
  rw [opsEqB_refl, leqB_refl]
  simp
end Go.Proofs.YthbalmoafpggdaaGreat
namespace Go.Proofs.YthbalmoafpggdaaGreat
open Go.RowKit
set_option linter.unusedVariables false
set_option linter.unusedSimpArgs false
theorem get4_le4 (n : Nat) (h : n < 4294967296) (r : List Int) : get4 (le4 n ++ r) = n := by
  unfold get4 le4 v4
  simp
  omega
theorem unf_frame (L : List Int) (hb : Byt L) (hl : L.length ≤ 1048576) : unfL (frameL L) = (L, 8 + L.length, 0) ∧ (frameL L).length = 8 + L.length := by
  have hlen : (frameL L).length = 8 + L.length := by simp [frameL, le4_len]; omega
  refine ⟨?_, hlen⟩
  have g0 : get4 (frameL L) = L.length := by unfold frameL; rw [List.append_assoc]; exact get4_le4 _ (by omega) _
  have hd8 : (frameL L).drop 8 = L := by
    have : (le4 L.length ++ le4 (crcOf L)).length = 8 := by simp [le4_len]
    unfold frameL
    rw [← this, List.drop_left]
  have hd4 : (frameL L).drop 4 = le4 (crcOf L) ++ L := by
    unfold frameL
    rw [List.append_assoc, ← le4_len L.length, List.drop_left]
  have g4 : get4 ((frameL L).drop 4) = crcOf L := by rw [hd4]; exact get4_le4 _ (crcOf_lt hb) _
  rw [unfL_if, g0, g4, hd8, List.take_length, hlen]
  unfold unfIf
  rw [if_neg (by omega), if_neg (by omega), if_pos rfl]
theorem idS_id (t n : Int) (rest : List Int) (h : idOk t n = true) : idS (some (numL t.toNat ++ numL n.toNat ++ rest)) = ((t.toNat, n.toNat), some rest) := by
  unfold idOk at h
  simp only [Bool.and_eq_true, decide_eq_true_eq] at h
  unfold idS
  rw [List.append_assoc, numS_num _ _ (by omega)]
  simp only
  rw [numS_num _ _ (by omega)]
  simp only
  rw [if_neg (by omega)]
theorem bytesS_bytes (bs rest : List Int) (h : bs.length ≤ 65536) : bytesS (some (numL bs.length ++ bs ++ rest)) = (bs, some rest) := by
  unfold bytesS
  rw [List.append_assoc, numS_num _ _ (by omega)]
  simp only
  rw [if_neg (by simp; omega)]
  simp
theorem truthS_truth (b : Bool) (rest : List Int) : truthS (some (truthW b ++ rest)) = (b, some rest) := by
  have e : truthW b = numL (if b then 1 else 0) := by cases b <;> rfl
  unfold truthS
  rw [e, numS_num _ _ (by split <;> omega)]
  simp only
  rw [if_neg (by split <;> omega)]
  cases b <;> rfl
theorem vecS_cut (xs rest : List Int) (h : vecMayB (cutL xs) = true ∧ (cutL xs).length ≤ 64) : vecS (some (numL (cutL xs).length ++ numsL (cutL xs) ++ rest)) = (cutL xs, some rest) :=
  vecS_vec _ rest h.1 h.2 (cutL_last xs)
theorem strOf_strL (s : ByteArray) : strOfNums (strL s) = s := by
  unfold strOfNums strL
  rw [List.map_map]
  have : (fun n : Int => UInt8.ofNat n.toNat) ∘ (fun b : UInt8 => (b.toNat : Int)) = id := by
    funext b
    simp
  rw [this, List.map_id]
theorem cut_cut (xs : List Int) : cutL (cutL xs) = cutL xs := cutL_all _ (cutL_last xs)
/-- An operation as it is read. -/
def normO (o : Opr) : Opr := { o with seen := cutL o.seen }
theorem atZ_cutI (xs : List Int) (n : Int) (h : 0 ≤ n) : atZ (cutL xs) n = atZ xs n := by
  obtain ⟨k, rfl⟩ : ∃ k : Nat, n = k := ⟨n.toNat, by omega⟩
  exact atZ_cut xs k
theorem may_norm (o : Opr) (h : mayB o = true) : mayB (normO o) = true := by
  have hf := may_fine h
  have hn : 0 ≤ o.node := by have := hf.id; unfold idOk at this; simp only [Bool.and_eq_true, decide_eq_true_eq] at this; omega
  have e : mayB (normO o) = mayB o := by
    unfold mayB normO seenB kindB
    simp only [cut_cut, atZ_cutI _ _ hn]
    rfl
  rw [e, h]
theorem dec_op (o : Opr) (h : mayB o = true) : decB (opL o) = true ∧ decO (opL o) = normO o := by
  have hf := may_fine h
  have hid := hf.id
  have hobj := hf.obj
  have hpar := hf.par
  have hk := hf.kind
  have hs := hf.seq
  have e : opL o = numL o.kind.toNat ++ (numL o.time.toNat ++ numL o.node.toNat ++ (numL o.seq.toNat ++ (numL o.ot.toNat ++ numL o.on.toNat ++ (numL o.pt.toNat ++ numL o.pn.toNat ++ (numL (strL o.name).length ++ strL o.name ++ (numL o.data.length ++ o.data ++ (numL (cutL o.seen).length ++ numsL (cutL o.seen) ++ []))))))) := by
    unfold opL; simp [List.append_assoc]
  have nn : ∀ t n : Int, idOk t n = true → ((t.toNat : Nat) : Int) = t ∧ ((n.toNat : Nat) : Int) = n := fun t n h => by
    unfold idOk at h
    simp only [Bool.and_eq_true, decide_eq_true_eq] at h
    omega
  have hR : decR (opL o) = (o.kind.toNat, normO o, some []) := by
    unfold decR
    rw [e]
    simp only [numS_num _ _ (show o.kind.toNat ≤ 4611686018427387904 by omega), idS_id _ _ _ hid, numS_num _ _ (show o.seq.toNat ≤ 4611686018427387904 by omega), idS_id _ _ _ hobj, idS_id _ _ _ hpar, bytesS_bytes _ _ hf.name, bytesS_bytes _ _ hf.data, vecS_cut _ _ hf.seen, strOf_strL, (nn _ _ hid).1, (nn _ _ hid).2, (nn _ _ hobj).1, (nn _ _ hobj).2, (nn _ _ hpar).1, (nn _ _ hpar).2]
    unfold normO
    rw [Int.toNat_of_nonneg (by omega), Int.toNat_of_nonneg (by omega)]
  refine ⟨?_, ?_⟩
  · unfold decB
    rw [hR]
    simp only
    rw [may_norm o h]
    rfl
  · unfold decO
    rw [hR]
theorem opsS_ops : ∀ (qs : List Opr) (rest : List Int), (∀ q ∈ qs, mayB q = true ∧ (opL q).length ≤ 4611686018427387904) → opsS qs.length (opsL qs ++ rest) = some (qs.map normO, rest)
  | [], rest, _ => rfl
  | q :: qs, rest, h => by
    obtain ⟨h1, h2⟩ := h q (List.mem_cons_self)
    have ih := opsS_ops qs rest (fun z hz => h z (List.mem_cons_of_mem _ hz))
    have e : opsL (q :: qs) ++ rest = numL (opL q).length ++ (opL q ++ (opsL qs ++ rest)) := by
      unfold opsL; simp [List.append_assoc]
    rw [List.length_cons, opsS, e, numS_num _ _ h2]
    simp only
    rw [List.take_left, List.drop_left, if_pos ⟨by simp, (dec_op q h1).1⟩, ih, (dec_op q h1).2]
    rfl
/-- A frame as it is read. -/
def normF (f : Frm) : Frm := { f with vec := cutL f.vec, ops := f.ops.map normO }
theorem fmay_norm (f : Frm) (h : fMayB f = true) : fMayB (normF f) = true := by
  obtain ⟨h1, h2, h3, h4⟩ := may_parts h
  have h1' : HeadP (normF f) := h1
  have h2' : FitP (normF f) := by unfold FitP normF at *; simpa using h2
  have h3' : (normF f).ops.all mayB = true := by
    rw [List.all_eq_true] at h3 ⊢
    intro q hq
    obtain ⟨z, hz, rfl⟩ := List.mem_map.1 hq
    exact may_norm z (h3 z hz)
  have h4' : vokB (normF f).vec = true := by unfold vokB normF at *; simp only [cut_cut]; exact h4
  rw [fmay_good h1' h2' h3', h4']
theorem decP_body (f : Frm) (h : fMayB f = true) (hl : (bodyL f).length ≤ 1048576) : decP (bodyL f) = some (normF f) := by
  obtain ⟨h1, h2, h3, h4⟩ := may_parts h
  have h4' : vecMayB (cutL f.vec) = true ∧ (cutL f.vec).length ≤ 64 := by unfold vokB at h4; rw [Bool.and_eq_true, decide_eq_true_eq] at h4; exact h4
  unfold HeadP at h1
  have h8 := h2.2.2
  have e : bodyL f = numL f.kind.toNat ++ (numL f.src.toNat ++ (numL f.dst.toNat ++ (numL f.sess.toNat ++ (numL f.seq.toNat ++ (truthW f.last ++ (numL (cutL f.vec).length ++ numsL (cutL f.vec) ++ (numL f.ops.length ++ (opsL f.ops ++ [])))))))) := by
    unfold bodyL preL headN numsL; simp [List.append_assoc]
  have hH : hdR (bodyL f) = ⟨f.kind.toNat, f.src.toNat, f.dst.toNat, f.sess.toNat, f.seq.toNat, f.last, cutL f.vec, f.ops.length, some (opsL f.ops ++ [])⟩ := by
    unfold hdR
    rw [e]
    simp only [numS_num _ _ (show f.kind.toNat ≤ 4611686018427387904 by omega), numS_num _ _ (show f.src.toNat ≤ 4611686018427387904 by omega), numS_num _ _ (show f.dst.toNat ≤ 4611686018427387904 by omega), numS_num _ _ (show f.sess.toNat ≤ 4611686018427387904 by omega), numS_num _ _ (show f.seq.toNat ≤ 4611686018427387904 by omega), truthS_truth, vecS_cut _ _ h4', numS_num _ _ (show f.ops.length ≤ 4611686018427387904 by omega)]
  have hO : opsS f.ops.length (opsL f.ops ++ []) = some (f.ops.map normO, []) := opsS_ops f.ops [] (fun q hq => by
    refine ⟨List.all_eq_true.1 h3 q hq, ?_⟩
    have : (opL q).length ≤ (opsL f.ops).length := by
      unfold opsL
      obtain ⟨a, b, hab⟩ := List.append_of_mem hq
      rw [hab]
      simp; omega
    have h5 : (bodyL f).length = (preL f).length + (opsL f.ops).length := by unfold bodyL; simp
    omega)
  have hF : hdF (hdR (bodyL f)) (f.ops.map normO) = normF f := by
    rw [hH]
    unfold hdF normF
    simp only
    rw [Int.toNat_of_nonneg (by omega), Int.toNat_of_nonneg (by omega), Int.toNat_of_nonneg (by omega), Int.toNat_of_nonneg (by omega), Int.toNat_of_nonneg (by omega)]
  rw [decP_end (l := bodyL f) (r := opsL f.ops ++ []) (by rw [hH]) (by rw [hH]; simp only; omega) (by rw [hH]; exact hO), hF, if_pos ⟨rfl, fmay_norm f h⟩]
/-- What is written is read. -/
theorem decF_frame (f : Frm) (h : fMayB f = true) (hb : Byt (bodyL f)) (hl : (bodyL f).length ≤ 1048576) : decF (frameL (bodyL f)) = some (normF f) := by
  obtain ⟨h1, h2⟩ := unf_frame _ hb hl
  unfold decF
  rw [h1, h2]
  simp only
  rw [if_pos (by simp), decP_body f h hl]
theorem leqB_cut (xs : List Int) : leqB xs (cutL xs) = true ∧ leqB (cutL xs) xs = true :=
  ⟨(leqB_iff _ _).2 (fun k _ => by rw [atZ_cut]; exact Int.le_refl _), (leqB_iff _ _).2 (fun k _ => by rw [atZ_cut]; exact Int.le_refl _)⟩
theorem eqB_norm (o : Opr) : eqB o (normO o) = true := by unfold eqB normO; simp [(leqB_cut o.seen).1, (leqB_cut o.seen).2]
theorem frEqB_norm (f : Frm) : frEqB f (normF f) = true := by
  unfold frEqB normF opsEqB
  simp only [(leqB_cut f.vec).1, (leqB_cut f.vec).2, List.length_map, decide_true, Bool.and_self, Bool.true_and]
  rw [List.all_eq_true]
  intro p hp
  obtain ⟨i, hi⟩ := List.getElem?_of_mem hp
  rw [List.getElem?_zip_eq_some, List.getElem?_map] at hi
  rw [hi.1] at hi
  have := hi.2
  simp only [Option.map_some] at this
  injection this with this
  rw [← this]
  exact eqB_norm _
/-- What is read holds bytes. -/
theorem opsS_byt : ∀ (n : Nat) (l : List Int) (os : List Opr) (left : List Int), Byt l → opsS n l = some (os, left) → ∀ q ∈ os, Byt q.data
  | 0, l, os, left, hl, h => by
    simp only [opsS] at h
    injection h with h
    injection h with h _
    subst h
    exact fun q hq => by cases hq
  | n + 1, l, os, left, hl, h => by
    obtain ⟨x, sx, hx⟩ : ∃ x sx, numS (some l) = (x, sx) := ⟨_, _, rfl⟩
    rw [opsS, hx] at h
    rcases sx with _ | r
    · cases h
    simp only at h
    split at h
    · next hc =>
      obtain ⟨_, hr⟩ := numS_canon hl hx
      obtain ⟨z, hz⟩ : ∃ z, opsS n (r.drop x) = z := ⟨_, rfl⟩
      rw [hz] at h
      rcases z with _ | ⟨os', l'⟩
      · cases h
      simp only [Option.map_some] at h
      injection h with h
      injection h with h1 h2
      subst h1
      intro q hq
      rcases List.mem_cons.1 hq with rfl | hq
      · exact dec_byt (hr.take x) hc.2
      · exact opsS_byt n (r.drop x) os' l' (hr.drop x) hz q hq
    · cases h
theorem decF_byt {l : List Int} {f : Frm} (hl : Byt l) (h : decF l = some f) : ∀ q ∈ f.ops, Byt q.data := by
  unfold decF at h
  split at h
  · unfold decP at h
    split at h
    · cases h
    rename_i r hr
    split at h
    · cases h
    split at h
    · cases h
    rename_i q hq
    split at h
    · injection h with h
      subst h
      refine opsS_byt _ r q.1 q.2 ?_ hq
      obtain ⟨hsuf, _⟩ := hd_suf hr
      rw [(suf_drop hsuf).1]
      exact (unf_byt hl).drop _
    · cases h
  · cases h
end Go.Proofs.YthbalmoafpggdaaGreat

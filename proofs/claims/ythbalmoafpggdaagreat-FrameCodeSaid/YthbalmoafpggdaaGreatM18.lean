/- Frames: the law's Cut. -/
import Derived.Test.YthbalmoafpggdaaGreatChecked
import Derived.WalkKit
import Derived.Outline
import Derived.WalkSpells
import Derived.WalkLawsBesides
import Derived.Deep.QuietTactic
import Derived.Deep.RegionWith
import Derived.Deep.DeepMust
import Derived.BigQuiet
import Derived.RegionTactic
import Derived.ChangeAlike
import Derived.StillTailTactics
import Derived.Deep.LoopGhost
import Derived.Deep.AppendLies
import Derived.Test.YthbalmoafpggdaaGreatM1
import Derived.Test.YthbalmoafpggdaaGreatM15
import Derived.Test.YthbalmoafpggdaaGreatM14
namespace Go.Proofs.YthbalmoafpggdaaGreat
open Go.RowKit
set_option linter.unusedVariables false
set_option linter.unusedSimpArgs false
def CutPost2 (o : Opr) (d0 s0 : Value) (w : World) (e : Ending) (w' : World) : Prop := ∃ d s, e = .returned (.agg #[.int .i64 ((cutO o)).time, .int .i64 ((cutO o)).node, .int .i64 ((cutO o)).seq, .int .i64 ((cutO o)).kind, .int .i64 ((cutO o)).ot, .int .i64 ((cutO o)).on, .int .i64 ((cutO o)).pt, .int .i64 ((cutO o)).pn, .string ((cutO o)).name, d, s]) ∧ (∀ w0, Rdv u8v w0 d0 o.data → Rdv u8v w0 d (cutO o).data) ∧ (∀ w0, Rdv i64v w0 s0 o.seen → Rdv i64v w0 s (cutO o).seen) ∧ Below w.heap.size w w'
set_option maxHeartbeats 2000000 in
set_option maxRecDepth 100000 in
theorem opCut2 (o : Opr) (d s : Value) (w : World) (hd : Rdv u8v w d o.data) (hs : Rdv i64v w s o.seen) :
    Calls Tryz.prog 16 #[.agg #[.int .i64 (o).time, .int .i64 (o).node, .int .i64 (o).seq, .int .i64 (o).kind, .int .i64 (o).ot, .int .i64 (o).on, .int .i64 (o).pt, .int .i64 (o).pn, .string (o).name, d, s]] w (CutPost2 o d s w) := by
  obtain ⟨time, node, seq, kind, ot, on, pt, pn, name, data, xs⟩ := o
  simp only at *
  obtain ⟨da, dn, dc, rfl⟩ := hd.shape
  obtain ⟨rfl, d1, d2, _⟩ := hd.cap
  obtain ⟨sa, sn, sc, rfl⟩ := hs.shape
  obtain ⟨rfl, s1, s2, _⟩ := hs.cap
  unfold maxLen at d2 s2
  have KS := Lib.hid (fun w' => shortC4 da data dc 3000 w' (by omega) d1 (by omega))
  have KV := Lib.hid (fun w' => lawCut3 sa xs sc w' s1 (by omega))
  clear hd hs
  unfold CutPost2 cutO
  simp only
  by_cases hn : 100 < name.size
  · have hn1 : (100 : Int) < name.size := by omega
    have hn2 : (100 : Int) ≤ name.size := by omega
    have HN : Hid ((if 100 < name.size then name.extract 0 100 else name) = name.extract 0 100) := Lib.hid (if_pos hn)
    go_enter Tryz.func16, Tryz.ntmps16
    go_wp2_with fail
    refine (KS.out _).mono ?_
    rintro e w1 ⟨⟨n1, c1, rfl, hd1⟩, rfl⟩
    have HD1 := Lib.hid hd1
    clear hd1
    go_wp2_with fail
    refine (KV.out _).mono ?_
    rintro e w2 ⟨⟨n2, c2, rfl, hs2⟩, rfl⟩
    have HS2 := Lib.hid hs2
    clear hs2
    go_wp2
    refine bodyPost_ret (v := .agg #[.int .i64 time, .int .i64 node, .int .i64 seq, .int .i64 kind, .int .i64 ot, .int .i64 on, .int .i64 pt, .int .i64 pn, .string (name.extract 0 100), .slice da n1 c1, .slice sa n2 c2]) (by simp [results, Tryz.results16, go_sem, *] <;> rfl) rfl ⟨_, _, rfl, HD1.out, HS2.out, by (repeat (first | exact Below.refl _ _ | (with_reducible assumption) | apply Below.drew | (refine Below.alloc ?_ (by first | exact Nat.le_refl _ | omega | (simp; done) | (simp; omega)) _) | (refine Below.setCell ?_ (by first | exact Nat.le_refl _ | omega | (simp; done) | (simp; omega)) _) | (refine Below.trans ?_ (Below.mono (by with_reducible assumption) (by first | omega | (simp; done) | (simp; omega))))))⟩
  · have hn1 : ¬ ((100 : Int) < name.size) := by omega
    have HN : Hid ((if 100 < name.size then name.extract 0 100 else name) = name) := Lib.hid (if_neg hn)
    go_enter Tryz.func16, Tryz.ntmps16
    go_wp2_with fail
    refine (KS.out _).mono ?_
    rintro e w1 ⟨⟨n1, c1, rfl, hd1⟩, rfl⟩
    have HD1 := Lib.hid hd1
    clear hd1
    go_wp2_with fail
    refine (KV.out _).mono ?_
    rintro e w2 ⟨⟨n2, c2, rfl, hs2⟩, rfl⟩
    have HS2 := Lib.hid hs2
    clear hs2
    go_wp2
    refine bodyPost_ret (v := .agg #[.int .i64 time, .int .i64 node, .int .i64 seq, .int .i64 kind, .int .i64 ot, .int .i64 on, .int .i64 pt, .int .i64 pn, .string name, .slice da n1 c1, .slice sa n2 c2]) (by simp [results, Tryz.results16, go_sem, *] <;> rfl) rfl ⟨_, _, rfl, HD1.out, HS2.out, by (repeat (first | exact Below.refl _ _ | (with_reducible assumption) | apply Below.drew | (refine Below.alloc ?_ (by first | exact Nat.le_refl _ | omega | (simp; done) | (simp; omega)) _) | (refine Below.setCell ?_ (by first | exact Nat.le_refl _ | omega | (simp; done) | (simp; omega)) _) | (refine Below.trans ?_ (Below.mono (by with_reducible assumption) (by first | omega | (simp; done) | (simp; omega))))))⟩
theorem Op.info : (Tryz.prog.info? 46).map (fun i => (i.zero, i.size, i.bytes)) = some (some (.agg #[.int .i64 0, .int .i64 0, .int .i64 0, .int .i64 0, .int .i64 0, .int .i64 0, .int .i64 0, .int .i64 0, .string ByteArray.empty, .slice none 0 0, .slice none 0 0]), 11, 128) := by kernel_rfl
def cutF (f : Frm) : Frm := { f with vec := f.vec.take 80, ops := (f.ops.take 10).map cutO }
def FCutPost (f : Frm) (w : World) (e : Ending) (w' : World) : Prop := ∃ v o, e = .returned (.agg #[.int .i64 ((cutF f)).kind, .int .i64 ((cutF f)).src, .int .i64 ((cutF f)).dst, .int .i64 ((cutF f)).sess, .int .i64 ((cutF f)).seq, .bool ((cutF f)).last, v, o]) ∧ Rdv i64v w' v (cutF f).vec ∧ OpsRd w' o (cutF f).ops ∧ Below w.heap.size w w'
/-- As Cut gives it: rows of wa, or of one's own. -/
def FCutPost2 (f : Frm) (wa w : World) (e : Ending) (w' : World) : Prop := ∃ v o ps, e = .returned (.agg #[.int .i64 ((cutF f)).kind, .int .i64 ((cutF f)).src, .int .i64 ((cutF f)).dst, .int .i64 ((cutF f)).sess, .int .i64 ((cutF f)).seq, .bool ((cutF f)).last, v, o]) ∧ RdK wa.heap.size 2 i64v w' v (cutF f).vec ∧ OpsOwn w.heap.size wa.heap.size w' o ps ∧ ps.map (·.1) = (cutF f).ops ∧ Below w.heap.size w w'
theorem chg9 (w : World) (P R : Nat) (u c0 c1 c2 c3 c4 c5 c6 c7 : Value) : Chg (fun k => k = P ∨ k = R) w (((((((((w.setCell ⟨P, 7, none⟩ u).setCell ⟨R, 0, none⟩ c0).setCell ⟨R, 1, none⟩ c1).setCell ⟨R, 2, none⟩ c2).setCell ⟨R, 3, none⟩ c3).setCell ⟨R, 4, none⟩ c4).setCell ⟨R, 5, none⟩ c5).setCell ⟨R, 6, none⟩ c6).setCell ⟨R, 7, none⟩ c7) :=
  have hP : ∀ o, (⟨P, o, none⟩ : Addr).block < w.heap.size → P = P ∨ P = R := fun _ _ => .inl rfl
  have hR : ∀ o, (⟨R, o, none⟩ : Addr).block < w.heap.size → R = P ∨ R = R := fun _ _ => .inr rfl
  Chg.set (S := (fun k => k = P ∨ k = R)) (Chg.set (S := (fun k => k = P ∨ k = R)) (Chg.set (S := (fun k => k = P ∨ k = R)) (Chg.set (S := (fun k => k = P ∨ k = R)) (Chg.set (S := (fun k => k = P ∨ k = R)) (Chg.set (S := (fun k => k = P ∨ k = R)) (Chg.set (S := (fun k => k = P ∨ k = R)) (Chg.set (S := (fun k => k = P ∨ k = R)) (Chg.set (S := (fun k => k = P ∨ k = R)) (Chg.refl _ _) (hP 7) u) (hR 0) c0) (hR 1) c1) (hR 2) c2) (hR 3) c3) (hR 4) c4) (hR 5) c5) (hR 6) c6) (hR 7) c7
structure CMid (w : World) (cs : Array Value) (wr : World) : Prop where
  blk : Blk wr w.heap.size cs 26
  res : Blk wr (w.heap.size + 1) #[.int .i64 0, .int .i64 0, .int .i64 0, .int .i64 0, .int .i64 0, .bool false, .slice none 0 0, .slice none 0 0] 26
  bel : Below w.heap.size w wr
theorem CMid.below {w wr wr' : World} {cs : Array Value} (h : CMid w cs wr) (hb : Below wr.heap.size wr wr') : CMid w cs wr' :=
  ⟨blkBelow hb h.blk h.blk.lt, blkBelow hb h.res h.res.lt, h.bel.trans (hb.mono h.bel.size)⟩
theorem CMid.grown {w wr wr' : World} {cs : Array Value} {row : Option Nat} (h : CMid w cs wr) (g : wr.grownBy wr' row) (hr : ∀ k, row = some k → w.heap.size ≤ k ∧ ∃ c, Blk wr k c 46) : CMid w cs wr' := by
  have gc : Chg (fun k => row = some k) wr wr' := (Chg.refl (fun k => row = some k) wr).grown g (fun _ e _ => e)
  have e : 46 ≠ 26 := by decide
  refine ⟨gc.blk h.blk (fun e1 => ?_), gc.blk h.res (fun e1 => ?_), h.bel.grown g h.bel.size (fun k hk => (hr k hk).1)⟩
  · obtain ⟨_, c, h2⟩ := hr _ e1
    exact blk_ne h2 e h.blk
  · obtain ⟨_, c, h2⟩ := hr _ e1
    exact blk_ne h2 e h.res
set_option maxHeartbeats 4000000 in
set_option maxRecDepth 100000 in
theorem frCut2 (f : Frm) (v o : Value) (wa w : World) (hbw : Below wa.heap.size wa w) (hv : Rdv i64v wa v f.vec) (ho : OpsRd wa o f.ops) :
    Calls Tryz.prog 6 #[.agg #[.int .i64 (f).kind, .int .i64 (f).src, .int .i64 (f).dst, .int .i64 (f).sess, .int .i64 (f).seq, .bool (f).last, v, o]] w (FCutPost2 f wa w) := by
  have HBW := Lib.hid hbw
  clear hbw
  obtain ⟨i0, hi, hz0, hz1, hz2⟩ := info_parts Op.info
  have HV := Lib.hid hv
  obtain ⟨a, c, rfl, o1, o2, HO⟩ := ho
  have HO := Lib.hid HO
  clear hv
  obtain ⟨va, vn, vc, rfl⟩ := HV.out.shape
  obtain ⟨rfl, v1, v2, _⟩ := HV.out.cap
  unfold maxLen at v2
  have KV := Lib.hid (fun w' => lawCut3 va f.vec vc w' v1 (by omega))
  unfold FCutPost2 cutF
  simp only
  obtain ⟨kind, src, dst, sess, seq, last, vec, ops⟩ := f
  simp only at *
  have AL := ((Below.refl w.heap.size w).alloc (Nat.le_refl _) (.cells #[.int .i64 kind, .int .i64 src, .int .i64 dst, .int .i64 sess, .int .i64 seq, .bool last, .slice va vec.length vc, .slice a ops.length c] 26)).alloc (by simp) (.cells #[.int .i64 0, .int .i64 0, .int .i64 0, .int .i64 0, .int .i64 0, .bool false, .slice none 0 0, .slice none 0 0] 26)
  go_enter Tryz.func6, Tryz.ntmps6
  go_wp2_with fail
  refine (KV.out _).mono ?_
  rintro e w1 ⟨⟨n1, c1, rfl, hv1⟩, rfl⟩
  have HV1 := Lib.hid (hv1 wa HV.out)
  clear hv1 HV KV
  go_wp2
  have M0 : Hid (CMid w #[.int .i64 kind, .int .i64 src, .int .i64 dst, .int .i64 sess, .int .i64 seq, .bool last, .slice va n1 c1, .slice a ops.length c] ((w.alloc (.cells #[.int .i64 kind, .int .i64 src, .int .i64 dst, .int .i64 sess, .int .i64 seq, .bool last, .slice va n1 c1, .slice a ops.length c] 26)).alloc (.cells #[.int .i64 0, .int .i64 0, .int .i64 0, .int .i64 0, .int .i64 0, .bool false, .slice none 0 0, .slice none 0 0] 26))) := Lib.hid ⟨(Blk.new w _ _).alloc _, by have := Blk.new (w.alloc (.cells #[.int .i64 kind, .int .i64 src, .int .i64 dst, .int .i64 sess, .int .i64 seq, .bool last, .slice va n1 c1, .slice a ops.length c] 26)) #[.int .i64 0, .int .i64 0, .int .i64 0, .int .i64 0, .int .i64 0, .bool false, .slice none 0 0, .slice none 0 0] 26; simpa using this, ((Below.refl w.heap.size w).alloc (Nat.le_refl _) _).alloc (by simp) _⟩
  clear AL
  obtain ⟨W, hW⟩ : ∃ W, W = (w.alloc (.cells #[.int .i64 kind, .int .i64 src, .int .i64 dst, .int .i64 sess, .int .i64 seq, .bool last, .slice va n1 c1, .slice a ops.length c] 26)).alloc (.cells #[.int .i64 0, .int .i64 0, .int .i64 0, .int .i64 0, .int .i64 0, .bool false, .slice none 0 0, .slice none 0 0] 26) := ⟨_, rfl⟩
  rw [← hW] at M0 ⊢
  clear hW
  have hT10 : (ops.take 10).length ≤ 10 ∧ (ops.take 10).length ≤ ops.length := by rw [List.length_take]; omega
  go_loopw [3, 4] (fun bv iv wr => ∃ (i : Nat) (ps : List ODS), i ≤ 10 ∧ i ≤ ops.length ∧ iv = .int .i64 i ∧ ps.map (·.1) = (ops.take i).map cutO ∧ OpsOwn w.heap.size wa.heap.size wr bv ps ∧ CMid w #[.int .i64 kind, .int .i64 src, .int .i64 dst, .int .i64 sess, .int .i64 seq, .bool last, .slice va n1 c1, .slice a ops.length c] wr) (fun _ iv _ => 10 - (intOf iv).toNat)
  case atStart => exact ⟨0, [], by omega, by omega, rfl, rfl, OpsOwn.nil _ _ _, M0.out⟩
  case round =>
    obtain ⟨i, ps, hi10, hil, rfl, hps, hO, hM⟩ := hrel
    have PS := Lib.hid hps
    have OO := Lib.hid hO
    have MM := Lib.hid hM
    have HPL : Hid (ps.length = i) := Lib.hid (by have := congrArg List.length hps; simp at this; omega)
    obtain ⟨ba, bc, rfl, _, _, _⟩ := own_shape hO.own
    clear hps hO hM M0
    have MB := Lib.hid MM.out.blk
    have g_0 : wr.cell? ⟨w.heap.size, 0, none⟩ = some (.int .i64 kind) := (MB.out).cell (o := 0) rfl
    have g_1 : wr.cell? ⟨w.heap.size, 1, none⟩ = some (.int .i64 src) := (MB.out).cell (o := 1) rfl
    have g_2 : wr.cell? ⟨w.heap.size, 2, none⟩ = some (.int .i64 dst) := (MB.out).cell (o := 2) rfl
    have g_3 : wr.cell? ⟨w.heap.size, 3, none⟩ = some (.int .i64 sess) := (MB.out).cell (o := 3) rfl
    have g_4 : wr.cell? ⟨w.heap.size, 4, none⟩ = some (.int .i64 seq) := (MB.out).cell (o := 4) rfl
    have g_5 : wr.cell? ⟨w.heap.size, 5, none⟩ = some (.bool last) := (MB.out).cell (o := 5) rfl
    have g_6 : wr.cell? ⟨w.heap.size, 6, none⟩ = some (.slice va n1 c1) := (MB.out).cell (o := 6) rfl
    have g_7 : wr.cell? ⟨w.heap.size, 7, none⟩ = some (.slice a ops.length c) := (MB.out).cell (o := 7) rfl
    have q0 : (0 : Int) ≤ i := by omega
    by_cases hlt : i < ops.length
    · have q1 : (i : Int) < ops.length := by omega
      by_cases h10 : i < 10
      · have q2 : (i : Int) < 10 := by omega
        obtain ⟨q, hq⟩ : ∃ q, ops[i]? = some q := ⟨_, List.getElem?_eq_getElem hlt⟩
        obtain ⟨b, ob, d, s, rfl, hA⟩ := HO.out i q hq
        have A0 := Lib.hid hA
        have OA := Lib.hid (hA.below (HBW.out.trans (MM.out.bel.mono HBW.out.size)))
        obtain ⟨da, dn, dc, rfl⟩ := hA.dat.shape
        obtain ⟨sa, sn, sc, rfl⟩ := hA.see.shape
        have c_0 : wr.cell? ⟨b, ob + i * 11, none⟩ = some (.int .i64 (q).time) := (OA.out).cell 0 _ rfl
        have c_1 : wr.cell? ⟨b, ob + i * 11 + 1, none⟩ = some (.int .i64 (q).node) := (OA.out).cell 1 _ rfl
        have c_2 : wr.cell? ⟨b, ob + i * 11 + 2, none⟩ = some (.int .i64 (q).seq) := (OA.out).cell 2 _ rfl
        have c_3 : wr.cell? ⟨b, ob + i * 11 + 3, none⟩ = some (.int .i64 (q).kind) := (OA.out).cell 3 _ rfl
        have c_4 : wr.cell? ⟨b, ob + i * 11 + 4, none⟩ = some (.int .i64 (q).ot) := (OA.out).cell 4 _ rfl
        have c_5 : wr.cell? ⟨b, ob + i * 11 + 5, none⟩ = some (.int .i64 (q).on) := (OA.out).cell 5 _ rfl
        have c_6 : wr.cell? ⟨b, ob + i * 11 + 6, none⟩ = some (.int .i64 (q).pt) := (OA.out).cell 6 _ rfl
        have c_7 : wr.cell? ⟨b, ob + i * 11 + 7, none⟩ = some (.int .i64 (q).pn) := (OA.out).cell 7 _ rfl
        have c_8 : wr.cell? ⟨b, ob + i * 11 + 8, none⟩ = some (.string (q).name) := (OA.out).cell 8 _ rfl
        have c_9 : wr.cell? ⟨b, ob + i * 11 + 9, none⟩ = some (.slice da dn dc) := (OA.out).cell 9 _ rfl
        have c_10 : wr.cell? ⟨b, ob + i * 11 + 10, none⟩ = some (.slice sa sn sc) := (OA.out).cell 10 _ rfl
        have KC := Lib.hid (opCut2 q (.slice da dn dc) (.slice sa sn sc) wr OA.out.dat OA.out.see)
        have PS2 : Hid ((ops.take (i + 1)).map cutO = (ops.take i).map cutO ++ [cutO q]) := Lib.hid (by rw [List.take_add_one, hq]; simp)
        clear hA hq
        go_wp2_with fail
        refine KC.out.mono ?_
        rintro e w3 ⟨d3, s3, rfl, hd3, hs3, hb3⟩
        have RD := Lib.hid (RdK.of_rdv (T := 5) (hd3 wa A0.out.dat) (HBW.out.trans ((MM.out.bel.trans (hb3.mono MM.out.bel.size)).mono HBW.out.size)))
        have RS := Lib.hid (RdK.of_rdv (T := 2) (hs3 wa A0.out.see) (HBW.out.trans ((MM.out.bel.trans (hb3.mono MM.out.bel.size)).mono HBW.out.size)))
        obtain ⟨d3a, d3n, d3c, rfl⟩ := RD.out.rd.shape
        obtain ⟨s3a, s3n, s3c, rfl⟩ := RS.out.rd.shape
        have O3 := Lib.hid (OO.out.below hb3)
        have M3 := Lib.hid (MM.out.below hb3)
        clear hd3 hs3 hb3 c_0 c_1 c_2 c_3 c_4 c_5 c_6 c_7 c_8 c_9 c_10 g_0 g_1 g_2 g_3 g_4 g_5 g_6 g_7 OO MM MB KC OA A0
        generalize cutO q = q' at *
        have pl9 : ps.length ≤ 9 := by have := HPL.out; omega
        have HN := Lib.hid (O3.out.own.alloc (.cells #[.int .i64 (q').time, .int .i64 (q').node, .int .i64 (q').seq, .int .i64 (q').kind, .int .i64 (q').ot, .int .i64 (q').on, .int .i64 (q').pt, .int .i64 (q').pn, .string (q').name, .slice d3a d3n d3c, .slice s3a s3n s3c] 46))
        have HE := Lib.hid ((Below.refl w3.heap.size w3).alloc (Nat.le_refl _) (.cells #[.int .i64 (q').time, .int .i64 (q').node, .int .i64 (q').seq, .int .i64 (q').kind, .int .i64 (q').ot, .int .i64 (q').on, .int .i64 (q').pt, .int .i64 (q').pn, .string (q').name, .slice d3a d3n d3c, .slice s3a s3n s3c] 46))
        have hbz := M3.out.bel.size
        go_wp2_with (at_builtin; refine wpList_append_lies _ rfl (.tmp 20) (.tmp 27) 24 rfl w.heap.size 46 i0 _ 11 128 Tryz.underlying24 hi hz0 hz1 hz2 rfl (Nat.zero_lt_succ 10) (.slice ba ps.length bc) ps.length (odrow ps) rfl HN.out ⟨w3.heap.size, 0, none⟩ 1 1 (opC q' (.slice d3a d3n d3c) (.slice s3a s3n s3c)) rfl rfl ?c1 ?c2 (Nat.zero_lt_succ 0) ?c3 ?c4 ?c5 (w3.heap.size + 1) ?c6 ?_)
        case c1 => (intro j u hu; unfold opC at hu; rcases j with _ | _ | _ | _ | _ | _ | _ | _ | _ | _ | _ | j <;> simp at hu <;> subst hu <;> simp [Addr.add, go_sem, *])
        case c2 => simp [opC, Value.oneCell']
        case c3 => unfold maxLen; omega
        case c4 => omega
        case c5 => simp; omega
        case c6 => simp
        intro g2 c2 w4 ho4 hg4 _ _
        have O4 := Lib.hid ((O3.out.below HE.out).snoc HBW.out.size hg4 ho4 rfl (RD.out.below HE.out) (RS.out.below HE.out))
        have M4 := Lib.hid ((M3.out.below HE.out).grown hg4 (fun k e => own_typ HN.out e))
        have PS4 : Hid ((ps ++ [(q', Value.slice d3a d3n d3c, Value.slice s3a s3n s3c)]).map (·.1) = (ops.take (i + 1)).map cutO) := Lib.hid (by rw [PS2.out, List.map_append, PS.out]; rfl)
        clear ho4 hg4 HN HE RD RS M3 O3 PS2 PS
        go_wp2
        go_roundw
        case rel => exact ⟨i + 1, _, by omega, by omega, by go_num, PS4.out, O4.out, M4.out⟩
        case measure => simp [intOf]; omega
      · have hT : (ops.take i).map cutO = (ops.take 10).map cutO := by rw [show i = 10 by omega]
        have HT := Lib.hid hT
        clear hT
        have RES := Lib.hid MM.out.res
        have z_0 : wr.cell? ⟨w.heap.size + 1, 0, none⟩ = some (.int .i64 0) := (RES.out).cell (o := 0) rfl
        have z_1 : wr.cell? ⟨w.heap.size + 1, 1, none⟩ = some (.int .i64 0) := (RES.out).cell (o := 1) rfl
        have z_2 : wr.cell? ⟨w.heap.size + 1, 2, none⟩ = some (.int .i64 0) := (RES.out).cell (o := 2) rfl
        have z_3 : wr.cell? ⟨w.heap.size + 1, 3, none⟩ = some (.int .i64 0) := (RES.out).cell (o := 3) rfl
        have z_4 : wr.cell? ⟨w.heap.size + 1, 4, none⟩ = some (.int .i64 0) := (RES.out).cell (o := 4) rfl
        have z_5 : wr.cell? ⟨w.heap.size + 1, 5, none⟩ = some (.bool false) := (RES.out).cell (o := 5) rfl
        have z_6 : wr.cell? ⟨w.heap.size + 1, 6, none⟩ = some (.slice none 0 0) := (RES.out).cell (o := 6) rfl
        have z_7 : wr.cell? ⟨w.heap.size + 1, 7, none⟩ = some (.slice none 0 0) := (RES.out).cell (o := 7) rfl
        have yz_0 := (RES.out).free 0
        have yz_1 := (RES.out).free 1
        have yz_2 := (RES.out).free 2
        have yz_3 := (RES.out).free 3
        have yz_4 := (RES.out).free 4
        have yz_5 := (RES.out).free 5
        have yz_6 := (RES.out).free 6
        have yz_7 := (RES.out).free 7
        have yg7 := MB.out.free 7
        have e8 : 5 ≠ 26 := by decide
        have e64 : 2 ≠ 26 := by decide
        have eo : 46 ≠ 26 := by decide
        have hbs := HBW.out.size
        have FIN := Lib.hid (fun w' (g : Chg (fun k => k = w.heap.size ∨ k = w.heap.size + 1) wr w') => (⟨(OO.out.chg g (fun k hk => by
          have hb : ∃ cs, Blk wr k cs 26 := by
            rcases hk with rfl | rfl
            · exact ⟨_, MB.out⟩
            · exact ⟨_, RES.out⟩
          obtain ⟨cs, hb⟩ := hb
          exact ⟨by omega, fun c2 => blk_ne hb (Ne.symm e8), fun c2 => blk_ne hb (Ne.symm e64), fun c2 => blk_ne hb (Ne.symm eo)⟩)), PS.out.trans HT.out, g.below_trans MM.out.bel MM.out.bel.size (fun i hi e => by omega)⟩ : OpsOwn w.heap.size wa.heap.size w' (.slice ba ps.length bc) ps ∧ ps.map (·.1) = (ops.take 10).map cutO ∧ Below w.heap.size w w'))
        clear OO MM HO e8 e64 eo hbs
        go_wp2
        have FP := Lib.hid (fun w' g => (⟨.slice va n1 c1, .slice ba ps.length bc, ps, rfl, RdK.of_rdv HV1.out (HBW.out.trans ((FIN.out w' g).2.2.mono HBW.out.size)), FIN.out w' g⟩ : ∃ v o ps2, Ending.returned (.agg #[.int .i64 kind, .int .i64 src, .int .i64 dst, .int .i64 sess, .int .i64 seq, .bool last, .slice va n1 c1, .slice ba ps.length bc]) = .returned (.agg #[.int .i64 kind, .int .i64 src, .int .i64 dst, .int .i64 sess, .int .i64 seq, .bool last, v, o]) ∧ RdK wa.heap.size 2 i64v w' v (vec.take 80) ∧ OpsOwn w.heap.size wa.heap.size w' o ps2 ∧ ps2.map (·.1) = (ops.take 10).map cutO ∧ Below w.heap.size w w'))
        exact bodyPost_ret (v := .agg #[.int .i64 kind, .int .i64 src, .int .i64 dst, .int .i64 sess, .int .i64 seq, .bool last, .slice va n1 c1, .slice ba ps.length bc]) (by simp [results, Tryz.results6, go_sem, *] <;> rfl) rfl (FP.out _ (chg9 _ _ _ _ _ _ _ _ _ _ _ _))
    · have hT : (ops.take i).map cutO = (ops.take 10).map cutO := by rw [List.take_of_length_le (by omega), List.take_of_length_le (by omega)]
      have HT := Lib.hid hT
      clear hT
      have RES := Lib.hid MM.out.res
      have z_0 : wr.cell? ⟨w.heap.size + 1, 0, none⟩ = some (.int .i64 0) := (RES.out).cell (o := 0) rfl
      have z_1 : wr.cell? ⟨w.heap.size + 1, 1, none⟩ = some (.int .i64 0) := (RES.out).cell (o := 1) rfl
      have z_2 : wr.cell? ⟨w.heap.size + 1, 2, none⟩ = some (.int .i64 0) := (RES.out).cell (o := 2) rfl
      have z_3 : wr.cell? ⟨w.heap.size + 1, 3, none⟩ = some (.int .i64 0) := (RES.out).cell (o := 3) rfl
      have z_4 : wr.cell? ⟨w.heap.size + 1, 4, none⟩ = some (.int .i64 0) := (RES.out).cell (o := 4) rfl
      have z_5 : wr.cell? ⟨w.heap.size + 1, 5, none⟩ = some (.bool false) := (RES.out).cell (o := 5) rfl
      have z_6 : wr.cell? ⟨w.heap.size + 1, 6, none⟩ = some (.slice none 0 0) := (RES.out).cell (o := 6) rfl
      have z_7 : wr.cell? ⟨w.heap.size + 1, 7, none⟩ = some (.slice none 0 0) := (RES.out).cell (o := 7) rfl
      have yz_0 := (RES.out).free 0
      have yz_1 := (RES.out).free 1
      have yz_2 := (RES.out).free 2
      have yz_3 := (RES.out).free 3
      have yz_4 := (RES.out).free 4
      have yz_5 := (RES.out).free 5
      have yz_6 := (RES.out).free 6
      have yz_7 := (RES.out).free 7
      have yg7 := MB.out.free 7
      have e8 : 5 ≠ 26 := by decide
      have e64 : 2 ≠ 26 := by decide
      have eo : 46 ≠ 26 := by decide
      have hbs := HBW.out.size
      have FIN := Lib.hid (fun w' (g : Chg (fun k => k = w.heap.size ∨ k = w.heap.size + 1) wr w') => (⟨(OO.out.chg g (fun k hk => by
        have hb : ∃ cs, Blk wr k cs 26 := by
          rcases hk with rfl | rfl
          · exact ⟨_, MB.out⟩
          · exact ⟨_, RES.out⟩
        obtain ⟨cs, hb⟩ := hb
        exact ⟨by omega, fun c2 => blk_ne hb (Ne.symm e8), fun c2 => blk_ne hb (Ne.symm e64), fun c2 => blk_ne hb (Ne.symm eo)⟩)), PS.out.trans HT.out, g.below_trans MM.out.bel MM.out.bel.size (fun i hi e => by omega)⟩ : OpsOwn w.heap.size wa.heap.size w' (.slice ba ps.length bc) ps ∧ ps.map (·.1) = (ops.take 10).map cutO ∧ Below w.heap.size w w'))
      clear OO MM HO e8 e64 eo hbs
      go_wp2
      have FP := Lib.hid (fun w' g => (⟨.slice va n1 c1, .slice ba ps.length bc, ps, rfl, RdK.of_rdv HV1.out (HBW.out.trans ((FIN.out w' g).2.2.mono HBW.out.size)), FIN.out w' g⟩ : ∃ v o ps2, Ending.returned (.agg #[.int .i64 kind, .int .i64 src, .int .i64 dst, .int .i64 sess, .int .i64 seq, .bool last, .slice va n1 c1, .slice ba ps.length bc]) = .returned (.agg #[.int .i64 kind, .int .i64 src, .int .i64 dst, .int .i64 sess, .int .i64 seq, .bool last, v, o]) ∧ RdK wa.heap.size 2 i64v w' v (vec.take 80) ∧ OpsOwn w.heap.size wa.heap.size w' o ps2 ∧ ps2.map (·.1) = (ops.take 10).map cutO ∧ Below w.heap.size w w'))
      exact bodyPost_ret (v := .agg #[.int .i64 kind, .int .i64 src, .int .i64 dst, .int .i64 sess, .int .i64 seq, .bool last, .slice va n1 c1, .slice ba ps.length bc]) (by simp [results, Tryz.results6, go_sem, *] <;> rfl) rfl (FP.out _ (chg9 _ _ _ _ _ _ _ _ _ _ _ _))
theorem frCut (f : Frm) (v o : Value) (w : World) (hv : Rdv i64v w v f.vec) (ho : OpsRd w o f.ops) :
    Calls Tryz.prog 6 #[.agg #[.int .i64 (f).kind, .int .i64 (f).src, .int .i64 (f).dst, .int .i64 (f).sess, .int .i64 (f).seq, .bool (f).last, v, o]] w (FCutPost f w) := by
  refine (frCut2 f v o w w (Below.refl _ _) hv ho).mono ?_
  rintro e w' ⟨v2, o2, ps, he, h1, h2, h3, h4⟩
  exact ⟨v2, o2, he, h1.rd, by rw [← h3]; exact h2.rd, h4⟩
end Go.Proofs.YthbalmoafpggdaaGreat

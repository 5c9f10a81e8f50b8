/- The law's put: a word, by both writers. -/
import Derived.Test.YthbalmoafpggdaaChecked
import Derived.WalkKit
import Derived.Outline
import Derived.WalkSpells
import Derived.WalkLawsBesides
import Derived.Deep.QuietTactic
import Derived.Deep.RegionWith
import Derived.Deep.DeepMust
import Derived.BigQuiet
import Derived.Test.YthbalmoafpggdaaMem
import Derived.RegionTactic
import Derived.ChangeAlike
import Derived.StillTailTactics
import Derived.Deep.LoopGhost
import Derived.Test.YthbalmoafpggdaaWf2
import Derived.Test.YthbalmoafpggdaaTk2
namespace Go.Proofs.Ythbalmoafpggdaa
open Go.RowKit
set_option linter.unusedVariables false
set_option linter.unusedSimpArgs false
def odd (n : Int) : Bool := decide (n.tmod 2 = 1)
def itemW (k n : Int) (bs : List Int) (t nd : Int) (vs : List Int) : Option (List Int) := if k = 0 then numW n else if k = 1 ∨ k = 2 then bytesW bs else if k = 3 then some (truthW (odd n)) else if k = 4 then idW t nd else vecW vs
def PutPost (p : Nat) (v : Value) (l : List Int) (bad : Bool) (o : Option (List Int)) (w : World) (e : Ending) (w' : World) : Prop := ∃ w1 u, e = .returned (.tuple #[u, .bool o.isSome]) ∧ WStep p v w (wadd l bad o) (wbad bad o) w1 ∧ w'.ownsRow w1.heap.size 5 1 u (o.getD []).length ((o.getD []).map u8v) ∧ Below w1.heap.size w1 w'
theorem Nxt.of_below {w w1 : World} {v v' : Value} (hs : w.heap.size ≤ w1.heap.size) (h : Nxt w1 v v') : Nxt w v v' := by
  rcases h with h | h
  · exact .inl h
  · exact .inr fun k hk => Nat.le_trans hs (h k hk)
theorem WStep.box {p : Nat} {v : Value} {w w1 : World} {o : Obj} {l : List Int} {bad : Bool} (h : WStep p v (w.alloc o) l bad w1) : WStep p v w l bad w1 := by
  obtain ⟨v', h1, h2, h3⟩ := h
  exact ⟨v', h1, Nxt.of_below (by simp) h2, ((Chg.refl (WS p v) w).alloc o).trans h3⟩
theorem own_lt {w : World} {B e s : Nat} {v : Value} {n : Nat} {xs : List Value} (h : w.ownsRow B e s v n xs) {k : Nat} (hk : v.ownBlock = some k) : k < w.heap.size := by
  rcases h.2 with ⟨rfl, _⟩ | ⟨g, c, cur, rfl, _, h2, _⟩
  · cases hk
  · injection hk with hk
    have hk : g = k := hk
    subst hk
    exact lt_of_block h2
theorem strL_of (xs : List Int) (h : Byt xs) : strL (strOfNums xs) = xs := by
  unfold strL
  rw [strOfNums_data, List.map_map]
  conv => rhs; rw [← List.map_id xs]
  refine List.map_congr_left fun q hq => ?_
  have := h q hq
  simp [UInt8.toNat_ofNat]
  omega
structure PutIn (p : Nat) (v vB vV : Value) (bs vs : List Int) (l : List Int) (w : World) : Prop where
  rB : Rdv u8v w vB bs
  byt : Byt bs
  aB : Apt vB p v
  lB : ∀ b o n c, vB = .slice (some ⟨b, o, none⟩) n c → 0 < n → b < w.heap.size
  rV : Rdv i64c w vV vs
  aV : Apt vV p v
  lV : ∀ b o n c, vV = .slice (some ⟨b, o, none⟩) n c → 0 < n → b < w.heap.size
  nB : bs.length ≤ 1000
  len : l.length ≤ 600000000000
set_option maxHeartbeats 4000000 in
set_option maxRecDepth 100000 in
theorem put0 (p : Nat) (v vB vV : Value) (bs vs : List Int) (l : List Int) (bad : Bool) (k n t nd : Int) (hk : k = 0) (w : World) (h : Wr w p v l bad) (hp : PutIn p v vB vV bs vs l w) (hn : -9223372036854775808 ≤ n ∧ n ≤ 9223372036854775807) : Calls Try.prog 24 #[.pointer (some ⟨p, 0, none⟩), .agg #[.int .i64 k, .int .i64 n, vB, .int .i64 t, .int .i64 nd, vV]] w (PutPost p v l bad (numW n) w) := by
  have A : Below w.heap.size w (w.alloc (.cells #[.int .i64 k, .int .i64 n, vB, .int .i64 t, .int .i64 nd, vV] 49)) := (Below.refl _ _).alloc (Nat.le_refl _) _
  have X := Blk.new w #[.int .i64 k, .int .i64 n, vB, .int .i64 t, .int .i64 nd, vV] 49
  have hX : ¬ WS p v w.heap.size := by
    rintro (e | e)
    · have := h.lt; omega
    · have := own_lt h.own e; omega
  have X0 := X.lt
  have H1 := h.below A
  have HP := Lib.hid hp
  obtain ⟨ba, bn, bc, rfl⟩ := hp.rB.shape
  obtain ⟨ua, un, uc, rfl⟩ := hp.rV.shape
  have KW := Lib.hid (wNum p v l bad n _ H1 hn (by have := hp.len; omega))
  have KR := Lib.hid (fun w => refNum n w)
  subst hk
  have X := Lib.hid X
  have hX := Lib.hid hX
  clear h hp H1 A
  go_enter Try.func24, Try.ntmps24
  go_wp2_with fail
  refine KW.out.mono ?_
  rintro e w1 ⟨rfl, hs⟩
  have X1 := hs.choose_spec.2.2.blk X.out hX.out
  have HSC := Lib.hid (hs.choose_spec.2.2)
  have HS := Lib.hid (WStep.box hs)
  have x0 := X1.cell (o := 0) rfl
  have x1 := X1.cell (o := 1) rfl
  have x2 := X1.cell (o := 2) rfl
  have x3 := X1.cell (o := 3) rfl
  have x4 := X1.cell (o := 4) rfl
  have x5 := X1.cell (o := 5) rfl
  have xz := X1.lt
  clear hs X1
  go_wp2_with fail
  refine (KR.out _).mono ?_
  rintro e w2 ⟨u, rfl, o2, b2⟩
  obtain ⟨a2, c2, rfl, _⟩ := own_shape o2
  have O2 := Lib.hid o2
  have B2 := Lib.hid b2
  clear o2 b2
  go_wp2
  go_ret2
  exact ⟨w1, _, rfl, HS.out, O2.out, B2.out⟩
set_option maxHeartbeats 4000000 in
set_option maxRecDepth 100000 in
theorem put1 (p : Nat) (v vB vV : Value) (bs vs : List Int) (l : List Int) (bad : Bool) (k n t nd : Int) (hk : k = 1) (w : World) (h : Wr w p v l bad) (hp : PutIn p v vB vV bs vs l w) (hn : -9223372036854775808 ≤ n ∧ n ≤ 9223372036854775807) : Calls Try.prog 24 #[.pointer (some ⟨p, 0, none⟩), .agg #[.int .i64 k, .int .i64 n, vB, .int .i64 t, .int .i64 nd, vV]] w (PutPost p v l bad (bytesW bs) w) := by
  have A : Below w.heap.size w (w.alloc (.cells #[.int .i64 k, .int .i64 n, vB, .int .i64 t, .int .i64 nd, vV] 49)) := (Below.refl _ _).alloc (Nat.le_refl _) _
  have X := Blk.new w #[.int .i64 k, .int .i64 n, vB, .int .i64 t, .int .i64 nd, vV] 49
  have hX : ¬ WS p v w.heap.size := by
    rintro (e | e)
    · have := h.lt; omega
    · have := own_lt h.own e; omega
  have X0 := X.lt
  have H1 := h.below A
  have HP := Lib.hid hp
  obtain ⟨ba, bn, bc, rfl⟩ := hp.rB.shape
  obtain ⟨ua, un, uc, rfl⟩ := hp.rV.shape
  have KW := Lib.hid (wBytes p v l bad (.slice ba bn bc) bs _ H1 (hp.rB.below A) hp.aB (fun b o n c e hn => Nat.lt_of_lt_of_le (hp.lB b o n c e hn) A.size) (by have := hp.len; omega))
  have KR := Lib.hid (fun w (h : Rdv u8v w (.slice ba bn bc) bs) => refBytes (.slice ba bn bc) bs w h)
  have RB := Lib.hid (hp.rB.below A)
  subst hk
  have X := Lib.hid X
  have hX := Lib.hid hX
  clear h hp H1 A
  go_enter Try.func24, Try.ntmps24
  go_wp2_with fail
  refine KW.out.mono ?_
  rintro e w1 ⟨rfl, hs⟩
  have X1 := hs.choose_spec.2.2.blk X.out hX.out
  have HSC := Lib.hid (hs.choose_spec.2.2)
  have HS := Lib.hid (WStep.box hs)
  have x0 := X1.cell (o := 0) rfl
  have x1 := X1.cell (o := 1) rfl
  have x2 := X1.cell (o := 2) rfl
  have x3 := X1.cell (o := 3) rfl
  have x4 := X1.cell (o := 4) rfl
  have x5 := X1.cell (o := 5) rfl
  have xz := X1.lt
  clear hs X1
  go_wp2_with fail
  refine (KR.out _ (RB.out.apt HSC.out HP.out.aB)).mono ?_
  rintro e w2 ⟨u, rfl, o2, b2⟩
  obtain ⟨a2, c2, rfl, _⟩ := own_shape o2
  have O2 := Lib.hid o2
  have B2 := Lib.hid b2
  clear o2 b2
  go_wp2
  go_ret2
  exact ⟨w1, _, rfl, HS.out, O2.out, B2.out⟩
set_option maxHeartbeats 4000000 in
set_option maxRecDepth 100000 in
theorem put2 (p : Nat) (v vB vV : Value) (bs vs : List Int) (l : List Int) (bad : Bool) (k n t nd : Int) (hk : k = 2) (w : World) (h : Wr w p v l bad) (hp : PutIn p v vB vV bs vs l w) (hn : -9223372036854775808 ≤ n ∧ n ≤ 9223372036854775807) : Calls Try.prog 24 #[.pointer (some ⟨p, 0, none⟩), .agg #[.int .i64 k, .int .i64 n, vB, .int .i64 t, .int .i64 nd, vV]] w (PutPost p v l bad (bytesW bs) w) := by
  have A : Below w.heap.size w (w.alloc (.cells #[.int .i64 k, .int .i64 n, vB, .int .i64 t, .int .i64 nd, vV] 49)) := (Below.refl _ _).alloc (Nat.le_refl _) _
  have X := Blk.new w #[.int .i64 k, .int .i64 n, vB, .int .i64 t, .int .i64 nd, vV] 49
  have hX : ¬ WS p v w.heap.size := by
    rintro (e | e)
    · have := h.lt; omega
    · have := own_lt h.own e; omega
  have X0 := X.lt
  have H1 := h.below A
  have HP := Lib.hid hp
  obtain ⟨ba, bn, bc, rfl⟩ := hp.rB.shape
  obtain ⟨ua, un, uc, rfl⟩ := hp.rV.shape
  have KW := wText p v l bad (strOfNums bs) _ H1 (by rw [strOfNums_size]; have := hp.nB; omega) (by have := hp.len; omega)
  rw [strL_of bs hp.byt] at KW
  have KW := Lib.hid KW
  have KR := Lib.hid (fun w (h : Rdv u8v w (.slice ba bn bc) bs) => refBytes (.slice ba bn bc) bs w h)
  have RB := Lib.hid (hp.rB.below A)
  have kx := conv_rdv (P := Try.prog) 24 5 Try.underlying24 Try.underlying5 RB.out 9 Try.underlying9
  subst hk
  have X := Lib.hid X
  have hX := Lib.hid hX
  clear h hp H1 A
  go_enter Try.func24, Try.ntmps24
  go_wp2_with fail
  refine KW.out.mono ?_
  rintro e w1 ⟨rfl, hs⟩
  have X1 := hs.choose_spec.2.2.blk X.out hX.out
  have HSC := Lib.hid (hs.choose_spec.2.2)
  have HS := Lib.hid (WStep.box hs)
  have x0 := X1.cell (o := 0) rfl
  have x1 := X1.cell (o := 1) rfl
  have x2 := X1.cell (o := 2) rfl
  have x3 := X1.cell (o := 3) rfl
  have x4 := X1.cell (o := 4) rfl
  have x5 := X1.cell (o := 5) rfl
  have xz := X1.lt
  clear hs X1
  go_wp2_with fail
  refine (KR.out _ (RB.out.apt HSC.out HP.out.aB)).mono ?_
  rintro e w2 ⟨u, rfl, o2, b2⟩
  obtain ⟨a2, c2, rfl, _⟩ := own_shape o2
  have O2 := Lib.hid o2
  have B2 := Lib.hid b2
  clear o2 b2
  go_wp2
  go_ret2
  exact ⟨w1, _, rfl, HS.out, O2.out, B2.out⟩
set_option maxHeartbeats 4000000 in
set_option maxRecDepth 100000 in
theorem put4 (p : Nat) (v vB vV : Value) (bs vs : List Int) (l : List Int) (bad : Bool) (k n t nd : Int) (hk : k = 4) (w : World) (h : Wr w p v l bad) (hp : PutIn p v vB vV bs vs l w) (hn : -9223372036854775808 ≤ n ∧ n ≤ 9223372036854775807) : Calls Try.prog 24 #[.pointer (some ⟨p, 0, none⟩), .agg #[.int .i64 k, .int .i64 n, vB, .int .i64 t, .int .i64 nd, vV]] w (PutPost p v l bad (idW t nd) w) := by
  have A : Below w.heap.size w (w.alloc (.cells #[.int .i64 k, .int .i64 n, vB, .int .i64 t, .int .i64 nd, vV] 49)) := (Below.refl _ _).alloc (Nat.le_refl _) _
  have X := Blk.new w #[.int .i64 k, .int .i64 n, vB, .int .i64 t, .int .i64 nd, vV] 49
  have hX : ¬ WS p v w.heap.size := by
    rintro (e | e)
    · have := h.lt; omega
    · have := own_lt h.own e; omega
  have X0 := X.lt
  have H1 := h.below A
  have HP := Lib.hid hp
  obtain ⟨ba, bn, bc, rfl⟩ := hp.rB.shape
  obtain ⟨ua, un, uc, rfl⟩ := hp.rV.shape
  have KW := Lib.hid (wID p v l bad t nd _ H1 (by have := hp.len; omega))
  have KR := Lib.hid (fun w => refID t nd w)
  subst hk
  have X := Lib.hid X
  have hX := Lib.hid hX
  clear h hp H1 A
  go_enter Try.func24, Try.ntmps24
  go_wp2_with fail
  refine KW.out.mono ?_
  rintro e w1 ⟨rfl, hs⟩
  have X1 := hs.choose_spec.2.2.blk X.out hX.out
  have HSC := Lib.hid (hs.choose_spec.2.2)
  have HS := Lib.hid (WStep.box hs)
  have x0 := X1.cell (o := 0) rfl
  have x1 := X1.cell (o := 1) rfl
  have x2 := X1.cell (o := 2) rfl
  have x3 := X1.cell (o := 3) rfl
  have x4 := X1.cell (o := 4) rfl
  have x5 := X1.cell (o := 5) rfl
  have xz := X1.lt
  clear hs X1
  go_wp2_with fail
  refine (KR.out _).mono ?_
  rintro e w2 ⟨u, rfl, o2, b2⟩
  obtain ⟨a2, c2, rfl, _⟩ := own_shape o2
  have O2 := Lib.hid o2
  have B2 := Lib.hid b2
  clear o2 b2
  go_wp2
  go_ret2
  exact ⟨w1, _, rfl, HS.out, O2.out, B2.out⟩
set_option maxHeartbeats 4000000 in
set_option maxRecDepth 100000 in
theorem put3a (p : Nat) (v vB vV : Value) (bs vs : List Int) (l : List Int) (bad : Bool) (k n t nd : Int) (hk : k = 3 ∧ n.tmod 2 = 1) (w : World) (h : Wr w p v l bad) (hp : PutIn p v vB vV bs vs l w) (hn : -9223372036854775808 ≤ n ∧ n ≤ 9223372036854775807) : Calls Try.prog 24 #[.pointer (some ⟨p, 0, none⟩), .agg #[.int .i64 k, .int .i64 n, vB, .int .i64 t, .int .i64 nd, vV]] w (PutPost p v l bad (some (truthW true)) w) := by
  have A : Below w.heap.size w (w.alloc (.cells #[.int .i64 k, .int .i64 n, vB, .int .i64 t, .int .i64 nd, vV] 49)) := (Below.refl _ _).alloc (Nat.le_refl _) _
  have X := Blk.new w #[.int .i64 k, .int .i64 n, vB, .int .i64 t, .int .i64 nd, vV] 49
  have hX : ¬ WS p v w.heap.size := by
    rintro (e | e)
    · have := h.lt; omega
    · have := own_lt h.own e; omega
  have X0 := X.lt
  have H1 := h.below A
  have HP := Lib.hid hp
  obtain ⟨ba, bn, bc, rfl⟩ := hp.rB.shape
  obtain ⟨ua, un, uc, rfl⟩ := hp.rV.shape
  have KW := Lib.hid (wTruth p v l bad true _ H1 (by have := hp.len; omega))
  have KR := Lib.hid (fun w => refTruth true w)
  obtain ⟨rfl, hm⟩ := hk
  have X := Lib.hid X
  have hX := Lib.hid hX
  clear h hp H1 A
  go_enter Try.func24, Try.ntmps24
  go_wp2_with fail
  refine KW.out.mono ?_
  rintro e w1 ⟨rfl, hs⟩
  have X1 := hs.choose_spec.2.2.blk X.out hX.out
  have HSC := Lib.hid (hs.choose_spec.2.2)
  have HS := Lib.hid (WStep.box hs)
  have x0 := X1.cell (o := 0) rfl
  have x1 := X1.cell (o := 1) rfl
  have x2 := X1.cell (o := 2) rfl
  have x3 := X1.cell (o := 3) rfl
  have x4 := X1.cell (o := 4) rfl
  have x5 := X1.cell (o := 5) rfl
  have xz := X1.lt
  clear hs X1
  go_wp2_with fail
  refine (KR.out _).mono ?_
  rintro e w2 ⟨u, rfl, o2, b2⟩
  obtain ⟨a2, c2, rfl, _⟩ := own_shape o2
  have O2 := Lib.hid o2
  have B2 := Lib.hid b2
  clear o2 b2
  go_wp2
  go_ret2
  exact ⟨w1, _, rfl, HS.out, O2.out, B2.out⟩
set_option maxHeartbeats 4000000 in
set_option maxRecDepth 100000 in
theorem put3b (p : Nat) (v vB vV : Value) (bs vs : List Int) (l : List Int) (bad : Bool) (k n t nd : Int) (hk : k = 3 ∧ ¬ n.tmod 2 = 1) (w : World) (h : Wr w p v l bad) (hp : PutIn p v vB vV bs vs l w) (hn : -9223372036854775808 ≤ n ∧ n ≤ 9223372036854775807) : Calls Try.prog 24 #[.pointer (some ⟨p, 0, none⟩), .agg #[.int .i64 k, .int .i64 n, vB, .int .i64 t, .int .i64 nd, vV]] w (PutPost p v l bad (some (truthW false)) w) := by
  have A : Below w.heap.size w (w.alloc (.cells #[.int .i64 k, .int .i64 n, vB, .int .i64 t, .int .i64 nd, vV] 49)) := (Below.refl _ _).alloc (Nat.le_refl _) _
  have X := Blk.new w #[.int .i64 k, .int .i64 n, vB, .int .i64 t, .int .i64 nd, vV] 49
  have hX : ¬ WS p v w.heap.size := by
    rintro (e | e)
    · have := h.lt; omega
    · have := own_lt h.own e; omega
  have X0 := X.lt
  have H1 := h.below A
  have HP := Lib.hid hp
  obtain ⟨ba, bn, bc, rfl⟩ := hp.rB.shape
  obtain ⟨ua, un, uc, rfl⟩ := hp.rV.shape
  have KW := Lib.hid (wTruth p v l bad false _ H1 (by have := hp.len; omega))
  have KR := Lib.hid (fun w => refTruth false w)
  obtain ⟨rfl, hm⟩ := hk
  have hm2 : (n.tmod 2 == 1) = false := beq_false_of_ne hm
  clear hm
  have X := Lib.hid X
  have hX := Lib.hid hX
  clear h hp H1 A
  go_enter Try.func24, Try.ntmps24
  go_wp2_with fail
  refine KW.out.mono ?_
  rintro e w1 ⟨rfl, hs⟩
  have X1 := hs.choose_spec.2.2.blk X.out hX.out
  have HSC := Lib.hid (hs.choose_spec.2.2)
  have HS := Lib.hid (WStep.box hs)
  have x0 := X1.cell (o := 0) rfl
  have x1 := X1.cell (o := 1) rfl
  have x2 := X1.cell (o := 2) rfl
  have x3 := X1.cell (o := 3) rfl
  have x4 := X1.cell (o := 4) rfl
  have x5 := X1.cell (o := 5) rfl
  have xz := X1.lt
  clear hs X1
  go_wp2_with fail
  refine (KR.out _).mono ?_
  rintro e w2 ⟨u, rfl, o2, b2⟩
  obtain ⟨a2, c2, rfl, _⟩ := own_shape o2
  have O2 := Lib.hid o2
  have B2 := Lib.hid b2
  clear o2 b2
  go_wp2
  go_ret2
  exact ⟨w1, _, rfl, HS.out, O2.out, B2.out⟩
set_option maxHeartbeats 4000000 in
set_option maxRecDepth 100000 in
theorem put5 (p : Nat) (v vB vV : Value) (bs vs : List Int) (l : List Int) (bad : Bool) (k n t nd : Int) (hk : ¬ k = 0 ∧ ¬ k = 1 ∧ ¬ k = 2 ∧ ¬ k = 3 ∧ ¬ k = 4) (w : World) (h : Wr w p v l bad) (hp : PutIn p v vB vV bs vs l w) (hn : -9223372036854775808 ≤ n ∧ n ≤ 9223372036854775807) : Calls Try.prog 24 #[.pointer (some ⟨p, 0, none⟩), .agg #[.int .i64 k, .int .i64 n, vB, .int .i64 t, .int .i64 nd, vV]] w (PutPost p v l bad (vecW vs) w) := by
  have A : Below w.heap.size w (w.alloc (.cells #[.int .i64 k, .int .i64 n, vB, .int .i64 t, .int .i64 nd, vV] 49)) := (Below.refl _ _).alloc (Nat.le_refl _) _
  have X := Blk.new w #[.int .i64 k, .int .i64 n, vB, .int .i64 t, .int .i64 nd, vV] 49
  have hX : ¬ WS p v w.heap.size := by
    rintro (e | e)
    · have := h.lt; omega
    · have := own_lt h.own e; omega
  have X0 := X.lt
  have H1 := h.below A
  have HP := Lib.hid hp
  obtain ⟨ba, bn, bc, rfl⟩ := hp.rB.shape
  obtain ⟨ua, un, uc, rfl⟩ := hp.rV.shape
  have KW := Lib.hid (wVector p v l bad (.slice ua un uc) vs _ H1 (hp.rV.below A) hp.aV (fun b o n c e hn => Nat.lt_of_lt_of_le (hp.lV b o n c e hn) A.size) (by have := hp.len; omega))
  have KR := Lib.hid (fun w (h : Rdv i64c w (.slice ua un uc) vs) => refVector (.slice ua un uc) vs w h)
  have RV := Lib.hid (hp.rV.below A)
  obtain ⟨k0, k1, k2, k3, k4⟩ := hk
  have X := Lib.hid X
  have hX := Lib.hid hX
  clear h hp H1 A
  go_enter Try.func24, Try.ntmps24
  go_wp2_with fail
  refine KW.out.mono ?_
  rintro e w1 ⟨rfl, hs⟩
  have X1 := hs.choose_spec.2.2.blk X.out hX.out
  have HSC := Lib.hid (hs.choose_spec.2.2)
  have HS := Lib.hid (WStep.box hs)
  have x0 := X1.cell (o := 0) rfl
  have x1 := X1.cell (o := 1) rfl
  have x2 := X1.cell (o := 2) rfl
  have x3 := X1.cell (o := 3) rfl
  have x4 := X1.cell (o := 4) rfl
  have x5 := X1.cell (o := 5) rfl
  have xz := X1.lt
  clear hs X1
  go_wp2_with fail
  refine (KR.out _ (RV.out.apt HSC.out HP.out.aV)).mono ?_
  rintro e w2 ⟨u, rfl, o2, b2⟩
  obtain ⟨a2, c2, rfl, _⟩ := own_shape o2
  have O2 := Lib.hid o2
  have B2 := Lib.hid b2
  clear o2 b2
  go_wp2
  go_ret2
  exact ⟨w1, _, rfl, HS.out, O2.out, B2.out⟩
theorem lawPut (p : Nat) (v vB vV : Value) (bs vs : List Int) (l : List Int) (bad : Bool) (k n t nd : Int) (w : World) (h : Wr w p v l bad) (hp : PutIn p v vB vV bs vs l w) (hn : -9223372036854775808 ≤ n ∧ n ≤ 9223372036854775807) : Calls Try.prog 24 #[.pointer (some ⟨p, 0, none⟩), .agg #[.int .i64 k, .int .i64 n, vB, .int .i64 t, .int .i64 nd, vV]] w (PutPost p v l bad (itemW k n bs t nd vs) w) := by
  by_cases h0 : k = 0
  · have := put0 p v vB vV bs vs l bad k n t nd h0 w h hp hn
    unfold itemW; rwa [if_pos h0]
  by_cases h1 : k = 1
  · have := put1 p v vB vV bs vs l bad k n t nd h1 w h hp hn
    unfold itemW; rwa [if_neg h0, if_pos (.inl h1)]
  by_cases h2 : k = 2
  · have := put2 p v vB vV bs vs l bad k n t nd h2 w h hp hn
    unfold itemW; rwa [if_neg h0, if_pos (.inr h2)]
  by_cases h3 : k = 3
  · unfold itemW; rw [if_neg h0, if_neg (by rintro (e | e); exact h1 e; exact h2 e), if_pos h3]
    by_cases hm : n.tmod 2 = 1
    · have := put3a p v vB vV bs vs l bad k n t nd ⟨h3, hm⟩ w h hp hn
      unfold odd; rwa [decide_eq_true hm]
    · have := put3b p v vB vV bs vs l bad k n t nd ⟨h3, hm⟩ w h hp hn
      unfold odd; rwa [decide_eq_false hm]
  by_cases h4 : k = 4
  · have := put4 p v vB vV bs vs l bad k n t nd h4 w h hp hn
    unfold itemW; rwa [if_neg h0, if_neg (by rintro (e | e); exact h1 e; exact h2 e), if_neg h3, if_pos h4]
  have := put5 p v vB vV bs vs l bad k n t nd ⟨h0, h1, h2, h3, h4⟩ w h hp hn
  unfold itemW; rwa [if_neg h0, if_neg (by rintro (e | e); exact h1 e; exact h2 e), if_neg h3, if_neg h4]
end Go.Proofs.Ythbalmoafpggdaa

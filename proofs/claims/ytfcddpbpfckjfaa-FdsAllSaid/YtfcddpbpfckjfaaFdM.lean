/- FdsAll: the steps of the law. -/
import Derived.Test.YtfcddpbpfckjfaaChecked
import Derived.WalkKit
import Derived.Outline
import Derived.WalkSpells
import Derived.WalkLawsBesides
import Derived.Deep.QuietTactic
import Derived.Deep.RegionWith
import Derived.Deep.DeepMust
import Derived.BigQuiet
import Derived.Test.YtfcddpbpfckjfaaMem
import Derived.RegionTactic
import Derived.ChangeAlike
import Derived.StillTailTactics
import Derived.BigRegion
import Derived.BigGuardPart
import Derived.Deep.RegionHeld3
import Derived.Deep.RegionLaw
import Derived.Deep.DeepCutAuto
import Derived.Deep.CutBlock
import Derived.Test.YtfcddpbpfckjfaaFref
import Derived.Test.YtfcddpbpfckjfaaFdP
namespace Go.Proofs.Ytfcddpbpfckjfaa
open Go.RowKit
set_option linter.unusedVariables false
set_option linter.unusedSimpArgs false
theorem fSame (t n : Int) (w : World) : Calls Try.prog 22 #[.agg #[.int .i64 t, .int .i64 n], .agg #[.int .i64 t, .int .i64 n]] w fun e w' => e = .returned (.bool true) ∧ Below w.heap.size w w' := by
  go_enter Try.func22, Try.ntmps22
  go_wp2
  go_ret
  exact ⟨rfl, ((Below.refl _ _).alloc (Nat.le_refl _) _).alloc (by simp) _⟩
structure DOp where
  kind : Int
  fd : Int
  n : Int
  time : Int
  node : Int
def dopC (o : DOp) : List Value := [.int .i64 o.kind, .int .i64 o.fd, .int .i64 o.n, .int .i64 o.time, .int .i64 o.node]
def I64 (x : Int) : Prop := -9223372036854775808 ≤ x ∧ x ≤ 9223372036854775807
def DopsRd (W : World) (a : Option Addr) (os : List DOp) : Prop := ∀ i o, os[i]? = some o → I64 o.kind ∧ I64 o.fd ∧ I64 o.n ∧ ∃ b off, a = some ⟨b, off, none⟩ ∧ b < W.heap.size ∧ ∀ j u, (dopC o)[j]? = some u → W.cell? ⟨b, off + i * 5 + j, none⟩ = some u
structure LSt (w : World) (p q : Nat) (fs : List Fil) (xs : Array Int) (rs : List Fil) (wr : World) : Prop where
  tab : ∃ v cv, FdG wr p v cv fs xs
  ref : RTab wr q rs
  rel : FRL fs xs rs
  hq : w.heap.size ≤ q
  bel : Below w.heap.size w wr
def LRel (w : World) (p : Nat) (r : Value) (wr : World) : Prop := ∃ q fs xs rs, r = .pointer (some ⟨q, 0, none⟩) ∧ LSt w p q fs xs rs wr
theorem LSt.ne {w wr : World} {p q : Nat} {fs : List Fil} {xs : Array Int} {rs : List Fil} {v cv : Value} (h : LSt w p q fs xs rs wr) (g : FdG wr p v cv fs xs) : ¬ FdS p v cv q := by
  have hb := h.ref.blk
  rintro (e | e | e)
  · subst e; exact absurd (type_ne hb g.blk) (by decide)
  · obtain ⟨_, cur, h1⟩ := own_type g.own e
    exact absurd (type_ne h1 hb) (by decide)
  · obtain ⟨_, cur, h1⟩ := own_type g.cown e
    exact absurd (type_ne h1 hb) (by decide)
theorem LSt.below {w wr w' : World} {p q : Nat} {fs : List Fil} {xs : Array Int} {rs : List Fil} (h : LSt w p q fs xs rs wr) (g : Below wr.heap.size wr w') : LSt w p q fs xs rs w' := by
  obtain ⟨v, cv, h1⟩ := h.tab
  exact ⟨⟨v, cv, h1.below g⟩, h.ref.below g, h.rel, h.hq, h.bel.trans (g.mono h.bel.size)⟩
/-- The state with the round's own operation in block g. -/
structure CSt (w : World) (p q g : Nat) (cs : Array Value) (fs : List Fil) (xs : Array Int) (rs : List Fil) (wr : World) : Prop where
  st : LSt w p q fs xs rs wr
  op : Blk wr g cs 43
  hg : w.heap.size ≤ g
structure OMid (w : World) (p q g : Nat) (cs : Array Value) (fs : List Fil) (xs : Array Int) (rs : List Fil) (wr : World) : Prop where
  tab : ∃ v cv, FdG wr p v cv fs xs
  ref : RTab wr q rs
  op : Blk wr g cs 43
  hq : w.heap.size ≤ q
  hg : w.heap.size ≤ g
  bel : Below w.heap.size w wr
theorem CSt.below {w wr w' : World} {p q g : Nat} {cs : Array Value} {fs : List Fil} {xs : Array Int} {rs : List Fil} (h : CSt w p q g cs fs xs rs wr) (k : Below wr.heap.size wr w') : CSt w p q g cs fs xs rs w' :=
  ⟨h.st.below k, blkBelow k h.op h.op.lt, h.hg⟩
theorem CSt.gne {w wr : World} {p q g : Nat} {cs : Array Value} {fs : List Fil} {xs : Array Int} {rs : List Fil} {v cv : Value} (h : CSt w p q g cs fs xs rs wr) (k : FdG wr p v cv fs xs) : ¬ FdS p v cv g := by
  have hb := h.op
  rintro (e | e | e)
  · subst e; exact absurd (type_ne hb k.blk) (by decide)
  · obtain ⟨_, cur, h1⟩ := own_type k.own e
    exact absurd (type_ne h1 hb) (by decide)
  · obtain ⟨_, cur, h1⟩ := own_type k.cown e
    exact absurd (type_ne h1 hb) (by decide)
theorem CSt.qg {w wr : World} {p q g : Nat} {cs : Array Value} {fs : List Fil} {xs : Array Int} {rs : List Fil} (h : CSt w p q g cs fs xs rs wr) : g ≠ q := by
  rintro rfl
  exact absurd (type_ne h.op h.st.ref.blk) (by decide)
theorem own_le {w : World} {B e s : Nat} {v : Value} {n : Nat} {xs : List Value} (h : w.ownsRow B e s v n xs) {g : Nat} (hg : v.ownBlock = some g) : B ≤ g := (own_type h hg).1
theorem FdG.sle {w : World} {b k : Nat} {v cv : Value} {fs : List Fil} {xs : Array Int} (h : FdG w b v cv fs xs) (hk : FdS b v cv k) : b ≤ k := by
  rcases hk with e | e | e
  · omega
  · exact own_le h.own e
  · exact own_le h.cown e
/-- A call of the table's. -/
theorem CSt.call {w wr w' : World} {p q g : Nat} {cs : Array Value} {fs fs' : List Fil} {xs xs' : Array Int} {rs : List Fil} {v cv v' cv' : Value} (h : CSt w p q g cs fs xs rs wr) (hp : w.heap.size ≤ p) (k : FdG wr p v cv fs xs) (hc : Chg (FdS p v cv) wr w') (h' : FdG w' p v' cv' fs' xs') : OMid w p q g cs fs' xs' rs w' :=
  ⟨⟨v', cv', h'⟩, h.st.ref.chg hc (h.st.ne k), hc.blk h.op (h.gne k), h.st.hq, h.hg, h.st.bel.trans (hc.below h.st.bel.size (fun i hi e => by have := k.sle e; omega))⟩
theorem OMid.st {w wr : World} {p q g : Nat} {cs : Array Value} {fs : List Fil} {xs : Array Int} {rs : List Fil} (h : OMid w p q g cs fs xs rs wr) (hr : FRL fs xs rs) : CSt w p q g cs fs xs rs wr := ⟨⟨h.tab, h.ref, hr, h.hq, h.bel⟩, h.op, h.hg⟩
theorem OMid.qg {w wr : World} {p q g : Nat} {cs : Array Value} {fs : List Fil} {xs : Array Int} {rs : List Fil} (h : OMid w p q g cs fs xs rs wr) : g ≠ q := by
  rintro rfl
  exact absurd (type_ne h.op h.ref.blk) (by decide)
theorem OMid.below {w wr w' : World} {p q g : Nat} {cs : Array Value} {fs : List Fil} {xs : Array Int} {rs : List Fil} (h : OMid w p q g cs fs xs rs wr) (k : Below wr.heap.size wr w') : OMid w p q g cs fs xs rs w' := by
  obtain ⟨v, cv, h1⟩ := h.tab
  exact ⟨⟨v, cv, h1.below k⟩, h.ref.below k, blkBelow k h.op h.op.lt, h.hq, h.hg, h.bel.trans (k.mono h.bel.size)⟩
/-- A call of the reference's. -/
theorem OMid.call {w wr w' : World} {p q g : Nat} {cs : Array Value} {fs : List Fil} {xs : Array Int} {rs rs' : List Fil} (h : OMid w p q g cs fs xs rs wr) (hr : RTab w' q rs') (hc : Chg (· = q) wr w') (hf : FRL fs xs rs') : CSt w p q g cs fs xs rs' w' := by
  obtain ⟨v, cv, h1⟩ := h.tab
  have hb := h.ref.blk
  have n0 : p ≠ q := by
    rintro rfl
    exact absurd (type_ne hb h1.blk) (by decide)
  have n1 : v.ownBlock ≠ some q := by
    intro e
    obtain ⟨_, cur, h2⟩ := own_type h1.own e
    exact absurd (type_ne h2 hb) (by decide)
  have n2 : cv.ownBlock ≠ some q := by
    intro e
    obtain ⟨_, cur, h2⟩ := own_type h1.cown e
    exact absurd (type_ne h2 hb) (by decide)
  refine ⟨⟨⟨v, cv, h1.chg hc n0 (fun k e e' => n1 (by rw [e, e'])) (fun k e e' => n2 (by rw [e, e']))⟩, hr, hf, h.hq, h.bel.trans (hc.below h.bel.size (fun i hi e => by have := h.hq; omega))⟩, hc.blk h.op h.qg, h.hg⟩
def POpen (w : World) (p q g : Nat) (cs : Array Value) (fs : List Fil) (rs rs' : List Fil) (k r : Int) (e : Ending) (w' : World) : Prop := e = .returned (.tuple #[.int .i64 k, .int .i64 r]) ∧ ∃ xs, OMid w p q g cs fs xs rs w' ∧ FRL fs xs rs'
def QOpen (w : World) (p q g : Nat) (cs : Array Value) (k r : Int) (e : Ending) (w' : World) : Prop := e = .returned (.tuple #[.int .i64 k, .int .i64 r]) ∧ ∃ fs xs rs, CSt w p q g cs fs xs rs w'
theorem openBoth {w wr : World} {p q g : Nat} {cs : Array Value} {fs : List Fil} {xs : Array Int} {rs : List Fil} (h : CSt w p q g cs fs xs rs wr) (hp : w.heap.size ≤ p) (t n fl : Int) :
    ∃ k r fs' rs', Calls Try.prog 11 #[.pointer (some ⟨p, 0, none⟩), .agg #[.int .i64 t, .int .i64 n], .int .i64 fl] wr (POpen w p q g cs fs' rs rs' k r) ∧
      ∀ w4 xs', OMid w p q g cs fs' xs' rs w4 → FRL fs' xs' rs' → Calls Try.prog 20 #[.pointer (some ⟨q, 0, none⟩), .agg #[.int .i64 t, .int .i64 n], .int .i64 fl] w4 (QOpen w p q g cs k r) := by
  obtain ⟨v, cv, hG⟩ := h.st.tab
  have hF := h.st.rel
  have hs := hF.size
  have hle := hF.le
  by_cases hm : fs.countP (·.op) < 32
  · rcases Nat.eq_zero_or_pos xs.size with hx | hx
    · have hl : fs.length < 32 := by omega
      obtain ⟨f1, f2, f3⟩ := hF.new_ hx hl ⟨t, n, fl, 0, true⟩ rfl
      exact ⟨fs.length, 0, fs ++ [⟨t, n, fl, 0, true⟩], rs.set fs.length ⟨t, n, fl, 0, true⟩, (gOpenNew p v cv fs xs t n fl wr hG hx hl).mono fun e w' ⟨he, v', k1, k2⟩ => ⟨he, xs, h.call hp hG k2 k1, f1⟩,
        fun w4 xs' h4 hf4 => (rOpenAt q rs t n fl fs.length w4 h4.ref hl f2 f3).mono fun e w5 ⟨he, k1, k2⟩ => ⟨he, _, _, _, h4.call k1 (k2 _ rfl) hf4⟩⟩
    · obtain ⟨k, hk, e1, e2, e3⟩ := hF.old hx
      have key : ∀ ys, ((k : Int) :: ys.toList).Perm xs.toList → Hq.IsHeap ilt ys ys.size → FRL (fs.set k ⟨t, n, fl, 0, true⟩) ys (rs.set k ⟨t, n, fl, 0, true⟩) := fun ys y1 y2 => hF.reopen k hk e2 _ rfl y1 y2
      have hc : (rs.getD k zFil).op = false := by rw [hF.ops k hk]; exact e2
      exact ⟨k, 0, fs.set k ⟨t, n, fl, 0, true⟩, rs.set k ⟨t, n, fl, 0, true⟩, (gOpenOld p v cv fs xs t n fl wr hG _ hs (by omega) hx hm hF.heap k hk e1).mono fun e w' ⟨he, cv', ys, k1, k2, k3, k4, k5⟩ => ⟨he, ys, h.call hp hG k5 k1, key ys k3 k4⟩,
        fun w4 xs' h4 hf4 => (rOpenAt q rs t n fl k w4 h4.ref (by omega) e3 hc).mono fun e w5 ⟨he, k1, k2⟩ => ⟨he, _, _, _, h4.call k1 (k2 _ rfl) hf4⟩⟩
  · have hf := hF.full (by omega)
    exact ⟨0, 23, fs, rs, (gOpenFull p v cv fs xs t n fl wr hG _ hs (by omega) (by omega)).mono fun e w' ⟨he, k⟩ => ⟨he, xs, h.call hp hG (Chg.of_below (S := FdS p v cv) k (fun i hi hn => by omega)) (hG.below k), hF⟩,
      fun w4 xs' h4 hf4 => (rOpenFull q rs t n fl w4 h4.ref hf).mono fun e w5 ⟨he, k1, k2⟩ => ⟨he, _, _, _, h4.call k1 (k2 _ rfl) hf4⟩⟩
theorem FRL.is {fs : List Fil} {xs : Array Int} {rs : List Fil} (h : FRL fs xs rs) {fd : Int} (ho : rOpB rs fd = true) : ∃ k : Nat, ∃ hk : k < fs.length, fd = k ∧ k < 32 ∧ fs[k].op = true ∧ rs.getD k zFil = fs[k] := by
  unfold rOpB at ho
  simp only [Bool.and_eq_true, decide_eq_true_eq] at ho
  obtain ⟨⟨h0, h1⟩, h2⟩ := ho
  obtain ⟨k, rfl⟩ := Int.eq_ofNat_of_zero_le h0
  rw [Int.toNat_natCast] at h2
  obtain ⟨hk, h3, h4⟩ := h.open_ k h2
  exact ⟨k, hk, rfl, by omega, h3, h4⟩
theorem FRL.no {fs : List Fil} {xs : Array Int} {rs : List Fil} (h : FRL fs xs rs) {fd : Int} (ho : rOpB rs fd = false) : FdNo fs fd := by
  rcases Int.lt_or_le fd 0 with h0 | h0
  · exact .inl h0
  · obtain ⟨k, rfl⟩ := Int.eq_ofNat_of_zero_le h0
    rcases Nat.lt_or_ge k fs.length with hk | hk
    · refine .inr (.inr ⟨k, hk, rfl, ?_⟩)
      have := h.le
      unfold rOpB at ho
      rw [decide_eq_true (by omega), Bool.true_and, Int.toNat_natCast, h.ops k hk] at ho
      exact ho
    · exact .inr (.inl (by omega))
def PClose (w : World) (p q g : Nat) (cs : Array Value) (fs : List Fil) (rs : List Fil) (k : Nat) (e : Ending) (w' : World) : Prop := e = .returned (.int .i64 0) ∧ ∃ xs, OMid w p q g cs fs xs rs w' ∧ FRL fs xs (rs.set k {rs.getD k zFil with op := false})
theorem closeYes {w wr : World} {p q g : Nat} {cs : Array Value} {fs : List Fil} {xs : Array Int} {rs : List Fil} (h : CSt w p q g cs fs xs rs wr) (hp : w.heap.size ≤ p) (k : Nat) (hk : k < fs.length) (ho : fs[k].op = true) :
    Calls Try.prog 15 #[.pointer (some ⟨p, 0, none⟩), .int .i64 k] wr (PClose w p q g cs (fs.set k zFil) rs k) := by
  obtain ⟨v, cv, hG⟩ := h.st.tab
  have hF := h.st.rel
  have hs := hF.size
  have hle := hF.le
  exact (gClose p v cv fs xs wr hG k hk (by omega) ho hF.heap (by omega)).mono fun e w' ⟨he, cv', ys, k1, k2, k3, k4, k5⟩ => ⟨he, ys, h.call hp hG k5 k1, hF.close k hk ho _ rfl k3 k4⟩
def PSeek (w : World) (p q g : Nat) (cs : Array Value) (fs : List Fil) (rs : List Fil) (k : Nat) (n : Int) (e : Ending) (w' : World) : Prop := e = .returned (.int .i64 0) ∧ ∃ xs, OMid w p q g cs fs xs rs w' ∧ FRL fs xs (rs.set k {rs.getD k zFil with at_ := n})
theorem seekYes {w wr : World} {p q g : Nat} {cs : Array Value} {fs : List Fil} {xs : Array Int} {rs : List Fil} (h : CSt w p q g cs fs xs rs wr) (hp : w.heap.size ≤ p) (k : Nat) (hk : k < fs.length) (ho : fs[k].op = true) (n : Int) (h0 : 0 ≤ n) (h1 : n ≤ 1073741824) :
    Calls Try.prog 16 #[.pointer (some ⟨p, 0, none⟩), .int .i64 k, .int .i64 n] wr (PSeek w p q g cs (fs.set k {fs[k] with at_ := n}) rs k n) := by
  obtain ⟨v, cv, hG⟩ := h.st.tab
  have hF := h.st.rel
  have hle := hF.le
  exact (gSeek p v cv fs xs wr hG k hk (by omega) ho n h0 h1).mono fun e w' ⟨he, k1, k2⟩ => ⟨he, xs, h.call hp hG k2 k1, hF.seek k hk ho n⟩
def PClear (w : World) (p q g : Nat) (cs : Array Value) (rs : List Fil) (e : Ending) (w' : World) : Prop := e = .returned (.tuple #[]) ∧ OMid w p q g cs [] #[] rs w'
theorem clearC {w wr : World} {p q g : Nat} {cs : Array Value} {fs : List Fil} {xs : Array Int} {rs : List Fil} (h : CSt w p q g cs fs xs rs wr) (hp : w.heap.size ≤ p) :
    Calls Try.prog 21 #[.pointer (some ⟨p, 0, none⟩)] wr (PClear w p q g cs rs) := by
  obtain ⟨v, cv, hG⟩ := h.st.tab
  exact (gClear p v cv fs xs wr hG).mono fun e w' ⟨he, k1, k2⟩ => ⟨he, h.call hp hG k2 k1⟩
theorem OMid.fresh {w wr : World} {p q g : Nat} {cs : Array Value} {rs : List Fil} (h : OMid w p q g cs [] #[] rs wr) : CSt w p wr.heap.size g cs [] #[] (List.replicate 32 zFil) (wr.alloc (.cells (rrow (List.replicate 32 zFil)).toArray 41)) := by
  have h2 := h.below ((Below.refl _ _).alloc (Nat.le_refl _) (.cells (rrow (List.replicate 32 zFil)).toArray 41))
  exact ⟨⟨h2.tab, ⟨Blk.new _ _ _, by simp⟩, FRL.zero, h.bel.size, h2.bel⟩, h2.op, h2.hg⟩
/-- Calls that change nothing. -/
theorem closeNo {w wr : World} {p q g : Nat} {cs : Array Value} {fs : List Fil} {xs : Array Int} {rs : List Fil} (h : CSt w p q g cs fs xs rs wr) (fd : Int) (hb : I64 fd) (ho : rOpB rs fd = false) :
    Calls Try.prog 15 #[.pointer (some ⟨p, 0, none⟩), .int .i64 fd] wr fun e w' => e = .returned (.int .i64 9) ∧ CSt w p q g cs fs xs rs w' := by
  obtain ⟨v, cv, hG⟩ := h.st.tab
  have hle := h.st.rel.le
  exact (gCloseNo p v cv fs xs wr hG fd (by omega) hb (h.st.rel.no ho)).mono fun e w' ⟨he, k1⟩ => ⟨he, h.below k1.below⟩
theorem seekNo {w wr : World} {p q g : Nat} {cs : Array Value} {fs : List Fil} {xs : Array Int} {rs : List Fil} (h : CSt w p q g cs fs xs rs wr) (fd n : Int) (hb : I64 fd) (ho : rOpB rs fd = false) :
    Calls Try.prog 16 #[.pointer (some ⟨p, 0, none⟩), .int .i64 fd, .int .i64 n] wr fun e w' => e = .returned (.int .i64 9) ∧ CSt w p q g cs fs xs rs w' := by
  obtain ⟨v, cv, hG⟩ := h.st.tab
  have hle := h.st.rel.le
  exact (gSeekNo p v cv fs xs wr hG fd n (by omega) hb (h.st.rel.no ho)).mono fun e w' ⟨he, k1⟩ => ⟨he, h.below k1.below⟩
theorem seekBad {w wr : World} {p q g : Nat} {cs : Array Value} {fs : List Fil} {xs : Array Int} {rs : List Fil} (h : CSt w p q g cs fs xs rs wr) (k : Nat) (hk : k < fs.length) (ho : fs[k].op = true) (n r : Int) (ha : (n < 0 ∧ r = 22) ∨ (1073741824 < n ∧ r = 75)) :
    Calls Try.prog 16 #[.pointer (some ⟨p, 0, none⟩), .int .i64 k, .int .i64 n] wr fun e w' => e = .returned (.int .i64 r) ∧ CSt w p q g cs fs xs rs w' := by
  obtain ⟨v, cv, hG⟩ := h.st.tab
  have hle := h.st.rel.le
  exact (gSeekBad p v cv fs xs wr hG k hk (by omega) ho n r ha).mono fun e w' ⟨he, k1⟩ => ⟨he, h.below k1.below⟩
theorem getYes {w wr : World} {p q g : Nat} {cs : Array Value} {fs : List Fil} {xs : Array Int} {rs : List Fil} (h : CSt w p q g cs fs xs rs wr) (k : Nat) (hk : k < fs.length) (ho : fs[k].op = true) :
    Calls Try.prog 12 #[.pointer (some ⟨p, 0, none⟩), .int .i64 k] wr fun e w' => e = .returned (.tuple #[.agg #[.int .i64 fs[k].time, .int .i64 fs[k].node], .int .i64 fs[k].flags, .int .i64 fs[k].at_, .int .i64 0]) ∧ CSt w p q g cs fs xs rs w' := by
  obtain ⟨v, cv, hG⟩ := h.st.tab
  have hle := h.st.rel.le
  exact (gGetYes p v cv fs xs wr hG k hk (by omega) ho).mono fun e w' ⟨he, k1⟩ => ⟨he, h.below k1⟩
theorem getNo {w wr : World} {p q g : Nat} {cs : Array Value} {fs : List Fil} {xs : Array Int} {rs : List Fil} (h : CSt w p q g cs fs xs rs wr) (fd : Int) (hb : I64 fd) (ho : rOpB rs fd = false) :
    Calls Try.prog 12 #[.pointer (some ⟨p, 0, none⟩), .int .i64 fd] wr fun e w' => e = .returned (.tuple #[.agg #[.int .i64 0, .int .i64 0], .int .i64 0, .int .i64 0, .int .i64 9]) ∧ CSt w p q g cs fs xs rs w' := by
  obtain ⟨v, cv, hG⟩ := h.st.tab
  have hle := h.st.rel.le
  exact (gGetNo p v cv fs xs wr hG fd (by omega) hb (h.st.rel.no ho)).mono fun e w' ⟨he, k1⟩ => ⟨he, h.below k1⟩
theorem CSt.drew {w wr : World} {p q g : Nat} {cs : Array Value} {fs : List Fil} {xs : Array Int} {rs : List Fil} (h : CSt w p q g cs fs xs rs wr) : CSt w p q g cs fs xs rs wr.drew := h.below (Below.drew (Below.refl _ _))
theorem OMid.opOff {w wr : World} {p q g k : Nat} {cs : Array Value} {fs : List Fil} {xs : Array Int} {rs : List Fil} (h : OMid w p q g cs fs xs rs wr) (hk : k < 32) (hf : FRL fs xs (rs.set k {rs.getD k zFil with op := false})) : CSt w p q g cs fs xs (rs.set k {rs.getD k zFil with op := false}) (wr.setCell ⟨q, k * 5, none⟩ (.bool false)).drew :=
  (h.call (h.ref.setOp k hk false) (Chg.set (S := (· = q)) (Chg.refl _ _) (p := ⟨q, k * 5, none⟩) (fun _ => rfl) _) hf).drew
theorem OMid.seekTo {w wr : World} {p q g k : Nat} {cs : Array Value} {fs : List Fil} {xs : Array Int} {rs : List Fil} {n : Int} (h : OMid w p q g cs fs xs rs wr) (hk : k < 32) (hf : FRL fs xs (rs.set k {rs.getD k zFil with at_ := n})) : CSt w p q g cs fs xs (rs.set k {rs.getD k zFil with at_ := n}) (wr.setCell ⟨q, k * 5 + 4, none⟩ (.int .i64 n)).drew :=
  (h.call (h.ref.setAt k hk n) (Chg.set (S := (· = q)) (Chg.refl _ _) (p := ⟨q, k * 5 + 4, none⟩) (fun _ => rfl) _) hf).drew
theorem tLen {w wr : World} {p q g : Nat} {cs : Array Value} {fs : List Fil} {xs : Array Int} {rs : List Fil} (h : CSt w p q g cs fs xs rs wr) : Calls Try.prog 17 #[.pointer (some ⟨p, 0, none⟩)] wr fun e w' => e = .returned (.int .i64 (fs.countP (·.op))) ∧ Drw wr w' := by
  obtain ⟨v, cv, hG⟩ := h.st.tab
  exact gLen p v cv fs xs wr hG _ h.st.rel.size
theorem tRoom {w wr : World} {p q g : Nat} {cs : Array Value} {fs : List Fil} {xs : Array Int} {rs : List Fil} (h : CSt w p q g cs fs xs rs wr) : Calls Try.prog 18 #[.pointer (some ⟨p, 0, none⟩)] wr fun e w' => e = .returned (.bool (decide (fs.countP (·.op) < 32))) ∧ Drw wr w' := by
  obtain ⟨v, cv, hG⟩ := h.st.tab
  have := h.st.rel.le
  exact gRoom p v cv fs xs wr hG _ h.st.rel.size (by omega)
end Go.Proofs.Ytfcddpbpfckjfaa

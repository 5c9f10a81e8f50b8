/- Contracts of package codec: the writer. -/
import Derived.Test.YthbalmoafpggdaaChecked
import Derived.WalkKit
import Derived.Outline
import Derived.WalkSpells
import Derived.WalkLawsBesides
import Derived.Deep.QuietTactic
import Derived.Deep.RegionWith
import Derived.Deep.DeepMust
import Derived.BigQuiet
import Derived.Test.YthbalmoafpggdaaMem
import Derived.RegionTactic
import Derived.ChangeAlike
import Derived.StillTailTactics
import Derived.Deep.LoopGhost
import Derived.Laws.BitsAllLaws
import Derived.Test.YthbalmoafpggdaaCln
import Derived.Test.YthbalmoafpggdaaCdP
namespace Go.Proofs.Ythbalmoafpggdaa
open Go.RowKit
set_option linter.unusedVariables false
set_option linter.unusedSimpArgs false
/-- A writer at block p: its row's value, what it holds, whether it is bad. -/
structure Wr (w : World) (p : Nat) (v : Value) (l : List Int) (bad : Bool) : Prop where
  blk : Blk w p #[v, .bool bad] 95
  own : w.ownsRow 0 5 1 v l.length (l.map u8v)
  ne : v.ownBlock ≠ some p
/-- The blocks that a writer's call may turn. -/
def WS (p : Nat) (v : Value) : Nat → Prop := fun k => k = p ∨ v.ownBlock = some k
/-- The row is the old one, or new. -/
def Nxt (w : World) (v v' : Value) : Prop := v'.ownBlock = v.ownBlock ∨ ∀ k, v'.ownBlock = some k → w.heap.size ≤ k
theorem Nxt.refl (w : World) (v : Value) : Nxt w v v := .inl rfl
theorem Nxt.trans {w w' : World} {a b c : Value} (h : Nxt w a b) (k : Nxt w' b c) (hs : w.heap.size ≤ w'.heap.size) : Nxt w a c := by
  rcases k with k | k
  · rcases h with h | h
    · exact .inl (k.trans h)
    · exact .inr fun i hi => h i (k ▸ hi)
  · exact .inr fun i hi => Nat.le_trans hs (k i hi)
theorem WS.trans {w0 w1 w2 : World} {p : Nat} {v v1 : Value} (h : Chg (WS p v) w0 w1) (hn : Nxt w0 v v1) (k : Chg (WS p v1) w1 w2) : Chg (WS p v) w0 w2 :=
  h.trans' k fun i hi hs => by
    rcases hs with hs | hs
    · exact .inl hs
    · rcases hn with hn | hn
      · exact .inr (hn ▸ hs)
      · have := hn i hs; omega
def WStep (p : Nat) (v : Value) (w : World) (l' : List Int) (bad' : Bool) (w' : World) : Prop := ∃ v', Wr w' p v' l' bad' ∧ Nxt w v v' ∧ Chg (WS p v) w w'
theorem own_shape {w : World} {B e s : Nat} {v : Value} {n : Nat} {xs : List Value} (h : w.ownsRow B e s v n xs) : ∃ a c, v = .slice a n c ∧ n ≤ c ∧ c ≤ 9223372036854775807 ∧ (∀ x, a = some x → ∃ g, x = ⟨g, 0, none⟩) := by
  rcases h.2 with ⟨rfl, rfl⟩ | ⟨g, c, cur, rfl, _, _, h1, h2, _⟩
  · exact ⟨none, 0, rfl, Nat.le_refl _, by omega, fun x h => by cases h⟩
  · exact ⟨_, _, rfl, h1, by unfold maxLen at h2; omega, fun x h => by injection h with h; exact ⟨g, h.symm⟩⟩
theorem Wr.lt {w : World} {p : Nat} {v : Value} {l : List Int} {bad : Bool} (h : Wr w p v l bad) : p < w.heap.size := h.blk.lt
theorem Wr.rdv {w : World} {p : Nat} {v : Value} {l : List Int} {bad : Bool} (h : Wr w p v l bad) : Rdv u8v w v l := Rdv.of_owns h.own
theorem Wr.chg {S : Nat → Prop} {w w' : World} {p : Nat} {v : Value} {l : List Int} {bad : Bool} (h : Wr w p v l bad) (g : Chg S w w') (hp : ¬ S p) (hv : ∀ b, v.ownBlock = some b → ¬ S b) : Wr w' p v l bad :=
  ⟨g.blk h.blk hp, ownsRow_chg h.own g hv, h.ne⟩
theorem Wr.below {w w' : World} {p : Nat} {v : Value} {l : List Int} {bad : Bool} (h : Wr w p v l bad) (g : Below w.heap.size w w') : Wr w' p v l bad :=
  ⟨blkBelow g h.blk h.lt, ownsRow_below h.own g, h.ne⟩
theorem Wr.cast {w : World} {p : Nat} {v : Value} {l l' : List Int} {bad : Bool} (h : Wr w p v l bad) (e : l = l') : Wr w p v l' bad := e ▸ h
theorem Wr.setbad {w : World} {p : Nat} {v : Value} {l : List Int} {bad : Bool} (h : Wr w p v l bad) (q : Bool) : Wr (w.setCell ⟨p, 1, none⟩ (.bool q)) p v l q := by
  refine ⟨by have := h.blk.set 1 (.bool q); simpa using this, ?_, h.ne⟩
  exact ownsRow_chg (S := fun k => k = p) h.own (Chg.set (S := fun k => k = p) (Chg.refl _ _) (p := ⟨p, 1, none⟩) (fun _ => rfl) _) (fun b hb e => h.ne (e ▸ hb))
theorem wr_append {wr wr0 w1 : World} {p : Nat} {v v' : Value} {L s : List Int} {bad : Bool} (h : Wr wr p v L bad) (h0 : Chg (fun _ => False) wr wr0)
    (hown : w1.ownsRow 0 5 1 v' (L.length + s.length) (L.map u8v ++ s.map u8v)) (hg : wr0.grownBy w1 v.ownBlock) (hb : v'.ownBlock = v.ownBlock ∨ v'.ownBlock = some wr0.heap.size) :
    Wr (w1.setCell ⟨p, 0, none⟩ v') p v' (L ++ s) bad ∧ Nxt wr v v' ∧ Chg (WS p v) wr (w1.setCell ⟨p, 0, none⟩ v') := by
  have hlt := h.lt
  have hs0 := h0.size
  have C1 : Chg (WS p v) wr w1 := (h0.mono (fun _ _ hf => hf.elim)).grown hg (fun k hk _ => .inr hk)
  have hne : v'.ownBlock ≠ some p := by
    rcases hb with hb | hb
    · rw [hb]; exact h.ne
    · rw [hb]; intro e; injection e with e; omega
  have B0 : Blk w1 p #[v, .bool bad] 95 := by
    have := h0.blk h.blk (fun hf => hf)
    exact this.of_eq (hg.block p this.lt (fun e => h.ne e.symm))
  refine ⟨⟨?_, ?_, hne⟩, ?_, C1.set (fun _ => .inl rfl) _⟩
  · have := B0.set 0 v'
    simpa using this
  · have := ownsRow_chg (S := fun k => k = p) hown (Chg.set (S := fun k => k = p) (Chg.refl _ _) (p := ⟨p, 0, none⟩) (fun _ => rfl) v') (fun b hb' e => hne (e ▸ hb'))
    simpa using this
  · rcases hb with hb | hb
    · exact .inl hb
    · refine .inr fun k hk => ?_
      rw [hb] at hk
      injection hk with hk
      omega
theorem wr_cell_of {wr : World} {o : Obj} {w2 : World} {p : Nat} {v : Value} {l : List Int} {bad : Bool} (g : (wr.alloc o).grownBy w2 v.ownBlock) (h : Wr wr p v l bad) (_ : p < wr.heap.size) : w2.cell? ⟨p, 0, none⟩ = some v := by
  have : Blk w2 p #[v, .bool bad] 95 := (h.blk.alloc o).of_eq (g.block p (h.blk.alloc o).lt (fun e => h.ne e.symm))
  exact this.cell (o := 0) rfl
theorem wr_free_of {wr : World} {o : Obj} {w2 : World} {p : Nat} {v : Value} {l : List Int} {bad : Bool} (g : (wr.alloc o).grownBy w2 v.ownBlock) (h : Wr wr p v l bad) (_ : p < wr.heap.size) : w2.frozen? ⟨p, 0, none⟩ = false := by
  have : Blk w2 p #[v, .bool bad] 95 := (h.blk.alloc o).of_eq (g.block p (h.blk.alloc o).lt (fun e => h.ne e.symm))
  exact this.free 0
def MayPost (p : Nat) (v : Value) (l : List Int) (r bad' : Bool) (w : World) (e : Ending) (w' : World) : Prop := e = .returned (.bool r) ∧ Wr w' p v l bad' ∧ Chg (· = p) w w'
theorem wMay (p : Nat) (v : Value) (l : List Int) (bad ok : Bool) (w : World) (h : Wr w p v l bad) : Calls Try.prog 56 #[.pointer (some ⟨p, 0, none⟩), .bool ok] w (MayPost p v l (!bad && ok) (bad || !ok) w) := by
  have pc0 : w.cell? ⟨p, 0, none⟩ = some v := h.blk.cell (o := 0) rfl
  have pc1 : w.cell? ⟨p, 1, none⟩ = some (.bool bad) := h.blk.cell (o := 1) rfl
  have pf1 := h.blk.free 1
  have pz := h.lt
  have H := Lib.hid h
  clear h
  cases bad <;> cases ok
  all_goals
    go_enter Try.func56, Try.ntmps56
    go_wp2
    go_ret
    first
    | exact ⟨rfl, H.out, Chg.refl _ _⟩
    | exact ⟨rfl, H.out.setbad _, Chg.set (S := (· = p)) (Chg.refl _ _) (p := ⟨p, 1, none⟩) (fun _ => rfl) _⟩
theorem wMayNil (ok : Bool) (w : World) : Calls Try.prog 56 #[.pointer none, .bool ok] w fun e w' => e = .returned (.bool false) ∧ w = w' := by
  go_enter Try.func56, Try.ntmps56
  go_wp2
  go_ret
  exact ⟨rfl, rfl⟩
def WPost (p : Nat) (v : Value) (l' : List Int) (bad' : Bool) (w : World) (e : Ending) (w' : World) : Prop := e = .returned (.tuple #[]) ∧ WStep p v w l' bad' w'
theorem may_step {p : Nat} {v : Value} {l : List Int} {bad : Bool} {w w' : World} (h : Wr w' p v l bad) (g : Chg (· = p) w w') : WStep p v w l bad w' := ⟨v, h, Nxt.refl _ _, g.mono fun _ _ e => .inl e⟩
def DonePostW (l : List Int) (bad : Bool) (w : World) (e : Ending) (w' : World) : Prop :=
  if bad then e = .returned (.tuple #[.slice none 0 0, .int .i64 22]) ∧ w = w' else ∃ v, e = .returned (.tuple #[v, .int .i64 0]) ∧ w'.ownsRow w.heap.size 5 1 v l.length (l.map u8v) ∧ Below w.heap.size w w'
theorem wDone (p : Nat) (v : Value) (l : List Int) (bad : Bool) (w : World) (h : Wr w p v l bad) (hl : l.length ≤ 1000000000000) : Calls Try.prog 12 #[.pointer (some ⟨p, 0, none⟩)] w (DonePostW l bad w) := by
  have pc0 : w.cell? ⟨p, 0, none⟩ = some v := h.blk.cell (o := 0) rfl
  have pc1 : w.cell? ⟨p, 1, none⟩ = some (.bool bad) := h.blk.cell (o := 1) rfl
  have pf1 := h.blk.free 1
  have pz := h.lt
  have KC := Lib.hid (cloneC v l w h.rdv hl)
  clear h
  cases bad
  · go_enter Try.func12, Try.ntmps12
    go_wp2_with (go_at_call 57; refine KC.out.mono ?_; rintro e w1 ⟨v1, rfl, ho, hb⟩)
    go_ret2
    exact ⟨_, rfl, ho, hb⟩
  · go_enter Try.func12, Try.ntmps12
    go_wp2
    go_ret2
    exact ⟨rfl, rfl⟩
theorem wDoneNil (w : World) : Calls Try.prog 12 #[.pointer none] w fun e w' => e = .returned (.tuple #[.slice none 0 0, .int .i64 22]) ∧ w = w' := by
  go_enter Try.func12, Try.ntmps12
  go_wp2
  go_ret2
  exact ⟨rfl, rfl⟩
def NewWPost (w : World) (e : Ending) (w' : World) : Prop := ∃ p, e = .returned (.pointer (some ⟨p, 0, none⟩)) ∧ w.heap.size ≤ p ∧ Wr w' p (.slice none 0 0) [] false ∧ Below w.heap.size w w'
theorem wNew (w : World) : Calls Try.prog 14 #[] w (NewWPost w) := by
  go_enter Try.func14, Try.ntmps14
  go_wp2
  go_ret
  exact ⟨w.heap.size, rfl, Nat.le_refl _, ⟨Blk.new _ _ _, World.ownsRow_nil _ _ _ _, by simp [Value.ownBlock]⟩, (Below.refl _ _).alloc (Nat.le_refl _) _⟩
theorem or128 (m : Nat) : bits .or .u8 ((m : Int) % 256) 128 = ((m % 128 + 128 : Nat) : Int) := by
  have e : (m : Int) % 256 = ((m % 256 : Nat) : Int) := by omega
  have h : ∀ x, x < 256 → x ||| 128 = x % 128 + 128 := by decide +kernel
  have := u8_or_nat (m % 256) 128 (by omega) (by omega)
  rw [e, show (128 : Int) = ((128 : Nat) : Int) from rfl, this, h _ (by omega), show m % 256 % 128 = m % 128 by omega]
theorem byte_small (m : Nat) (h : m ≤ 127) : (m : Int) % 256 = (m : Int) := by omega
set_option maxHeartbeats 2000000 in
set_option maxRecDepth 100000 in
theorem wNumGood (p : Nat) (v : Value) (l : List Int) (n : Nat) (w : World) (h : Wr w p v l false) (hn : n ≤ 4611686018427387904) (hl : l.length ≤ 900000000000) : Calls Try.prog 11 #[.pointer (some ⟨p, 0, none⟩), .int .i64 n] w (WPost p v (l ++ numL n) false w) := by
  obtain ⟨i0, hi, hz0, hz1, hz2⟩ := info_parts Try.info5
  have KM := Lib.hid (wMay p v l false true w h)
  have hn0 : (0 : Int) ≤ n := by omega
  have hn1 : (n : Int) ≤ 4611686018427387904 := by omega
  clear h
  go_enter Try.func11, Try.ntmps11
  go_wp2_with fail
  refine KM.out.mono ?_
  rintro e w1 ⟨rfl, h1, g1⟩
  have H1 := Lib.hid (may_step h1 g1)
  clear h1 g1
  go_wp2_with fail
  go_loopw [1] (fun nv wr => ∃ m k out v', nv = .int .i64 (m : Nat) ∧ out ++ numF k m = numL n ∧ m < 128 ^ k ∧ 1 ≤ k ∧ k ≤ 9 ∧ Wr wr p v' (l ++ out) false ∧ Nxt w v v' ∧ Chg (WS p v) w wr) (fun nv _ => (intOf nv).toNat)
  case atStart =>
    obtain ⟨v', h1, h2, h3⟩ := H1.out
    exact ⟨n, 9, [], v', rfl, rfl, by omega, by omega, by omega, by simpa using h1, h2, h3⟩
  case round =>
    obtain ⟨m, k, out, v', rfl, hout, hmk, h1k, hk9, hW, hN, hC⟩ := hrel
    have hol : out.length ≤ 9 := by have := congrArg List.length hout; have := numL_len n; simp at *; omega
    have hm63 : m < 9223372036854775808 := Nat.lt_of_lt_of_le hmk (Nat.pow_le_pow_right (by omega) hk9)
    have pc0 : wr.cell? ⟨p, 0, none⟩ = some v' := hW.blk.cell (o := 0) rfl
    have pf0 := hW.blk.free 0
    have pz := hW.lt
    obtain ⟨L, hL⟩ : ∃ L, L = l ++ out := ⟨_, rfl⟩
    have HL := Lib.hid hL
    rw [← hL] at hW
    clear hL
    obtain ⟨va, vc, rfl, hv1, hv2, _⟩ := own_shape hW.own
    have hLl : L.length ≤ 900000000010 := by rw [HL.out]; simp; omega
    have hown := hW.own
    have HW := Lib.hid hW
    have HN := Lib.hid hN
    have HC := Lib.hid hC
    clear hW hN hC
    by_cases hm : 127 < m
    · obtain ⟨k, rfl⟩ : ∃ j, k = j + 1 := ⟨k - 1, by omega⟩
      have HO : Hid (out ++ (((m % 128 + 128 : Nat) : Int) :: numF k (m / 128)) = numL n) := Lib.hid (by rw [← hout, numF_step k m hm])
      have HK : Hid (m / 128 < 128 ^ k) := Lib.hid (by rw [Nat.div_lt_iff_lt_mul (by omega), ← Nat.pow_succ]; exact hmk)
      clear hout hmk
      go_wp2_with (at_builtin; refine wpList_append_own_at _ rfl _ _ 24 rfl 0 5 i0 (.int .u8 0) 1 1 Try.underlying24 hi hz0 hz1 hz2 rfl (by decide) _ _ _ rfl (hown.alloc _) ⟨wr.heap.size, 0, none⟩ 1 1 [.int .u8 (bits .or .u8 ((m : Int) % 256) 128)] rfl rfl ?c1 ?c2 ?c3 ?c4 ?c5 ?_)
      case c1 => exact cell_one_new _ _ _
      case c2 => intro u hu; simp at hu; subst hu; rfl
      case c3 => unfold maxLen; omega
      case c4 => omega
      case c5 => simp
      intro v2 w2 o2 g2 _ b2
      obtain ⟨q1, q2, q3⟩ := wr_append (s := [bits .or .u8 ((m : Int) % 256) 128]) HW.out ((Chg.refl _ _).alloc _) o2 g2 (by simpa using b2)
      have HW2 := Lib.hid q1
      have HN2 := Lib.hid q2
      have HC2 := Lib.hid q3
      obtain ⟨v2a, v2c, rfl, _⟩ := own_shape o2
      have pg : w2.cell? ⟨p, 0, none⟩ = some (.slice va L.length vc) := (wr_cell_of g2 HW.out pz)
      have pgf : w2.frozen? ⟨p, 0, none⟩ = false := wr_free_of g2 HW.out pz
      clear o2 g2 b2 q1 q2 q3 pc0 pf0 hown
      go_wp2
      go_roundw
      case rel => exact ⟨m / 128, k, out ++ [((m % 128 + 128 : Nat) : Int)], _, by go_num, by simpa using HO.out, HK.out, by rcases Nat.eq_zero_or_pos k with rfl | h; (have := HK.out; simp at this; omega); exact h, by omega, HW2.out.cast (by rw [or128, HL.out, List.append_assoc]), HN.out.trans HN2.out HC.out.size, WS.trans HC.out HN.out HC2.out⟩
      case measure => simp [intOf]; omega
    · have HO : Hid (out ++ [(m : Int)] = numL n) := Lib.hid (by rw [← hout, numF_small k m (by omega) h1k])
      have hb : (m : Int) % 256 = (m : Int) := by omega
      clear hout hmk
      go_wp2_with (at_builtin; refine wpList_append_own_at _ rfl _ _ 24 rfl 0 5 i0 (.int .u8 0) 1 1 Try.underlying24 hi hz0 hz1 hz2 rfl (by decide) _ _ _ rfl (hown.alloc _) ⟨wr.heap.size, 0, none⟩ 1 1 [.int .u8 (m : Int)] rfl rfl ?c1 ?c2 ?c3 ?c4 ?c5 ?_)
      case c1 => exact cell_one_new _ _ _
      case c2 => intro u hu; simp at hu; subst hu; rfl
      case c3 => unfold maxLen; omega
      case c4 => omega
      case c5 => simp
      intro v2 w2 o2 g2 _ b2
      obtain ⟨q1, q2, q3⟩ := wr_append (s := [(m : Int)]) HW.out ((Chg.refl _ _).alloc _) o2 g2 (by simpa using b2)
      have HW2 := Lib.hid q1
      have HN2 := Lib.hid q2
      have HC2 := Lib.hid q3
      obtain ⟨v2a, v2c, rfl, _⟩ := own_shape o2
      have pg : w2.cell? ⟨p, 0, none⟩ = some (.slice va L.length vc) := (wr_cell_of g2 HW.out pz)
      have pgf : w2.frozen? ⟨p, 0, none⟩ = false := wr_free_of g2 HW.out pz
      clear o2 g2 b2 q1 q2 q3 pc0 pf0 hown
      go_wp2
      go_end0
      exact ⟨rfl, _, HW2.out.cast (by rw [HL.out, List.append_assoc, HO.out]), HN.out.trans HN2.out HC.out.size, WS.trans HC.out HN.out HC2.out⟩
theorem numW_some {n : Int} {s : List Int} (h : numW n = some s) : 0 ≤ n ∧ n ≤ 4611686018427387904 ∧ s = numL n.toNat := by
  unfold numW at h
  split at h
  · next h1 => injection h with h; exact ⟨h1.1, h1.2, h.symm⟩
  · cases h
/-- What a writer holds behind a word. -/
def wadd (l : List Int) (bad : Bool) (o : Option (List Int)) : List Int := if bad then l else l ++ o.getD []
def wbad (bad : Bool) (o : Option (List Int)) : Bool := bad || o.isNone
set_option maxHeartbeats 1000000 in
set_option maxRecDepth 100000 in
theorem wNum (p : Nat) (v : Value) (l : List Int) (bad : Bool) (n : Int) (w : World) (h : Wr w p v l bad) (hn : -9223372036854775808 ≤ n ∧ n ≤ 9223372036854775807) (hl : l.length ≤ 900000000000) : Calls Try.prog 11 #[.pointer (some ⟨p, 0, none⟩), .int .i64 n] w (WPost p v (wadd l bad (numW n)) (wbad bad (numW n)) w) := by
  by_cases hok : 0 ≤ n ∧ n ≤ 4611686018427387904
  · obtain ⟨k, rfl⟩ := Int.eq_ofNat_of_zero_le hok.1
    have e : numW (k : Int) = some (numL k) := by unfold numW; rw [if_pos hok]; rfl
    rw [e]
    cases bad
    · exact wNumGood p v l k w h (by omega) hl
    · have KM := Lib.hid (wMay p v l true true w h)
      have hn0 : (0 : Int) ≤ k := hok.1
      have hn1 : (k : Int) ≤ 4611686018427387904 := hok.2
      clear h hn hok e
      go_enter Try.func11, Try.ntmps11
      go_wp2_with fail
      refine KM.out.mono ?_
      rintro e w1 ⟨rfl, h1, g1⟩
      have H1 := Lib.hid (may_step h1 g1)
      clear h1 g1
      go_wp2
      (first | go_end0 | refine bodyPost_ret (results_none rfl _ _ _) rfl ?_)
      exact ⟨rfl, H1.out⟩
  · have e : numW n = none := by unfold numW; rw [if_neg hok]
    rw [e]
    have KM := Lib.hid (wMay p v l bad false w h)
    clear h e
    by_cases h0 : 0 ≤ n
    · have h1 : decide (n ≤ 4611686018427387904) = false := decide_eq_false (by omega)
      clear hok
      cases bad
      all_goals
        go_enter Try.func11, Try.ntmps11
        go_wp2_with fail
        refine KM.out.mono ?_
        rintro e w1 ⟨rfl, h1, g1⟩
        have H1 := Lib.hid (may_step h1 g1)
        clear h1 g1
        go_wp2
        (first | go_end0 | refine bodyPost_ret (results_none rfl _ _ _) rfl ?_)
        exact ⟨rfl, by simpa [wadd, wbad] using H1.out⟩
    · have h1 : n < 0 := by omega
      clear hok h0
      cases bad
      all_goals
        go_enter Try.func11, Try.ntmps11
        go_wp2_with fail
        refine KM.out.mono ?_
        rintro e w1 ⟨rfl, h1, g1⟩
        have H1 := Lib.hid (may_step h1 g1)
        clear h1 g1
        go_wp2
        (first | go_end0 | refine bodyPost_ret (results_none rfl _ _ _) rfl ?_)
        exact ⟨rfl, by simpa [wadd, wbad] using H1.out⟩
theorem wNumNil (w : World) : Calls Try.prog 11 #[.pointer none, .int .i64 1] w fun e w' => e = .returned (.tuple #[]) ∧ w = w' := by
  have KM := Lib.hid (wMayNil true w)
  go_enter Try.func11, Try.ntmps11
  go_wp2_with fail
  refine KM.out.mono ?_
  rintro e w1 ⟨rfl, rfl⟩
  go_wp2
  (first | go_end0 | refine bodyPost_ret (results_none rfl _ _ _) rfl ?_)
  exact ⟨rfl, rfl⟩
end Go.Proofs.Ythbalmoafpggdaa

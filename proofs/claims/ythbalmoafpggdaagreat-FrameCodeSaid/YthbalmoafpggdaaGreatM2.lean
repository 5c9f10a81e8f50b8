/- Contracts of package codec: the writer. Contracts of package codec: the writer, continued. Contracts of package codec: the writer's IDs, vectors, texts. Contracts of package codec: the writer's vectors and texts. Contracts of package codec: the reader. -/
import Derived.Test.YthbalmoafpggdaaGreatChecked
import Derived.WalkKit
import Derived.Outline
import Derived.WalkSpells
import Derived.WalkLawsBesides
import Derived.Deep.QuietTactic
import Derived.Deep.RegionWith
import Derived.Deep.DeepMust
import Derived.BigQuiet
import Derived.RegionTactic
import Derived.ChangeAlike
import Derived.StillTailTactics
import Derived.Deep.LoopGhost
import Derived.Laws.BitsAllLaws
import Derived.Lib.ConvBytes
import Derived.Test.YthbalmoafpggdaaGreatM1
namespace Go.Proofs.YthbalmoafpggdaaGreat
open Go.RowKit
set_option linter.unusedVariables false
set_option linter.unusedSimpArgs false
/-- A writer at block p: its row's value, what it holds, whether it is bad. -/
structure Wr (w : World) (p : Nat) (v : Value) (l : List Int) (bad : Bool) : Prop where
  blk : Blk w p #[v, .bool bad] 93
  own : w.ownsRow 0 5 1 v l.length (l.map u8v)
  ne : v.ownBlock ≠ some p
/-- The blocks that a writer's call may turn. -/
def WS (p : Nat) (v : Value) : Nat → Prop := fun k => k = p ∨ v.ownBlock = some k
/-- The row is the old one, or new. -/
def Nxt (w : World) (v v' : Value) : Prop := v'.ownBlock = v.ownBlock ∨ ∀ k, v'.ownBlock = some k → w.heap.size ≤ k
theorem Nxt.refl (w : World) (v : Value) : Nxt w v v := .inl rfl
theorem Nxt.trans {w w' : World} {a b c : Value} (h : Nxt w a b) (k : Nxt w' b c) (hs : w.heap.size ≤ w'.heap.size) : Nxt w a c := by
  rcases k with k | k
  · rcases h with h | h
    · exact .inl (k.trans h)
    · exact .inr fun i hi => h i (k ▸ hi)
  · exact .inr fun i hi => Nat.le_trans hs (k i hi)
theorem WS.trans {w0 w1 w2 : World} {p : Nat} {v v1 : Value} (h : Chg (WS p v) w0 w1) (hn : Nxt w0 v v1) (k : Chg (WS p v1) w1 w2) : Chg (WS p v) w0 w2 :=
  h.trans' k fun i hi hs => by
    rcases hs with hs | hs
    · exact .inl hs
    · rcases hn with hn | hn
      · exact .inr (hn ▸ hs)
      · have := hn i hs; omega
def WStep (p : Nat) (v : Value) (w : World) (l' : List Int) (bad' : Bool) (w' : World) : Prop := ∃ v', Wr w' p v' l' bad' ∧ Nxt w v v' ∧ Chg (WS p v) w w'
theorem own_shape {w : World} {B e s : Nat} {v : Value} {n : Nat} {xs : List Value} (h : w.ownsRow B e s v n xs) : ∃ a c, v = .slice a n c ∧ n ≤ c ∧ c ≤ 9223372036854775807 ∧ (∀ x, a = some x → ∃ g, x = ⟨g, 0, none⟩) := by
  rcases h.2 with ⟨rfl, rfl⟩ | ⟨g, c, cur, rfl, _, _, h1, h2, _⟩
  · exact ⟨none, 0, rfl, Nat.le_refl _, by omega, fun x h => by cases h⟩
  · exact ⟨_, _, rfl, h1, by unfold maxLen at h2; omega, fun x h => by injection h with h; exact ⟨g, h.symm⟩⟩
theorem Wr.lt {w : World} {p : Nat} {v : Value} {l : List Int} {bad : Bool} (h : Wr w p v l bad) : p < w.heap.size := h.blk.lt
theorem Wr.rdv {w : World} {p : Nat} {v : Value} {l : List Int} {bad : Bool} (h : Wr w p v l bad) : Rdv u8v w v l := Rdv.of_owns h.own
theorem Wr.chg {S : Nat → Prop} {w w' : World} {p : Nat} {v : Value} {l : List Int} {bad : Bool} (h : Wr w p v l bad) (g : Chg S w w') (hp : ¬ S p) (hv : ∀ b, v.ownBlock = some b → ¬ S b) : Wr w' p v l bad :=
  ⟨g.blk h.blk hp, ownsRow_chg h.own g hv, h.ne⟩
theorem Wr.below {w w' : World} {p : Nat} {v : Value} {l : List Int} {bad : Bool} (h : Wr w p v l bad) (g : Below w.heap.size w w') : Wr w' p v l bad :=
  ⟨blkBelow g h.blk h.lt, ownsRow_below h.own g, h.ne⟩
theorem Wr.cast {w : World} {p : Nat} {v : Value} {l l' : List Int} {bad : Bool} (h : Wr w p v l bad) (e : l = l') : Wr w p v l' bad := e ▸ h
theorem Wr.setbad {w : World} {p : Nat} {v : Value} {l : List Int} {bad : Bool} (h : Wr w p v l bad) (q : Bool) : Wr (w.setCell ⟨p, 1, none⟩ (.bool q)) p v l q := by
  refine ⟨by have := h.blk.set 1 (.bool q); simpa using this, ?_, h.ne⟩
  exact ownsRow_chg (S := fun k => k = p) h.own (Chg.set (S := fun k => k = p) (Chg.refl _ _) (p := ⟨p, 1, none⟩) (fun _ => rfl) _) (fun b hb e => h.ne (e ▸ hb))
theorem wr_append {wr wr0 w1 : World} {p : Nat} {v v' : Value} {L s : List Int} {bad : Bool} (h : Wr wr p v L bad) (h0 : Chg (fun _ => False) wr wr0)
    (hown : w1.ownsRow 0 5 1 v' (L.length + s.length) (L.map u8v ++ s.map u8v)) (hg : wr0.grownBy w1 v.ownBlock) (hb : v'.ownBlock = v.ownBlock ∨ v'.ownBlock = some wr0.heap.size) :
    Wr (w1.setCell ⟨p, 0, none⟩ v') p v' (L ++ s) bad ∧ Nxt wr v v' ∧ Chg (WS p v) wr (w1.setCell ⟨p, 0, none⟩ v') := by
  have hlt := h.lt
  have hs0 := h0.size
  have C1 : Chg (WS p v) wr w1 := (h0.mono (fun _ _ hf => hf.elim)).grown hg (fun k hk _ => .inr hk)
  have hne : v'.ownBlock ≠ some p := by
    rcases hb with hb | hb
    · rw [hb]; exact h.ne
    · rw [hb]; intro e; injection e with e; omega
  have B0 : Blk w1 p #[v, .bool bad] 93 := by
    have := h0.blk h.blk (fun hf => hf)
    exact this.of_eq (hg.block p this.lt (fun e => h.ne e.symm))
  refine ⟨⟨?_, ?_, hne⟩, ?_, C1.set (fun _ => .inl rfl) _⟩
  · have := B0.set 0 v'
    simpa using this
  · have := ownsRow_chg (S := fun k => k = p) hown (Chg.set (S := fun k => k = p) (Chg.refl _ _) (p := ⟨p, 0, none⟩) (fun _ => rfl) v') (fun b hb' e => hne (e ▸ hb'))
    simpa using this
  · rcases hb with hb | hb
    · exact .inl hb
    · refine .inr fun k hk => ?_
      rw [hb] at hk
      injection hk with hk
      omega
theorem wr_cell_of {wr : World} {o : Obj} {w2 : World} {p : Nat} {v : Value} {l : List Int} {bad : Bool} (g : (wr.alloc o).grownBy w2 v.ownBlock) (h : Wr wr p v l bad) (_ : p < wr.heap.size) : w2.cell? ⟨p, 0, none⟩ = some v := by
  have : Blk w2 p #[v, .bool bad] 93 := (h.blk.alloc o).of_eq (g.block p (h.blk.alloc o).lt (fun e => h.ne e.symm))
  exact this.cell (o := 0) rfl
theorem wr_free_of {wr : World} {o : Obj} {w2 : World} {p : Nat} {v : Value} {l : List Int} {bad : Bool} (g : (wr.alloc o).grownBy w2 v.ownBlock) (h : Wr wr p v l bad) (_ : p < wr.heap.size) : w2.frozen? ⟨p, 0, none⟩ = false := by
  have : Blk w2 p #[v, .bool bad] 93 := (h.blk.alloc o).of_eq (g.block p (h.blk.alloc o).lt (fun e => h.ne e.symm))
  exact this.free 0
def MayPost (p : Nat) (v : Value) (l : List Int) (r bad' : Bool) (w : World) (e : Ending) (w' : World) : Prop := e = .returned (.bool r) ∧ Wr w' p v l bad' ∧ Chg (· = p) w w'
theorem wMay (p : Nat) (v : Value) (l : List Int) (bad ok : Bool) (w : World) (h : Wr w p v l bad) : Calls Tryz.prog 62 #[.pointer (some ⟨p, 0, none⟩), .bool ok] w (MayPost p v l (!bad && ok) (bad || !ok) w) := by
  have pc0 : w.cell? ⟨p, 0, none⟩ = some v := h.blk.cell (o := 0) rfl
  have pc1 : w.cell? ⟨p, 1, none⟩ = some (.bool bad) := h.blk.cell (o := 1) rfl
  have pf1 := h.blk.free 1
  have pz := h.lt
  have H := Lib.hid h
  clear h
  cases bad <;> cases ok
  all_goals
    go_enter Tryz.func62, Tryz.ntmps62
    go_wp2
    go_ret
    first
    | exact ⟨rfl, H.out, Chg.refl _ _⟩
    | exact ⟨rfl, H.out.setbad _, Chg.set (S := (· = p)) (Chg.refl _ _) (p := ⟨p, 1, none⟩) (fun _ => rfl) _⟩
theorem wMayNil (ok : Bool) (w : World) : Calls Tryz.prog 62 #[.pointer none, .bool ok] w fun e w' => e = .returned (.bool false) ∧ w = w' := by
  go_enter Tryz.func62, Tryz.ntmps62
  go_wp2
  go_ret
  exact ⟨rfl, rfl⟩
def WPost (p : Nat) (v : Value) (l' : List Int) (bad' : Bool) (w : World) (e : Ending) (w' : World) : Prop := e = .returned (.tuple #[]) ∧ WStep p v w l' bad' w'
theorem may_step {p : Nat} {v : Value} {l : List Int} {bad : Bool} {w w' : World} (h : Wr w' p v l bad) (g : Chg (· = p) w w') : WStep p v w l bad w' := ⟨v, h, Nxt.refl _ _, g.mono fun _ _ e => .inl e⟩
def DonePostW (l : List Int) (bad : Bool) (w : World) (e : Ending) (w' : World) : Prop :=
  if bad then e = .returned (.tuple #[.slice none 0 0, .int .i64 22]) ∧ w = w' else ∃ v, e = .returned (.tuple #[v, .int .i64 0]) ∧ w'.ownsRow w.heap.size 5 1 v l.length (l.map u8v) ∧ Below w.heap.size w w'
theorem wDone (p : Nat) (v : Value) (l : List Int) (bad : Bool) (w : World) (h : Wr w p v l bad) (hl : l.length ≤ 1000000000000) : Calls Tryz.prog 28 #[.pointer (some ⟨p, 0, none⟩)] w (DonePostW l bad w) := by
  have pc0 : w.cell? ⟨p, 0, none⟩ = some v := h.blk.cell (o := 0) rfl
  have pc1 : w.cell? ⟨p, 1, none⟩ = some (.bool bad) := h.blk.cell (o := 1) rfl
  have pf1 := h.blk.free 1
  have pz := h.lt
  have KC := Lib.hid (cloneC v l w h.rdv hl)
  clear h
  cases bad
  · go_enter Tryz.func28, Tryz.ntmps28
    go_wp2_with (go_at_call 66; refine KC.out.mono ?_; rintro e w1 ⟨v1, rfl, ho, hb⟩)
    go_ret2
    exact ⟨_, rfl, ho, hb⟩
  · go_enter Tryz.func28, Tryz.ntmps28
    go_wp2
    go_ret2
    exact ⟨rfl, rfl⟩
theorem wDoneNil (w : World) : Calls Tryz.prog 28 #[.pointer none] w fun e w' => e = .returned (.tuple #[.slice none 0 0, .int .i64 22]) ∧ w = w' := by
  go_enter Tryz.func28, Tryz.ntmps28
  go_wp2
  go_ret2
  exact ⟨rfl, rfl⟩
def NewWPost (w : World) (e : Ending) (w' : World) : Prop := ∃ p, e = .returned (.pointer (some ⟨p, 0, none⟩)) ∧ w.heap.size ≤ p ∧ Wr w' p (.slice none 0 0) [] false ∧ Below w.heap.size w w'
theorem wNew (w : World) : Calls Tryz.prog 24 #[] w (NewWPost w) := by
  go_enter Tryz.func24, Tryz.ntmps24
  go_wp2
  go_ret
  exact ⟨w.heap.size, rfl, Nat.le_refl _, ⟨Blk.new _ _ _, World.ownsRow_nil _ _ _ _, by simp [Value.ownBlock]⟩, (Below.refl _ _).alloc (Nat.le_refl _) _⟩
theorem or128 (m : Nat) : bits .or .u8 ((m : Int) % 256) 128 = ((m % 128 + 128 : Nat) : Int) := by
  have e : (m : Int) % 256 = ((m % 256 : Nat) : Int) := by omega
  have h : ∀ x, x < 256 → x ||| 128 = x % 128 + 128 := by decide +kernel
  have := u8_or_nat (m % 256) 128 (by omega) (by omega)
  rw [e, show (128 : Int) = ((128 : Nat) : Int) from rfl, this, h _ (by omega), show m % 256 % 128 = m % 128 by omega]
theorem byte_small (m : Nat) (h : m ≤ 127) : (m : Int) % 256 = (m : Int) := by omega
set_option maxHeartbeats 2000000 in
set_option maxRecDepth 100000 in
theorem wNumGood (p : Nat) (v : Value) (l : List Int) (n : Nat) (w : World) (h : Wr w p v l false) (hn : n ≤ 4611686018427387904) (hl : l.length ≤ 900000000000) : Calls Tryz.prog 25 #[.pointer (some ⟨p, 0, none⟩), .int .i64 n] w (WPost p v (l ++ numL n) false w) := by
  obtain ⟨i0, hi, hz0, hz1, hz2⟩ := info_parts Tryz.info5
  have KM := Lib.hid (wMay p v l false true w h)
  have hn0 : (0 : Int) ≤ n := by omega
  have hn1 : (n : Int) ≤ 4611686018427387904 := by omega
  clear h
  go_enter Tryz.func25, Tryz.ntmps25
  go_wp2_with fail
  refine KM.out.mono ?_
  rintro e w1 ⟨rfl, h1, g1⟩
  have H1 := Lib.hid (may_step h1 g1)
  clear h1 g1
  go_wp2_with fail
  go_loopw [1] (fun nv wr => ∃ m k out v', nv = .int .i64 (m : Nat) ∧ out ++ numF k m = numL n ∧ m < 128 ^ k ∧ 1 ≤ k ∧ k ≤ 9 ∧ Wr wr p v' (l ++ out) false ∧ Nxt w v v' ∧ Chg (WS p v) w wr) (fun nv _ => (intOf nv).toNat)
  case atStart =>
    obtain ⟨v', h1, h2, h3⟩ := H1.out
    exact ⟨n, 9, [], v', rfl, rfl, by omega, by omega, by omega, by simpa using h1, h2, h3⟩
  case round =>
    obtain ⟨m, k, out, v', rfl, hout, hmk, h1k, hk9, hW, hN, hC⟩ := hrel
    have hol : out.length ≤ 9 := by have := congrArg List.length hout; have := numL_len n; simp at *; omega
    have hm63 : m < 9223372036854775808 := Nat.lt_of_lt_of_le hmk (Nat.pow_le_pow_right (by omega) hk9)
    have pc0 : wr.cell? ⟨p, 0, none⟩ = some v' := hW.blk.cell (o := 0) rfl
    have pf0 := hW.blk.free 0
    have pz := hW.lt
    obtain ⟨L, hL⟩ : ∃ L, L = l ++ out := ⟨_, rfl⟩
    have HL := Lib.hid hL
    rw [← hL] at hW
    clear hL
    obtain ⟨va, vc, rfl, hv1, hv2, _⟩ := own_shape hW.own
    have hLl : L.length ≤ 900000000010 := by rw [HL.out]; simp; omega
    have hown := hW.own
    have HW := Lib.hid hW
    have HN := Lib.hid hN
    have HC := Lib.hid hC
    clear hW hN hC
    by_cases hm : 127 < m
    · obtain ⟨k, rfl⟩ : ∃ j, k = j + 1 := ⟨k - 1, by omega⟩
      have HO : Hid (out ++ (((m % 128 + 128 : Nat) : Int) :: numF k (m / 128)) = numL n) := Lib.hid (by rw [← hout, numF_step k m hm])
      have HK : Hid (m / 128 < 128 ^ k) := Lib.hid (by rw [Nat.div_lt_iff_lt_mul (by omega), ← Nat.pow_succ]; exact hmk)
      clear hout hmk
      go_wp2_with (at_builtin; refine wpList_append_own_at _ rfl _ _ 30 rfl 0 5 i0 (.int .u8 0) 1 1 Tryz.underlying30 hi hz0 hz1 hz2 rfl (by decide) _ _ _ rfl (hown.alloc _) ⟨wr.heap.size, 0, none⟩ 1 1 [.int .u8 (bits .or .u8 ((m : Int) % 256) 128)] rfl rfl ?c1 ?c2 ?c3 ?c4 ?c5 ?_)
      case c1 => exact cell_one_new _ _ _
      case c2 => intro u hu; simp at hu; subst hu; rfl
      case c3 => unfold maxLen; omega
      case c4 => omega
      case c5 => simp
      intro v2 w2 o2 g2 _ b2
      obtain ⟨q1, q2, q3⟩ := wr_append (s := [bits .or .u8 ((m : Int) % 256) 128]) HW.out ((Chg.refl _ _).alloc _) o2 g2 (by simpa using b2)
      have HW2 := Lib.hid q1
      have HN2 := Lib.hid q2
      have HC2 := Lib.hid q3
      obtain ⟨v2a, v2c, rfl, _⟩ := own_shape o2
      have pg : w2.cell? ⟨p, 0, none⟩ = some (.slice va L.length vc) := (wr_cell_of g2 HW.out pz)
      have pgf : w2.frozen? ⟨p, 0, none⟩ = false := wr_free_of g2 HW.out pz
      clear o2 g2 b2 q1 q2 q3 pc0 pf0 hown
      go_wp2
      go_roundw
      case rel => exact ⟨m / 128, k, out ++ [((m % 128 + 128 : Nat) : Int)], _, by go_num, by simpa using HO.out, HK.out, by rcases Nat.eq_zero_or_pos k with rfl | h; (have := HK.out; simp at this; omega); exact h, by omega, HW2.out.cast (by rw [or128, HL.out, List.append_assoc]), HN.out.trans HN2.out HC.out.size, WS.trans HC.out HN.out HC2.out⟩
      case measure => simp [intOf]; omega
    · have HO : Hid (out ++ [(m : Int)] = numL n) := Lib.hid (by rw [← hout, numF_small k m (by omega) h1k])
      have hb : (m : Int) % 256 = (m : Int) := by omega
      clear hout hmk
      go_wp2_with (at_builtin; refine wpList_append_own_at _ rfl _ _ 30 rfl 0 5 i0 (.int .u8 0) 1 1 Tryz.underlying30 hi hz0 hz1 hz2 rfl (by decide) _ _ _ rfl (hown.alloc _) ⟨wr.heap.size, 0, none⟩ 1 1 [.int .u8 (m : Int)] rfl rfl ?c1 ?c2 ?c3 ?c4 ?c5 ?_)
      case c1 => exact cell_one_new _ _ _
      case c2 => intro u hu; simp at hu; subst hu; rfl
      case c3 => unfold maxLen; omega
      case c4 => omega
      case c5 => simp
      intro v2 w2 o2 g2 _ b2
      obtain ⟨q1, q2, q3⟩ := wr_append (s := [(m : Int)]) HW.out ((Chg.refl _ _).alloc _) o2 g2 (by simpa using b2)
      have HW2 := Lib.hid q1
      have HN2 := Lib.hid q2
      have HC2 := Lib.hid q3
      obtain ⟨v2a, v2c, rfl, _⟩ := own_shape o2
      have pg : w2.cell? ⟨p, 0, none⟩ = some (.slice va L.length vc) := (wr_cell_of g2 HW.out pz)
      have pgf : w2.frozen? ⟨p, 0, none⟩ = false := wr_free_of g2 HW.out pz
      clear o2 g2 b2 q1 q2 q3 pc0 pf0 hown
      go_wp2
      go_end0
      exact ⟨rfl, _, HW2.out.cast (by rw [HL.out, List.append_assoc, HO.out]), HN.out.trans HN2.out HC.out.size, WS.trans HC.out HN.out HC2.out⟩
theorem numW_some {n : Int} {s : List Int} (h : numW n = some s) : 0 ≤ n ∧ n ≤ 4611686018427387904 ∧ s = numL n.toNat := by
  unfold numW at h
  split at h
  · next h1 => injection h with h; exact ⟨h1.1, h1.2, h.symm⟩
  · cases h
/-- What a writer holds behind a word. -/
def wadd (l : List Int) (bad : Bool) (o : Option (List Int)) : List Int := if bad then l else l ++ o.getD []
def wbad (bad : Bool) (o : Option (List Int)) : Bool := bad || o.isNone
set_option maxHeartbeats 1000000 in
set_option maxRecDepth 100000 in
theorem wNum (p : Nat) (v : Value) (l : List Int) (bad : Bool) (n : Int) (w : World) (h : Wr w p v l bad) (hn : -9223372036854775808 ≤ n ∧ n ≤ 9223372036854775807) (hl : l.length ≤ 900000000000) : Calls Tryz.prog 25 #[.pointer (some ⟨p, 0, none⟩), .int .i64 n] w (WPost p v (wadd l bad (numW n)) (wbad bad (numW n)) w) := by
  by_cases hok : 0 ≤ n ∧ n ≤ 4611686018427387904
  · obtain ⟨k, rfl⟩ := Int.eq_ofNat_of_zero_le hok.1
    have e : numW (k : Int) = some (numL k) := by unfold numW; rw [if_pos hok]; rfl
    rw [e]
    cases bad
    · exact wNumGood p v l k w h (by omega) hl
    · have KM := Lib.hid (wMay p v l true true w h)
      have hn0 : (0 : Int) ≤ k := hok.1
      have hn1 : (k : Int) ≤ 4611686018427387904 := hok.2
      clear h hn hok e
      go_enter Tryz.func25, Tryz.ntmps25
      go_wp2_with fail
      refine KM.out.mono ?_
      rintro e w1 ⟨rfl, h1, g1⟩
      have H1 := Lib.hid (may_step h1 g1)
      clear h1 g1
      go_wp2
      (first | go_end0 | refine bodyPost_ret (results_none rfl _ _ _) rfl ?_)
      exact ⟨rfl, H1.out⟩
  · have e : numW n = none := by unfold numW; rw [if_neg hok]
    rw [e]
    have KM := Lib.hid (wMay p v l bad false w h)
    clear h e
    by_cases h0 : 0 ≤ n
    · have h1 : decide (n ≤ 4611686018427387904) = false := decide_eq_false (by omega)
      clear hok
      cases bad
      all_goals
        go_enter Tryz.func25, Tryz.ntmps25
        go_wp2_with fail
        refine KM.out.mono ?_
        rintro e w1 ⟨rfl, h1, g1⟩
        have H1 := Lib.hid (may_step h1 g1)
        clear h1 g1
        go_wp2
        (first | go_end0 | refine bodyPost_ret (results_none rfl _ _ _) rfl ?_)
        exact ⟨rfl, by simpa [wadd, wbad] using H1.out⟩
    · have h1 : n < 0 := by omega
      clear hok h0
      cases bad
      all_goals
        go_enter Tryz.func25, Tryz.ntmps25
        go_wp2_with fail
        refine KM.out.mono ?_
        rintro e w1 ⟨rfl, h1, g1⟩
        have H1 := Lib.hid (may_step h1 g1)
        clear h1 g1
        go_wp2
        (first | go_end0 | refine bodyPost_ret (results_none rfl _ _ _) rfl ?_)
        exact ⟨rfl, by simpa [wadd, wbad] using H1.out⟩
theorem wNumNil (w : World) : Calls Tryz.prog 25 #[.pointer none, .int .i64 1] w fun e w' => e = .returned (.tuple #[]) ∧ w = w' := by
  have KM := Lib.hid (wMayNil true w)
  go_enter Tryz.func25, Tryz.ntmps25
  go_wp2_with fail
  refine KM.out.mono ?_
  rintro e w1 ⟨rfl, rfl⟩
  go_wp2
  (first | go_end0 | refine bodyPost_ret (results_none rfl _ _ _) rfl ?_)
  exact ⟨rfl, rfl⟩
end Go.Proofs.YthbalmoafpggdaaGreat
namespace Go.Proofs.YthbalmoafpggdaaGreat
open Go.RowKit
set_option linter.unusedVariables false
set_option linter.unusedSimpArgs false
/-- A slice's block is none of the writer's. -/
def Apt (x : Value) (p : Nat) (v : Value) : Prop := ∀ b o n c, x = .slice (some ⟨b, o, none⟩) n c → 0 < n → b ≠ p ∧ v.ownBlock ≠ some b
theorem Apt.nxt {x : Value} {p : Nat} {v v' : Value} {w : World} (h : Apt x p v) (hn : Nxt w v v') (hx : ∀ b o n c, x = .slice (some ⟨b, o, none⟩) n c → 0 < n → b < w.heap.size) : Apt x p v' := by
  intro b o n c e h0
  have h1 := h b o n c e h0
  refine ⟨h1.1, fun e2 => ?_⟩
  rcases hn with hn | hn
  · exact h1.2 (hn ▸ e2)
  · have := hn b e2; have := hx b o n c e h0; omega
theorem Rdv.apt {enc : Int → Value} {w w' : World} {x : Value} {xs : List Int} {p : Nat} {v : Value} (h : Rdv enc w x xs) (g : Chg (WS p v) w w') (ha : Apt x p v) : Rdv enc w' x xs := by
  by_cases h0 : xs = []
  · obtain ⟨a, c, e, h1, h2, _⟩ := h
    exact ⟨a, c, e, h1, h2, .inl h0⟩
  · have hp : 0 < xs.length := List.length_pos_iff.2 h0
    refine h.chg g fun b o n c e hs => ?_
    have hn : 0 < n := by
      obtain ⟨a, c', e', _⟩ := h
      rw [e', Value.slice.injEq] at e
      omega
    rcases hs with hs | hs
    · exact (ha b o n c e hn).1 hs
    · exact (ha b o n c e hn).2 hs
theorem wadd_bad (l : List Int) (o : Option (List Int)) : wadd l true o = l := rfl
set_option maxHeartbeats 2000000 in
set_option maxRecDepth 100000 in
theorem wBytes (p : Nat) (v : Value) (l : List Int) (bad : Bool) (x : Value) (xs : List Int) (w : World) (h : Wr w p v l bad) (hx : Rdv u8v w x xs) (ha : Apt x p v) (hlt : ∀ b o n c, x = .slice (some ⟨b, o, none⟩) n c → 0 < n → b < w.heap.size) (hl : l.length ≤ 800000000000) : Calls Tryz.prog 69 #[.pointer (some ⟨p, 0, none⟩), x] w (WPost p v (wadd l bad (bytesW xs)) (wbad bad (bytesW xs)) w) := by
  obtain ⟨i0, hi, hz0, hz1, hz2⟩ := info_parts Tryz.info5
  obtain ⟨xa, xn, xc, rfl⟩ := hx.shape
  obtain ⟨rfl, h1, h2, h3⟩ := hx.cap
  unfold maxLen at h2
  by_cases hlen : xs.length ≤ 65536
  · have KM := Lib.hid (wMay p v l bad true w h)
    have hle : decide ((xs.length : Int) ≤ 65536) = true := decide_eq_true (by omega)
    have hb : bytesW xs = some (numL xs.length ++ xs) := by unfold bytesW; rw [if_pos hlen]
    have HB := Lib.hid hb
    have HX := Lib.hid hx
    clear h h3 hb hx
    cases bad
    · go_enter Tryz.func69, Tryz.ntmps69
      go_wp2_with fail
      refine KM.out.mono ?_
      rintro e w1 ⟨rfl, hw1, g1⟩
      have KN := Lib.hid (wNumGood p v l xs.length w1 (by simpa using hw1) (by omega) (by omega))
      have G1 : Hid (Chg (WS p v) w w1) := Lib.hid (g1.mono fun _ _ e => .inl e)
      clear hw1 g1
      go_wp2_with fail
      refine KN.out.mono ?_
      rintro e w2 ⟨rfl, v2, hw2, n2, g2⟩
      have hx2 := Lib.hid (HX.out.apt (G1.out.trans g2) ha)
      have hll : (l ++ numL xs.length).length ≤ 800000000010 := by have := numL_len xs.length; simp; omega
      have N2 := Lib.hid n2
      have G2 := Lib.hid (WS.trans G1.out (Nxt.refl _ _) g2)
      have N2' := Lib.hid ((Nxt.refl w v).trans n2 G1.out.size)
      clear n2 g2
      obtain ⟨L, hL⟩ : ∃ L, L = l ++ numL xs.length := ⟨_, rfl⟩
      rw [← hL] at hll hw2
      have HL := Lib.hid hL
      clear hL
      obtain ⟨va, vc, rfl, hv1, hv2, _⟩ := own_shape hw2.own
      have pc0 : w2.cell? ⟨p, 0, none⟩ = some (.slice va L.length vc) := hw2.blk.cell (o := 0) rfl
      have pf0 := hw2.blk.free 0
      have pz := hw2.lt
      have hown := hw2.own
      have HW := Lib.hid hw2
      clear hw2
      go_wp2_with (at_builtin; refine wpList_append_rd rfl _ _ 30 rfl 0 5 i0 (.int .u8 0) 1 Tryz.underlying30 hi hz0 hz1 hz2 rfl _ _ _ rfl hown (.slice xa xs.length xc) u8v xs rfl hx2.out (fun _ => rfl) ?c1 ?c2 ?c3 ?_)
      case c1 => unfold maxLen; omega
      case c2 => omega
      case c3 => omega
      intro v3 w3 o3 g3 b3
      obtain ⟨q1, q2, q3⟩ := wr_append (s := xs) HW.out (Chg.refl _ _) o3 g3 b3
      have HW3 := Lib.hid q1
      have HN3 := Lib.hid q2
      have HC3 := Lib.hid q3
      obtain ⟨v3a, v3c, rfl, _⟩ := own_shape o3
      have B3 : Blk w3 p #[.slice va L.length vc, .bool false] 93 := HW.out.blk.of_eq (g3.block p HW.out.lt (fun e => HW.out.ne e.symm))
      have pg : w3.cell? ⟨p, 0, none⟩ = some (.slice va L.length vc) := B3.cell (o := 0) rfl
      have pgf : w3.frozen? ⟨p, 0, none⟩ = false := B3.free 0
      clear o3 g3 b3 q1 q2 q3 pc0 pf0 hown B3
      go_wp2
      go_end0
      refine ⟨rfl, ?_⟩
      rw [HB.out]
      exact ⟨_, HW3.out.cast (by rw [HL.out]; simp [wadd]), N2'.out.trans HN3.out G2.out.size, WS.trans G2.out N2'.out HC3.out⟩
    · go_enter Tryz.func69, Tryz.ntmps69
      go_wp2_with fail
      refine KM.out.mono ?_
      rintro e w1 ⟨rfl, hw1, g1⟩
      have H1 := Lib.hid (may_step hw1 g1)
      clear hw1 g1
      go_wp2
      (first | go_end0 | refine bodyPost_ret (results_none rfl _ _ _) rfl ?_)
      exact ⟨rfl, H1.out⟩
  · have KM := Lib.hid (wMay p v l bad false w h)
    have hle : decide ((xs.length : Int) ≤ 65536) = false := decide_eq_false (by omega)
    have hb : bytesW xs = none := by unfold bytesW; rw [if_neg hlen]
    have HB := Lib.hid hb
    clear h h3 hb hx hlen
    cases bad
    all_goals
      go_enter Tryz.func69, Tryz.ntmps69
      go_wp2_with fail
      refine KM.out.mono ?_
      rintro e w1 ⟨rfl, hw1, g1⟩
      have H1 := Lib.hid (may_step hw1 g1)
      clear hw1 g1
      go_wp2
      (first | go_end0 | refine bodyPost_ret (results_none rfl _ _ _) rfl ?_)
      exact ⟨rfl, by rw [HB.out]; simpa [wadd, wbad] using H1.out⟩
theorem wTruth (p : Nat) (v : Value) (l : List Int) (bad q : Bool) (w : World) (h : Wr w p v l bad) (hl : l.length ≤ 900000000000) : Calls Tryz.prog 26 #[.pointer (some ⟨p, 0, none⟩), .bool q] w (WPost p v (wadd l bad (some (truthW q))) (wbad bad (some (truthW q))) w) := by
  have K0 := wNum p v l bad 0 w h (by omega) hl
  have K1 := wNum p v l bad 1 w h (by omega) hl
  rw [show numW 0 = some [0] from rfl] at K0
  rw [show numW 1 = some [1] from rfl] at K1
  have K0 := Lib.hid K0
  have K1 := Lib.hid K1
  clear h
  cases q
  · go_enter Tryz.func26, Tryz.ntmps26
    go_wp2_with fail
    refine K0.out.mono ?_
    rintro e w1 ⟨rfl, hw1⟩
    have HW := Lib.hid hw1
    clear hw1
    go_wp2
    (first | go_end0 | refine bodyPost_ret (results_none rfl _ _ _) rfl ?_)
    exact ⟨rfl, HW.out⟩
  · go_enter Tryz.func26, Tryz.ntmps26
    go_wp2_with fail
    refine K1.out.mono ?_
    rintro e w1 ⟨rfl, hw1⟩
    have HW := Lib.hid hw1
    clear hw1
    go_wp2
    (first | go_end0 | refine bodyPost_ret (results_none rfl _ _ _) rfl ?_)
    exact ⟨rfl, HW.out⟩
theorem wStamp (t n : Int) (w : World) : Calls Tryz.prog 92 #[.agg #[.int .i64 t, .int .i64 n]] w fun e w' => e = .returned (.bool (idOk t n)) ∧ Below w.heap.size w w' := by
  by_cases h0 : 0 ≤ t
  · by_cases h1 : t ≤ 1152921504606846976
    · by_cases h2 : 0 ≤ n
      all_goals
        go_enter Tryz.func92, Tryz.ntmps92
        go_wp2
        go_ret
        exact ⟨ret_b (by first | (simp [idOk]; done) | (simp [idOk]; omega)), (Below.refl _ _).alloc (Nat.le_refl _) _⟩
    · have h1' : 1152921504606846976 < t := by omega
      go_enter Tryz.func92, Tryz.ntmps92
      go_wp2
      go_ret
      exact ⟨ret_b (by first | (simp [idOk]; done) | (simp [idOk]; omega)), (Below.refl _ _).alloc (Nat.le_refl _) _⟩
  · have h0' : t < 0 := by omega
    go_enter Tryz.func92, Tryz.ntmps92
    go_wp2
    go_ret
    exact ⟨ret_b (by first | (simp [idOk]; done) | (simp [idOk]; omega)), (Below.refl _ _).alloc (Nat.le_refl _) _⟩
abbrev i64c : Int → Value := .int .i64
theorem numsL_snoc (xs : List Int) (k : Nat) (h : k < xs.length) : numsL (xs.take (k + 1)) = numsL (xs.take k) ++ numL (xs.getD k 0).toNat := by
  unfold numsL
  rw [List.take_succ_eq_append_getElem h, List.flatMap_append]
  simp only [List.flatMap_cons, List.flatMap_nil, List.append_nil]
  rw [List.getD_eq_getElem?_getD, List.getElem?_eq_getElem h]
  rfl
set_option maxHeartbeats 2000000 in
set_option maxRecDepth 100000 in
theorem wNums (p : Nat) (v : Value) (l : List Int) (x : Value) (xs : List Int) (w : World) (h : Wr w p v l false) (hx : Rdv i64c w x xs) (ha : Apt x p v) (hlt : ∀ b o n c, x = .slice (some ⟨b, o, none⟩) n c → 0 < n → b < w.heap.size) (hl : l.length ≤ 800000000000) (hn : xs.length ≤ 100) (hok : ∀ q ∈ xs, 0 ≤ q ∧ q ≤ 4611686018427387904) :
    Calls Tryz.prog 65 #[.func (.func 25) #[.pointer (some ⟨p, 0, none⟩)] #[], x] w (WPost p v (l ++ numsL xs) false w) := by
  obtain ⟨xa, xn, xc, rfl⟩ := hx.shape
  obtain ⟨rfl, h1, h2, h3⟩ := hx.cap
  unfold maxLen at h2
  have HX := Lib.hid hx
  have H := Lib.hid h
  have HOK := Lib.hid hok
  clear hx h3 h hok
  go_enter Tryz.func65, Tryz.ntmps65
  go_wp2_with fail
  go_loopw [8] (fun i wr => ∃ k : Nat, k ≤ xs.length ∧ i = .int .i64 k ∧ ∃ v', Wr wr p v' (l ++ numsL (xs.take k)) false ∧ Nxt w v v' ∧ Chg (WS p v) w wr) (fun i _ => xs.length - (intOf i).toNat)
  case atStart => exact ⟨0, Nat.zero_le _, rfl, v, by simpa [numsL] using H.out, Nxt.refl _ _, Chg.refl _ _⟩
  case round =>
    obtain ⟨k, hk, rfl, v', hW, hN, hC⟩ := hrel
    have HW := Lib.hid hW
    have HN := Lib.hid hN
    have HC := Lib.hid hC
    have hll : (l ++ numsL (xs.take k)).length ≤ 800000001000 := by have := numsL_len (xs.take k); simp at *; omega
    by_cases hklt : k < xs.length
    · obtain ⟨bl, ol, rfl, hcell⟩ : ∃ bl ol, xa = some ⟨bl, ol, none⟩ ∧ wr.cell? ⟨bl, ol + k, none⟩ = some (.int .i64 (xs.getD k 0)) := by
        obtain ⟨a', c', e, _, _, h3⟩ := HX.out.apt hC ha
        rw [Value.slice.injEq] at e
        obtain ⟨rfl, _, _⟩ := e
        rcases h3 with rfl | ⟨b, o, rfl, h3⟩
        · simp at hklt
        · exact ⟨b, o, rfl, h3 k hklt⟩
      have hq := HOK.out (xs.getD k 0) (by rw [List.getD_eq_getElem?_getD, List.getElem?_eq_getElem hklt]; exact List.getElem_mem hklt)
      have HS := Lib.hid (numsL_snoc xs k hklt)
      obtain ⟨q, hqe⟩ := Int.eq_ofNat_of_zero_le hq.1
      rw [hqe] at hcell hq
      have HQ := Lib.hid hqe
      have KN := Lib.hid (wNumGood p v' _ q wr hW (by omega) (by omega))
      clear hW hN hC hqe
      go_wp2_with fail
      refine KN.out.mono ?_
      rintro e w2 ⟨rfl, v2, hw2, n2, g2⟩
      have HW2 := Lib.hid hw2
      have N2 := Lib.hid (HN.out.trans n2 HC.out.size)
      have G2 := Lib.hid (WS.trans HC.out HN.out g2)
      clear hw2 n2 g2
      go_wp2
      go_roundw
      case rel => exact ⟨k + 1, by omega, by go_num, v2, HW2.out.cast (by rw [HS.out, HQ.out, Int.toNat_natCast, List.append_assoc]), N2.out, G2.out⟩
      case measure => simp [intOf]; omega
    · obtain rfl : k = xs.length := by omega
      clear hW hN hC
      go_wp2
      (first | go_end0 | refine bodyPost_ret (results_none rfl _ _ _) rfl ?_)
      exact ⟨rfl, v', HW.out.cast (by rw [List.take_length]), HN.out, HC.out⟩
end Go.Proofs.YthbalmoafpggdaaGreat
namespace Go.Proofs.YthbalmoafpggdaaGreat
open Go.RowKit
set_option linter.unusedVariables false
set_option linter.unusedSimpArgs false
theorem WStep.pre {p : Nat} {v : Value} {w w0 w' : World} {l' : List Int} {bad' : Bool} (g : Below w.heap.size w w0) (h : WStep p v w0 l' bad' w') : WStep p v w l' bad' w' := by
  obtain ⟨v', h1, h2, h3⟩ := h
  refine ⟨v', h1, ?_, (Chg.of_below (S := WS p v) g (fun i h1 h2 => by omega)).trans' h3 (fun i hi hs => hs)⟩
  rcases h2 with h2 | h2
  · exact .inl h2
  · exact .inr fun k hk => Nat.le_trans g.size (h2 k hk)
theorem WStep.trans {p : Nat} {v v1 : Value} {w w1 w2 : World} {l l' : List Int} {bad bad' : Bool} (h1 : Wr w1 p v1 l bad) (hn : Nxt w v v1) (hc : Chg (WS p v) w w1) (h : WStep p v1 w1 l' bad' w2) : WStep p v w l' bad' w2 := by
  obtain ⟨v', k1, k2, k3⟩ := h
  exact ⟨v', k1, hn.trans k2 hc.size, WS.trans hc hn k3⟩
set_option maxHeartbeats 2000000 in
set_option maxRecDepth 100000 in
theorem wID (p : Nat) (v : Value) (l : List Int) (bad : Bool) (t n : Int) (w : World) (h : Wr w p v l bad) (hl : l.length ≤ 800000000000) : Calls Tryz.prog 67 #[.pointer (some ⟨p, 0, none⟩), .agg #[.int .i64 t, .int .i64 n]] w (WPost p v (wadd l bad (idW t n)) (wbad bad (idW t n)) w) := by
  have h0 := h.below ((Below.refl w.heap.size w).alloc (Nat.le_refl _) (.cells #[.int .i64 t, .int .i64 n] 44))
  have BX := Blk.new w #[.int .i64 t, .int .i64 n] 44
  have H0 := Lib.hid h0
  have HBX := Lib.hid BX
  have hlt := h.lt
  have hvb : ∀ k, v.ownBlock = some k → k < w.heap.size := fun k hk => (h.own.lt k hk).2
  have HVB := Lib.hid hvb
  clear h h0 BX hvb
  cases hok : idOk t n
  all_goals
    have HOK := Lib.hid hok
    have hw : idW t n = if idOk t n = true then some (numL t.toNat ++ numL n.toNat) else none := rfl
    rw [hok] at hw
    have HW := Lib.hid hw
    clear hok hw
  · cases bad
    all_goals
      go_enter Tryz.func67, Tryz.ntmps67
      go_wp2_with fail
      refine (wStamp t n _).mono ?_
      rintro e w1 ⟨rfl, hb1⟩
      rw [HOK.out]
      have KM := Lib.hid (wMay p v l _ false w1 (H0.out.below hb1))
      have B1 := Lib.hid (((Below.refl w.heap.size w).alloc (Nat.le_refl _) (.cells #[.int .i64 t, .int .i64 n] 44)).trans (hb1.mono (by simp)))
      clear hb1
      go_wp2_with fail
      refine KM.out.mono ?_
      rintro e w2 ⟨rfl, hw2, g2⟩
      have H2 := Lib.hid (may_step hw2 g2)
      clear hw2 g2
      go_wp2
      (first | go_end0 | refine bodyPost_ret (results_none rfl _ _ _) rfl ?_)
      exact ⟨rfl, by rw [HW.out]; simpa [wadd, wbad] using H2.out.pre B1.out⟩
  · have hid : Hid (0 ≤ t ∧ t ≤ 1152921504606846976 ∧ 0 ≤ n ∧ n < 64) := Lib.hid (by have := HOK.out; simp [idOk] at this; omega)
    cases bad
    · go_enter Tryz.func67, Tryz.ntmps67
      go_wp2_with fail
      refine (wStamp t n _).mono ?_
      rintro e w1 ⟨rfl, hb1⟩
      rw [HOK.out]
      have KM := Lib.hid (wMay p v l false true w1 (H0.out.below hb1))
      have B1 := Lib.hid (((Below.refl w.heap.size w).alloc (Nat.le_refl _) (.cells #[.int .i64 t, .int .i64 n] 44)).trans (hb1.mono (by simp)))
      have X1 := Lib.hid (blkBelow hb1 HBX.out HBX.out.lt)
      have hs1 := hb1.size
      clear hb1
      go_wp2_with fail
      refine KM.out.mono ?_
      rintro e w2 ⟨rfl, hw2, g2⟩
      have X2 := g2.blk X1.out (by omega)
      have x20 := X2.cell (o := 0) rfl
      have x21 := X2.cell (o := 1) rfl
      have W2 : Hid (Wr w2 p v l false) := Lib.hid (by simpa using hw2)
      have G2 : Hid (Chg (WS p v) w1 w2) := Lib.hid (g2.mono fun _ _ e => .inl e)
      have hs2 := g2.size
      simp at hs1
      have hpl : p < w2.heap.size := W2.out.lt
      clear hw2 g2 X2
      go_wp2_with fail
      have R3 : Rdv i64c (w2.alloc (.cells #[.int .i64 t, .int .i64 n] 2)) (.slice (some ⟨w2.heap.size, 0, none⟩) 2 2) [t, n] := Rdv.of_blk (xs := [t, n]) (Blk.new w2 #[.int .i64 t, .int .i64 n] 2) (by unfold maxLen; simp)
      have a3 : Below w2.heap.size w2 (w2.alloc (.cells #[.int .i64 t, .int .i64 n] 2)) := (Below.refl _ _).alloc (Nat.le_refl _) _
      have hbl : ∀ b o n c, Value.slice (some ⟨w2.heap.size, 0, none⟩) 2 2 = Value.slice (some ⟨b, o, none⟩) n c → b = w2.heap.size := fun b o n c e => by
        rw [Value.slice.injEq] at e; obtain ⟨e, _⟩ := e; injection e with e; injection e with e _; exact e.symm
      have KN := wNums p v l _ [t, n] _ (W2.out.below a3) R3 (fun b o n c e _ => by
        have := hbl b o n c e; subst this
        exact ⟨by omega, fun e2 => by have := HVB.out _ e2; omega⟩) (fun b o n c e _ => by have := hbl b o n c e; subst this; simp) (by omega) (by simp) (fun q hq => by have := hid.out; simp at hq; rcases hq with rfl | rfl <;> omega)
      have A3 := Lib.hid a3
      clear R3 a3 hbl x20 x21
      refine KN.mono ?_
      rintro e w4 ⟨rfl, h4⟩
      have H4 := Lib.hid h4
      clear h4 KN
      go_wp2
      (first | go_end0 | refine bodyPost_ret (results_none rfl _ _ _) rfl ?_)
      refine ⟨rfl, ?_⟩
      rw [HW.out]
      have := (WStep.trans W2.out (Nxt.refl _ _) G2.out (H4.out.pre A3.out)).pre B1.out
      simpa [wadd, wbad, numsL] using this
    · go_enter Tryz.func67, Tryz.ntmps67
      go_wp2_with fail
      refine (wStamp t n _).mono ?_
      rintro e w1 ⟨rfl, hb1⟩
      rw [HOK.out]
      have KM := Lib.hid (wMay p v l true true w1 (H0.out.below hb1))
      have B1 := Lib.hid (((Below.refl w.heap.size w).alloc (Nat.le_refl _) (.cells #[.int .i64 t, .int .i64 n] 44)).trans (hb1.mono (by simp)))
      clear hb1
      go_wp2_with fail
      refine KM.out.mono ?_
      rintro e w2 ⟨rfl, hw2, g2⟩
      have H2 := Lib.hid (may_step hw2 g2)
      clear hw2 g2
      go_wp2
      (first | go_end0 | refine bodyPost_ret (results_none rfl _ _ _) rfl ?_)
      exact ⟨rfl, by rw [HW.out]; simpa [wadd, wbad] using H2.out.pre B1.out⟩
end Go.Proofs.YthbalmoafpggdaaGreat
namespace Go.Proofs.YthbalmoafpggdaaGreat
open Go.RowKit
set_option linter.unusedVariables false
set_option linter.unusedSimpArgs false
theorem cutTo_down (v : List Int) (m : Nat) (h : v.getD m 0 = 0) : cutTo v (m + 1) = cutTo v m := by show (if v.getD m 0 = 0 then cutTo v m else m + 1) = _; rw [if_pos h]
theorem cutTo_stop (v : List Int) (m : Nat) (h : v.getD m 0 ≠ 0) : cutTo v (m + 1) = m + 1 := by show (if v.getD m 0 = 0 then cutTo v m else m + 1) = _; rw [if_neg h]
theorem rdv_at {enc : Int → Value} {w : World} {a : Option Addr} {n c : Nat} {xs : List Int} (h : Rdv enc w (.slice a n c) xs) (k : Nat) (hk : k < xs.length) : ∃ b o, a = some ⟨b, o, none⟩ ∧ w.cell? ⟨b, o + k, none⟩ = some (enc (xs.getD k 0)) := by
  obtain ⟨a', c', e, _, _, h3⟩ := h
  rw [Value.slice.injEq] at e
  obtain ⟨rfl, _, _⟩ := e
  rcases h3 with rfl | ⟨b, o, rfl, h3⟩
  · simp at hk
  · exact ⟨b, o, rfl, h3 k hk⟩
set_option maxHeartbeats 1000000 in
theorem cdCut (a : Option Addr) (c : Nat) (xs : List Int) (w : World) (h : Rdv i64c w (.slice a xs.length c) xs) : Calls Tryz.prog 63 #[.slice a xs.length c] w fun e w' => e = .returned (.slice a (cutTo xs xs.length) c) ∧ w = w' := by
  obtain ⟨_, h1, h2, h3⟩ := h.cap
  unfold maxLen at h2
  have HX := Lib.hid h
  clear h h3
  go_enter Tryz.func63, Tryz.ntmps63
  go_wp2
  go_loop [3] (fun nv => ∃ m : Nat, m ≤ xs.length ∧ nv = .int .i64 m ∧ cutTo xs xs.length = cutTo xs m) (fun nv => (intOf nv).toNat)
  case atStart => exact ⟨_, Nat.le_refl _, rfl, rfl⟩
  case round =>
    obtain ⟨m, hm, rfl, he⟩ := hrel
    have HE := Lib.hid he
    clear he
    rcases Nat.eq_zero_or_pos m with rfl | hpos
    · go_wp2
      go_ret
      exact ⟨by rw [HE.out]; rfl, rfl⟩
    · obtain ⟨k, rfl⟩ : ∃ k, m = k + 1 := ⟨m - 1, by omega⟩
      obtain ⟨bl, ol, rfl, hcell⟩ := rdv_at HX.out k (by omega)
      by_cases hz : xs.getD k 0 = 0
      · have HE2 := Lib.hid (HE.out.trans (cutTo_down xs k hz))
        rw [hz] at hcell
        clear hz
        go_wp2
        go_round
        case rel => exact ⟨k, by omega, by go_num, HE2.out⟩
        case measure => simp [intOf]
      · have HE2 := Lib.hid (HE.out.trans (cutTo_stop xs k hz))
        have hz2 : (xs.getD k 0 == 0) = false := beq_false_of_ne hz
        generalize xs.getD k 0 = q at *
        clear hz
        go_wp2
        go_ret
        exact ⟨by rw [HE2.out]; rfl, rfl⟩
theorem vecMayB_take (xs : List Int) (k : Nat) (h : k < xs.length) : vecMayB (xs.take (k + 1)) = (vecMayB (xs.take k) && (decide (0 ≤ xs.getD k 0) && decide (xs.getD k 0 ≤ 1152921504606846976))) := by
  unfold vecMayB
  rw [List.take_succ_eq_append_getElem h, List.all_append]
  simp only [List.all_cons, List.all_nil, Bool.and_true]
  rw [List.getD_eq_getElem?_getD, List.getElem?_eq_getElem h]
  rfl
theorem vecMayB_false (xs : List Int) (k : Nat) (h : k < xs.length) (hf : ¬ (0 ≤ xs.getD k 0 ∧ xs.getD k 0 ≤ 1152921504606846976)) : vecMayB xs = false := by
  rw [← Bool.not_eq_true]
  intro ht
  apply hf
  unfold vecMayB at ht
  rw [List.all_eq_true] at ht
  have := ht (xs.getD k 0) (by rw [List.getD_eq_getElem?_getD, List.getElem?_eq_getElem h]; exact List.getElem_mem h)
  simpa using this
set_option maxHeartbeats 1000000 in
theorem cdVector (a : Option Addr) (c : Nat) (xs : List Int) (w : World) (h : Rdv i64c w (.slice a xs.length c) xs) : Calls Tryz.prog 64 #[.slice a xs.length c] w fun e w' => e = .returned (.bool (vecMayB xs && decide (xs.length ≤ 64))) ∧ w = w' := by
  obtain ⟨_, h1, h2, h3⟩ := h.cap
  unfold maxLen at h2
  have HX := Lib.hid h
  clear h h3
  go_enter Tryz.func64, Tryz.ntmps64
  go_wp2
  go_loop [7] (fun i => ∃ k : Nat, k ≤ xs.length ∧ i = .int .i64 k ∧ vecMayB (xs.take k) = true) (fun i => xs.length - (intOf i).toNat)
  case atStart => exact ⟨0, Nat.zero_le _, rfl, rfl⟩
  case round =>
    obtain ⟨k, hk, rfl, hok⟩ := hrel
    have HOK := Lib.hid hok
    clear hok
    by_cases hlt : k < xs.length
    · obtain ⟨bl, ol, rfl, hcell⟩ := rdv_at HX.out k (by omega)
      by_cases hq : 0 ≤ xs.getD k 0 ∧ xs.getD k 0 ≤ 1152921504606846976
      · have HS := Lib.hid (vecMayB_take xs k hlt)
        have HQ := Lib.hid hq
        obtain ⟨q1, q2⟩ := hq
        have HV : Hid (vecMayB (xs.take (k + 1)) = true) := Lib.hid (by rw [HS.out, HOK.out, decide_eq_true q1, decide_eq_true q2]; rfl)
        generalize xs.getD k 0 = q at *
        go_wp2
        go_round
        case rel => exact ⟨k + 1, by omega, by go_num, HV.out⟩
        case measure => simp [intOf]; omega
      · have HV := Lib.hid (vecMayB_false xs k hlt hq)
        by_cases q0 : xs.getD k 0 < 0
        · generalize xs.getD k 0 = q at *
          clear hq
          go_wp2
          go_ret
          exact ⟨ret_b (by rw [HV.out]; rfl), rfl⟩
        · have q1 : 1152921504606846976 < xs.getD k 0 := by omega
          generalize xs.getD k 0 = q at *
          clear hq
          go_wp2
          go_ret
          exact ⟨ret_b (by rw [HV.out]; rfl), rfl⟩
    · obtain rfl : k = xs.length := by omega
      have HV : Hid (vecMayB xs = true) := Lib.hid (by have := HOK.out; rwa [List.take_length] at this)
      clear HOK
      by_cases h64 : (xs.length : Int) ≤ 64
      · go_wp2
        go_ret
        exact ⟨ret_b (by rw [HV.out, decide_eq_true (by omega)]; rfl), rfl⟩
      · have h65 : decide ((xs.length : Int) ≤ 64) = false := decide_eq_false h64
        clear h64
        go_wp2
        go_ret
        exact ⟨ret_b (by rw [HV.out, decide_eq_false (by have := of_decide_eq_false h65; omega)]; rfl), rfl⟩
theorem mayB_bd {xs : List Int} (h : vecMayB xs = true) : ∀ q ∈ xs, 0 ≤ q ∧ q ≤ 4611686018427387904 := by
  intro q hq
  unfold vecMayB at h
  rw [List.all_eq_true] at h
  have := h q hq
  simp at this
  omega
set_option maxHeartbeats 2000000 in
set_option maxRecDepth 100000 in
theorem wVector (p : Nat) (v : Value) (l : List Int) (bad : Bool) (x : Value) (xs : List Int) (w : World) (h : Wr w p v l bad) (hx : Rdv i64c w x xs) (ha : Apt x p v) (hlt : ∀ b o n c, x = .slice (some ⟨b, o, none⟩) n c → 0 < n → b < w.heap.size) (hl : l.length ≤ 700000000000) : Calls Tryz.prog 27 #[.pointer (some ⟨p, 0, none⟩), x] w (WPost p v (wadd l bad (vecW xs)) (wbad bad (vecW xs)) w) := by
  obtain ⟨xa, xn, xc, rfl⟩ := hx.shape
  obtain ⟨rfl, h1, h2, h3⟩ := hx.cap
  unfold maxLen at h2
  have hle := cutTo_le xs xs.length
  have hcl : (cutL xs).length = cutTo xs xs.length := cutL_len xs
  have hxc : Rdv i64c w (.slice xa (cutTo xs xs.length) xc) (cutL xs) := hx.take (cutTo xs xs.length) xc hle (by omega) (Nat.le_refl _)
  have KC := Lib.hid (cdCut xa xc xs w hx)
  have hac : Apt (.slice xa (cutTo xs xs.length) xc) p v := fun b o n c e hn => by
    rw [Value.slice.injEq] at e; obtain ⟨rfl, _, _⟩ := e; exact ha b o _ _ rfl (by omega)
  have hlc : ∀ b o n c, Value.slice xa (cutTo xs xs.length) xc = .slice (some ⟨b, o, none⟩) n c → 0 < n → b < w.heap.size := fun b o n c e hn => by
    rw [Value.slice.injEq] at e; obtain ⟨rfl, _, _⟩ := e; exact hlt b o _ _ rfl (by omega)
  have hvw : vecW xs = if vecMayB (cutL xs) = true ∧ (cutL xs).length ≤ 64 then some (numL (cutL xs).length ++ numsL (cutL xs)) else none := rfl
  have HVW := Lib.hid hvw
  rw [← hcl] at hxc hac hlc KC
  generalize cutL xs = ys at *
  have KV := Lib.hid (cdVector xa xc ys w hxc)
  have HX := Lib.hid hxc
  have HA := Lib.hid hac
  have HLC := Lib.hid hlc
  have hyc : ys.length ≤ xc := by omega
  clear hx h3 ha hlt hle hcl hxc hac hlc hvw
  have hmaycases : ∀ q, (vecMayB ys && decide (ys.length ≤ 64)) = q → (q = true → vecMayB ys = true ∧ ys.length ≤ 64) ∧ (q = false → ¬ (vecMayB ys = true ∧ ys.length ≤ 64)) := by
    intro q hq
    subst hq
    constructor
    · intro h; simpa using h
    · intro h1 h2; simp [h2.1, h2.2] at h1
  cases hq : (vecMayB ys && decide (ys.length ≤ 64))
  all_goals
    have HQ := Lib.hid (hmaycases _ hq)
    rw [hq] at KV
    clear hmaycases hq
  · have KM := Lib.hid (wMay p v l bad false w h)
    have HW : Hid (vecW xs = none) := Lib.hid (by rw [HVW.out, if_neg (HQ.out.2 rfl)])
    clear h
    cases bad
    all_goals
      go_enter Tryz.func27, Tryz.ntmps27
      go_wp2_with fail
      refine KC.out.mono ?_
      rintro e w1 ⟨rfl, rfl⟩
      go_wp2_with fail
      refine KV.out.mono ?_
      rintro e w1 ⟨rfl, rfl⟩
      go_wp2_with fail
      refine KM.out.mono ?_
      rintro e w2 ⟨rfl, hw2, g2⟩
      have H2 := Lib.hid (may_step hw2 g2)
      clear hw2 g2
      go_wp2
      (first | go_end0 | refine bodyPost_ret (results_none rfl _ _ _) rfl ?_)
      exact ⟨rfl, by rw [HW.out]; simpa [wadd, wbad] using H2.out⟩
  · have KM := Lib.hid (wMay p v l bad true w h)
    have hvb : ∀ k, v.ownBlock = some k → k < w.heap.size := fun k hk => (h.own.lt k hk).2
    have HVB := Lib.hid hvb
    have HW : Hid (vecW xs = some (numL ys.length ++ numsL ys)) := Lib.hid (by rw [HVW.out, if_pos (HQ.out.1 rfl)])
    have hy64 : ys.length ≤ 64 := (HQ.out.1 rfl).2
    have HMB := Lib.hid (mayB_bd (HQ.out.1 rfl).1)
    clear h hvb
    cases bad
    · go_enter Tryz.func27, Tryz.ntmps27
      go_wp2_with fail
      refine KC.out.mono ?_
      rintro e w1 ⟨rfl, rfl⟩
      go_wp2_with fail
      refine KV.out.mono ?_
      rintro e w1 ⟨rfl, rfl⟩
      go_wp2_with fail
      refine KM.out.mono ?_
      rintro e w2 ⟨rfl, hw2, g2⟩
      have W2 : Hid (Wr w2 p v l false) := Lib.hid (by simpa using hw2)
      have G2 : Hid (Chg (WS p v) w w2) := Lib.hid (g2.mono fun _ _ e => .inl e)
      clear hw2 g2
      have KN := Lib.hid (wNumGood p v l ys.length w2 W2.out (by omega) (by omega))
      go_wp2_with fail
      refine KN.out.mono ?_
      rintro e w3 ⟨rfl, v3, hw3, n3, g3⟩
      have hx3 := HX.out.apt (WS.trans G2.out (Nxt.refl _ _) g3) HA.out
      have ha3 := HA.out.nxt ((Nxt.refl w v).trans n3 G2.out.size) HLC.out
      have hs3 : w.heap.size ≤ w3.heap.size := Nat.le_trans G2.out.size g3.size
      have hl3 : (l ++ numL ys.length).length ≤ 700000000010 := by have := numL_len ys.length; simp; omega
      have KS := Lib.hid (wNums p v3 _ _ ys w3 hw3 hx3 ha3 (fun b o n c e hn => Nat.lt_of_lt_of_le (HLC.out b o n c e hn) hs3) (by omega) (by omega) HMB.out)
      have H3 := Lib.hid (show Wr w3 p v3 (l ++ numL ys.length) false ∧ Nxt w v v3 ∧ Chg (WS p v) w w3 from ⟨hw3, (Nxt.refl w v).trans n3 G2.out.size, WS.trans G2.out (Nxt.refl _ _) g3⟩)
      clear hw3 n3 g3 hx3 ha3
      go_wp2_with fail
      refine KS.out.mono ?_
      rintro e w4 ⟨rfl, h4⟩
      have H4 := Lib.hid (WStep.trans H3.out.1 H3.out.2.1 H3.out.2.2 h4)
      clear h4
      go_wp2
      (first | go_end0 | refine bodyPost_ret (results_none rfl _ _ _) rfl ?_)
      refine ⟨rfl, ?_⟩
      rw [HW.out]
      have := H4.out
      rw [List.append_assoc] at this
      simpa [wadd, wbad] using this
    · go_enter Tryz.func27, Tryz.ntmps27
      go_wp2_with fail
      refine KC.out.mono ?_
      rintro e w1 ⟨rfl, rfl⟩
      go_wp2_with fail
      refine KV.out.mono ?_
      rintro e w1 ⟨rfl, rfl⟩
      go_wp2_with fail
      refine KM.out.mono ?_
      rintro e w2 ⟨rfl, hw2, g2⟩
      have H2 := Lib.hid (may_step hw2 g2)
      clear hw2 g2
      go_wp2
      (first | go_end0 | refine bodyPost_ret (results_none rfl _ _ _) rfl ?_)
      exact ⟨rfl, by rw [HW.out]; simpa [wadd, wbad] using H2.out⟩
/-- A text's bytes as numbers. -/
def strL (s : ByteArray) : List Int := s.data.toList.map fun b => (b.toNat : Int)
theorem strL_len (s : ByteArray) : (strL s).length = s.size := by unfold strL; rw [List.length_map, Array.length_toList]; rfl
theorem strL_byt (s : ByteArray) : ∀ q ∈ strL s, 0 ≤ q ∧ q < 256 := by
  intro q hq
  obtain ⟨b, _, rfl⟩ := List.mem_map.1 hq
  have := b.toNat_lt
  omega
theorem below_bytes (w : World) (e : TypeId) (s : ByteArray) : Below w.heap.size w (Lib.bytesWorld w e s) :=
  ⟨rfl, rfl, rfl, by rw [Lib.bytesWorld_size]; omega, fun k hk => Lib.bytesWorld_at_old w e s k hk⟩
theorem rdv_bytes (w : World) (e : TypeId) (s : ByteArray) (c : Nat) (hc : s.size ≤ c) (hm : c ≤ maxLen) : Rdv u8v (Lib.bytesWorld w e s) (.slice (some ⟨w.heap.size, 0, none⟩) s.size c) (strL s) :=
  ⟨_, c, by rw [strL_len], by rw [strL_len]; exact hc, hm, .inr ⟨w.heap.size, 0, rfl, fun i hi => by
    rw [Nat.zero_add, Lib.bytesWorld_cell w e s i (by rwa [strL_len] at hi)]
    have h2 : i < s.data.toList.length := by unfold strL at hi; rwa [List.length_map] at hi
    simp [strL, List.getD_eq_getElem?_getD, List.getElem?_eq_getElem h2]⟩⟩
set_option maxRecDepth 100000 in
theorem wText (p : Nat) (v : Value) (l : List Int) (bad : Bool) (s : ByteArray) (w : World) (h : Wr w p v l bad) (hs : s.size ≤ 100000000000) (hl : l.length ≤ 700000000000) : Calls Tryz.prog 68 #[.pointer (some ⟨p, 0, none⟩), .string s] w (WPost p v (wadd l bad (bytesW (strL s))) (wbad bad (bytesW (strL s))) w) := by
  have hcv := Lib.run_convert_string_bytes (P := Tryz.prog) w 9 30 5 s Tryz.underlying9 Tryz.underlying30 Tryz.underlying5
  have hb := below_bytes w 5 s
  have HB := Lib.hid hb
  have hc1 := grownCap_ge w s.size 0 5
  have hc2 := grownCap_le_maxLen w s.size 0 5 (by unfold maxLen; omega)
  have hx := rdv_bytes w 5 s _ hc1 hc2
  have hvb : ∀ k, v.ownBlock = some k → k < w.heap.size := fun k hk => (h.own.lt k hk).2
  have hpl := h.lt
  have hbl : ∀ b o n c, Value.slice (some ⟨w.heap.size, 0, none⟩) s.size (grownCap w s.size 0 5) = Value.slice (some ⟨b, o, none⟩) n c → b = w.heap.size := fun b o n c e => by
    rw [Value.slice.injEq] at e; obtain ⟨e, _⟩ := e; injection e with e; injection e with e _; exact e.symm
  have K := Lib.hid (wBytes p v l bad _ (strL s) _ (h.below hb) hx (fun b o n c e _ => by
    have := hbl b o n c e; subst this
    exact ⟨by omega, fun e2 => by have := hvb _ e2; omega⟩) (fun b o n c e _ => by have := hbl b o n c e; subst this; rw [Lib.bytesWorld_size]; omega) (by omega))
  generalize grownCap w s.size 0 5 = cc at *
  clear h hb hc1 hc2 hx hvb hbl
  go_enter Tryz.func68, Tryz.ntmps68
  go_wp2_with fail
  refine K.out.mono ?_
  rintro e w2 ⟨rfl, h2⟩
  have H2 := Lib.hid (h2.pre HB.out)
  clear h2
  go_wp2
  (first | go_end0 | refine bodyPost_ret (results_none rfl _ _ _) rfl ?_)
  exact ⟨rfl, H2.out⟩
end Go.Proofs.YthbalmoafpggdaaGreat
namespace Go.Proofs.YthbalmoafpggdaaGreat
open Go.RowKit
set_option linter.unusedVariables false
set_option linter.unusedSimpArgs false
/-- A reader at block r, its bytes in block B: what is left; none: it is bad. -/
structure RdT (T : TypeId) (w : World) (r B : Nat) (v : Value) (s : RS) : Prop where
  blk : Blk w r #[v, .bool s.isNone] T
  rdv : Rdv u8v w v (s.getD [])
  inB : v = .slice none 0 0 ∨ ∃ o n c, v = .slice (some ⟨B, o, none⟩) n c
  ne : (∃ o n c, v = .slice (some ⟨B, o, none⟩) n c) → B ≠ r
  byt : Byt (s.getD [])
  len : (s.getD []).length ≤ 100000000000
abbrev Rd := RdT 104
theorem inB_at {v : Value} {B : Nat} (h : v = .slice none 0 0 ∨ ∃ o n c, v = .slice (some ⟨B, o, none⟩) n c) : ∀ b o n c, v = .slice (some ⟨b, o, none⟩) n c → b = B := by
  intro b o n c e
  rcases h with h | ⟨o', n', c', h⟩
  · rw [h, Value.slice.injEq] at e; cases e.1
  · rw [h, Value.slice.injEq] at e
    obtain ⟨e, _⟩ := e
    injection e with e
    injection e with e _
    exact e.symm
theorem RdT.lt {T : TypeId} {w : World} {r B : Nat} {v : Value} {s : RS} (h : RdT T w r B v s) : r < w.heap.size := h.blk.lt
theorem RdT.chg {T : TypeId} {S : Nat → Prop} {w w' : World} {r B : Nat} {v : Value} {s : RS} (h : RdT T w r B v s) (g : Chg S w w') (hr : ¬ S r) (hB : ¬ S B) : RdT T w' r B v s :=
  ⟨g.blk h.blk hr, h.rdv.chg g (fun b o n c e => by rw [inB_at h.inB b o n c e]; exact hB), h.inB, h.ne, h.byt, h.len⟩
theorem RdT.below {T : TypeId} {w w' : World} {r B : Nat} {v : Value} {s : RS} (h : RdT T w r B v s) (g : Below w.heap.size w w') : RdT T w' r B v s :=
  ⟨blkBelow g h.blk h.lt, h.rdv.below g, h.inB, h.ne, h.byt, h.len⟩
/-- Behind a call: what is left, and that its block alone was turned. -/
def RStepT (T : TypeId) (r B : Nat) (w : World) (s' : RS) (w' : World) : Prop := ∃ v', RdT T w' r B v' s' ∧ Chg (· = r) w w'
abbrev RStep := RStepT 104
theorem RStepT.trans {T : TypeId} {r B : Nat} {w w1 w2 : World} {s' : RS} (g : Chg (· = r) w w1) (h : RStepT T r B w1 s' w2) : RStepT T r B w s' w2 := by
  obtain ⟨v', h1, h2⟩ := h
  exact ⟨v', h1, g.trans h2⟩
theorem RdT.put0 {T : TypeId} {w : World} {r B : Nat} {v : Value} {s : RS} (h : RdT T w r B v s) (v' : Value) (l' : List Int) (hs : s.isNone = false) (hr : Rdv u8v w v' l') (hin : v' = .slice none 0 0 ∨ ∃ o n c, v' = .slice (some ⟨B, o, none⟩) n c) (hb : Byt l') (hl : l'.length ≤ 100000000000) (hne : (∃ o n c, v' = .slice (some ⟨B, o, none⟩) n c) → B ≠ r) :
    RdT T (w.setCell ⟨r, 0, none⟩ v') r B v' (some l') := by
  refine ⟨?_, ?_, hin, hne, hb, hl⟩
  · have := h.blk.set 0 v'
    rw [hs] at this
    simpa using this
  · have g : Chg (· = r) w (w.setCell ⟨r, 0, none⟩ v') := Chg.set (S := (· = r)) (Chg.refl _ _) (p := ⟨r, 0, none⟩) (fun _ => rfl) _
    exact hr.chg g (fun b o n c e => by have e1 := inB_at hin b o n c e; subst e1; exact hne ⟨o, n, c, e⟩)
def failS (s : RS) (bad : Bool) : RS := if bad then none else s
def FailPost (r B : Nat) (w : World) (s : RS) (bad : Bool) (e : Ending) (w' : World) : Prop := e = .returned (.bool (s.isNone || bad)) ∧ RStep r B w (failS s bad) w'
theorem RdT.swap {T : TypeId} {w : World} {r B : Nat} {v : Value} {s : RS} (h : RdT T w r B v s) (q : Bool) (hq : s.isNone = q) : RdT T (w.setCell ⟨r, 1, none⟩ (.bool q)) r B v s := by
  refine ⟨?_, ?_, h.inB, h.ne, h.byt, h.len⟩
  · have := h.blk.set 1 (.bool q)
    rw [hq]
    simpa using this
  · exact h.rdv.chg (Chg.set (S := (· = r)) (Chg.refl _ _) (p := ⟨r, 1, none⟩) (fun _ => rfl) (.bool q)) (fun b o n c e => by have e1 := inB_at h.inB b o n c e; subst e1; exact h.ne ⟨o, n, c, e⟩)
theorem RdT.kill {T : TypeId} {w : World} {r B : Nat} {v : Value} {s : RS} (h : RdT T w r B v s) : RdT T ((w.setCell ⟨r, 1, none⟩ (.bool true)).setCell ⟨r, 0, none⟩ (.slice none 0 0)) r B (.slice none 0 0) none := by
  refine ⟨?_, Rdv.nil _ _, .inl rfl, (fun ⟨_, _, _, e⟩ => by rw [Value.slice.injEq] at e; cases e.1), fun q hq => by simp at hq, by simp⟩
  have := (h.blk.set 1 (.bool true)).set 0 (.slice none 0 0)
  simpa using this
set_option maxHeartbeats 1000000 in
theorem rFails (r B : Nat) (v : Value) (s : RS) (bad : Bool) (w : World) (h : Rd w r B v s) : Calls Tryz.prog 79 #[.pointer (some ⟨r, 0, none⟩), .bool bad] w (FailPost r B w s bad) := by
  have pc0 : w.cell? ⟨r, 0, none⟩ = some v := h.blk.cell (o := 0) rfl
  have pc1 : w.cell? ⟨r, 1, none⟩ = some (.bool s.isNone) := h.blk.cell (o := 1) rfl
  have pf0 := h.blk.free 0
  have pf1 := h.blk.free 1
  have pz := h.lt
  obtain ⟨va, vn, vc, rfl⟩ := h.rdv.shape
  have H := Lib.hid h
  clear h
  have g1 : ∀ q, Chg (· = r) w (w.setCell ⟨r, 1, none⟩ (.bool q)) := fun q => Chg.set (S := (· = r)) (Chg.refl _ _) (p := ⟨r, 1, none⟩) (fun _ => rfl) _
  have G1 := Lib.hid g1
  clear g1
  cases s with
  | none =>
    have H2 : Hid (failS none bad = none) := Lib.hid (by unfold failS; split <;> rfl)
    cases bad
    all_goals
      go_enter Tryz.func79, Tryz.ntmps79
      go_wp2
      go_ret
      refine ⟨rfl, ?_⟩
      rw [H2.out]
      exact ⟨_, H.out.kill, (G1.out true).set (fun _ => rfl) _⟩
  | some l =>
    cases bad
    · go_enter Tryz.func79, Tryz.ntmps79
      go_wp2
      go_ret
      exact ⟨rfl, _, H.out.swap false rfl, G1.out false⟩
    · go_enter Tryz.func79, Tryz.ntmps79
      go_wp2
      go_ret
      exact ⟨rfl, _, H.out.kill, (G1.out true).set (fun _ => rfl) _⟩
theorem rFailsNil (bad : Bool) (w : World) : Calls Tryz.prog 79 #[.pointer none, .bool bad] w fun e w' => e = .returned (.bool true) ∧ w = w' := by
  go_enter Tryz.func79, Tryz.ntmps79
  go_wp2
  go_ret
  exact ⟨rfl, rfl⟩
theorem rLeft (r B : Nat) (v : Value) (s : RS) (w : World) (h : Rd w r B v s) : Calls Tryz.prog 40 #[.pointer (some ⟨r, 0, none⟩)] w fun e w' => e = .returned (.int .i64 (leftS s).length) ∧ w = w' := by
  have pc0 : w.cell? ⟨r, 0, none⟩ = some v := h.blk.cell (o := 0) rfl
  have pc1 : w.cell? ⟨r, 1, none⟩ = some (.bool s.isNone) := h.blk.cell (o := 1) rfl
  have pf0 := h.blk.free 0
  have pf1 := h.blk.free 1
  have pz := h.lt
  obtain ⟨va, vn, vc, rfl⟩ := h.rdv.shape
  obtain ⟨hn, _, _, _⟩ := h.rdv.cap
  have HN := Lib.hid hn
  clear h hn
  go_enter Tryz.func40, Tryz.ntmps40
  go_wp2
  go_ret
  exact ⟨ret_i (by rw [HN.out]; rfl), rfl⟩
def errS (s : RS) : Int := if s.isNone then 74 else 0
theorem rErr (r B : Nat) (v : Value) (s : RS) (w : World) (h : Rd w r B v s) : Calls Tryz.prog 39 #[.pointer (some ⟨r, 0, none⟩)] w fun e w' => e = .returned (.int .i64 (errS s)) ∧ w = w' := by
  have pc0 : w.cell? ⟨r, 0, none⟩ = some v := h.blk.cell (o := 0) rfl
  have pc1 : w.cell? ⟨r, 1, none⟩ = some (.bool s.isNone) := h.blk.cell (o := 1) rfl
  have pf0 := h.blk.free 0
  have pf1 := h.blk.free 1
  have pz := h.lt
  obtain ⟨va, vn, vc, rfl⟩ := h.rdv.shape
  clear h
  cases s
  all_goals
    go_enter Tryz.func39, Tryz.ntmps39
    go_wp2
    go_ret
    exact ⟨rfl, rfl⟩
def doneS (s : RS) : Int := if s = some [] then 0 else 74
theorem rDone (r B : Nat) (v : Value) (s : RS) (w : World) (h : Rd w r B v s) : Calls Tryz.prog 83 #[.pointer (some ⟨r, 0, none⟩)] w fun e w' => e = .returned (.int .i64 (doneS s)) ∧ w = w' := by
  have KL := Lib.hid (rLeft r B v s w h)
  have KE := Lib.hid (rErr r B v s w h)
  clear h
  rcases s with _ | l
  · go_enter Tryz.func83, Tryz.ntmps83
    go_wp2_with (first | (go_at_call 40; refine KL.out.mono ?_; rintro e w1 ⟨rfl, rfl⟩) | (go_at_call 39; refine KE.out.mono ?_; rintro e w1 ⟨rfl, rfl⟩))
    go_ret
    exact ⟨rfl, rfl⟩
  · rcases l with _ | ⟨x, l⟩
    all_goals
      go_enter Tryz.func83, Tryz.ntmps83
      go_wp2_with (first | (go_at_call 40; refine KL.out.mono ?_; rintro e w1 ⟨rfl, rfl⟩; unfold leftS; simp only [Option.getD_some, List.length_cons, List.length_nil]) | (go_at_call 39; refine KE.out.mono ?_; rintro e w1 ⟨rfl, rfl⟩))
      go_ret
      exact ⟨rfl, rfl⟩
end Go.Proofs.YthbalmoafpggdaaGreat

/- Frames: rows of operations of one's own. CRC-32 by bits and by nibbles: plain facts on numbers. Contracts of package crc. Contracts of zbyte and of package crc's frames. Contracts of package crc's frames, continued; bytes.Clone; the references. -/
import Derived.Test.YthbalmoafpggdaaGreatChecked
import Derived.WalkKit
import Derived.Outline
import Derived.WalkSpells
import Derived.WalkLawsBesides
import Derived.Deep.QuietTactic
import Derived.Deep.RegionWith
import Derived.Deep.DeepMust
import Derived.BigQuiet
import Derived.RegionTactic
import Derived.ChangeAlike
import Derived.StillTailTactics
import Derived.Deep.LoopGhost
import Derived.Laws.BitsAllLaws
import Derived.Deep.RegionHeld3
import Derived.Test.YthbalmoafpggdaaGreatM1
import Derived.Test.YthbalmoafpggdaaGreatM14
import Derived.Test.YthbalmoafpggdaaGreatM13
namespace Go.Proofs.YthbalmoafpggdaaGreat
open Go.RowKit
set_option linter.unusedVariables false
set_option linter.unusedSimpArgs false
abbrev ODS := Opr × Value × Value
def odrow (ps : List ODS) : List Value := ps.flatMap fun p => opC p.1 p.2.1 p.2.2
theorem odrow_len : ∀ ps : List ODS, (odrow ps).length = ps.length * 11
  | [] => rfl
  | y :: ys => by
    have := odrow_len ys
    rw [odrow, List.flatMap_cons, List.length_append]
    show 11 + (odrow ys).length = _
    rw [this, List.length_cons]
    omega
theorem odrow_snoc (ps : List ODS) (q : Opr) (d s : Value) : odrow (ps ++ [(q, d, s)]) = odrow ps ++ opC q d s := by simp [odrow]
theorem odrow_at : ∀ (fs : List ODS) (k j : Nat) (hk : k < fs.length), j < 11 → (odrow fs)[k * 11 + j]? = (opC fs[k].1 fs[k].2.1 fs[k].2.2)[j]?
  | f :: fs, 0, j, _, hj => by
    rw [odrow, List.flatMap_cons, List.getElem?_append_left (by simp [opC]; omega)]
    simp
  | f :: fs, k + 1, j, hk, hj => by
    have := odrow_at fs k j (by simpa using hk) hj
    rw [odrow, List.flatMap_cons, List.getElem?_append_right (by simp [opC]; omega)]
    rw [show (k + 1) * 11 + j - (opC f.1 f.2.1 f.2.2).length = k * 11 + j by simp [opC]; omega]
    exact this
/-- A row that stays while blocks of another type, not below B, change. -/
structure RdK (B T : Nat) (enc : Int → Value) (w : World) (v : Value) (xs : List Int) : Prop where
  rd : Rdv enc w v xs
  lies : xs ≠ [] → ∀ b o n c, v = .slice (some ⟨b, o, none⟩) n c → b < B ∨ ∃ cs, Blk w b cs T
theorem RdK.of_rdv {T : Nat} {enc : Int → Value} {w0 w : World} {v : Value} {xs : List Int} (h : Rdv enc w0 v xs) (hb : Below w0.heap.size w0 w) : RdK w0.heap.size T enc w v xs :=
  ⟨h.below hb, fun hx b o n c e => .inl (by
    subst e
    obtain ⟨e1, _⟩ := h.cap
    exact rdv_old h b o n c rfl (by rw [e1]; exact List.length_pos_iff.2 hx))⟩
theorem RdK.of_own {B B' T n : Nat} {enc : Int → Value} {w : World} {v : Value} {xs : List Int} (h : w.ownsRow B' T 1 v n (xs.map enc)) : RdK B T enc w v xs := by
  refine ⟨Rdv.of_owns h, fun hx b o m c e => .inr ?_⟩
  rcases h.2 with ⟨e1, _⟩ | ⟨g, c', cur, e1, _, h2, _⟩
  · rw [e] at e1; cases e1
  · rw [e] at e1
    injection e1 with e1
    injection e1 with e1
    injection e1 with e1
    subst e1
    exact ⟨cur, h2⟩
theorem blk_ne {w : World} {k : Nat} {c1 c2 : Array Value} {T1 T2 : Nat} (h1 : Blk w k c1 T1) (hn : T1 ≠ T2) : ¬ Blk w k c2 T2 := fun h2 => by
  have h1 : w.heap[k]? = _ := h1
  have h2 : w.heap[k]? = _ := h2
  rw [h1] at h2
  injection h2 with h2
  injection h2 with _ h2
  exact hn h2
theorem RdK.chg {B T : Nat} {S : Nat → Prop} {enc : Int → Value} {w w' : World} {v : Value} {xs : List Int} (h : RdK B T enc w v xs) (g : Chg S w w') (hs : ∀ k, S k → B ≤ k ∧ ∀ cs, ¬ Blk w k cs T) : RdK B T enc w' v xs := by
  by_cases hx : xs = []
  · subst hx
    obtain ⟨a, c, h1, h2, h3, _⟩ := h.rd
    exact ⟨⟨a, c, h1, h2, h3, .inl rfl⟩, fun e => absurd rfl e⟩
  have K : ∀ b o n c, v = .slice (some ⟨b, o, none⟩) n c → ¬ S b := by
    intro b o n c e hS
    obtain ⟨h1, h2⟩ := hs b hS
    rcases h.lies hx b o n c e with h3 | ⟨cs, h3⟩
    · omega
    · exact h2 cs h3
  refine ⟨h.rd.chg g K, fun _ b o n c e => ?_⟩
  rcases h.lies hx b o n c e with h3 | ⟨cs, h3⟩
  · exact .inl h3
  · exact .inr ⟨cs, g.blk h3 (K b o n c e)⟩
theorem RdK.below {B T : Nat} {enc : Int → Value} {w w' : World} {v : Value} {xs : List Int} (h : RdK B T enc w v xs) (g : Below w.heap.size w w') : RdK B T enc w' v xs := by
  refine ⟨h.rd.below g, fun hx b o n c e => ?_⟩
  rcases h.lies hx b o n c e with h3 | ⟨cs, h3⟩
  · exact .inl h3
  · exact .inr ⟨cs, blkBelow g h3 h3.lt⟩
/-- A row of operations of one's own, each with rows that stay. -/
structure OpsOwn (B C : Nat) (w : World) (v : Value) (ps : List ODS) : Prop where
  own : w.ownsRow B 46 11 v ps.length (odrow ps)
  rows : ∀ p ∈ ps, RdK C 5 u8v w p.2.1 p.1.data ∧ RdK C 2 i64v w p.2.2 p.1.seen
theorem OpsOwn.nil (B C : Nat) (w : World) : OpsOwn B C w (.slice none 0 0) [] := ⟨World.ownsRow_nil _ _ _ _, fun p hp => by cases hp⟩
theorem OpsOwn.below {B C : Nat} {w w' : World} {v : Value} {ps : List ODS} (h : OpsOwn B C w v ps) (g : Below w.heap.size w w') : OpsOwn B C w' v ps :=
  ⟨ownsRow_below h.own g, fun p hp => ⟨(h.rows p hp).1.below g, (h.rows p hp).2.below g⟩⟩
theorem own_typ {w : World} {B e s : Nat} {v : Value} {n : Nat} {xs : List Value} (h : w.ownsRow B e s v n xs) {g : Nat} (hg : v.ownBlock = some g) : B ≤ g ∧ ∃ cur, Blk w g cur e := by
  rcases h.2 with ⟨rfl, _⟩ | ⟨g', c, cur, rfl, h0, h1, _⟩
  · cases hg
  · injection hg with hg
    have hg : g' = g := hg
    subst hg
    exact ⟨h0, cur, h1⟩
/-- Blocks of other types change. -/
theorem OpsOwn.chg {B C : Nat} {S : Nat → Prop} {w w' : World} {v : Value} {ps : List ODS} (h : OpsOwn B C w v ps) (g : Chg S w w') (hs : ∀ k, S k → C ≤ k ∧ (∀ cs, ¬ Blk w k cs 5) ∧ (∀ cs, ¬ Blk w k cs 2) ∧ ∀ cs, ¬ Blk w k cs 46) : OpsOwn B C w' v ps :=
  ⟨ownsRow_chg h.own g (fun b e hS => by obtain ⟨_, cs, hb⟩ := own_typ h.own e; exact (hs b hS).2.2.2 cs hb), fun p hp => ⟨(h.rows p hp).1.chg g (fun k hk => ⟨(hs k hk).1, (hs k hk).2.1⟩), (h.rows p hp).2.chg g (fun k hk => ⟨(hs k hk).1, (hs k hk).2.2.1⟩)⟩⟩
theorem OpsOwn.snoc {B C n : Nat} {w1 w' : World} {v v' : Value} {ps : List ODS} {q : Opr} {d s : Value} (h : OpsOwn B C w1 v ps) (hC : C ≤ B) (g : w1.grownBy w' v.ownBlock) (ho : w'.ownsRow B 46 11 v' n (odrow ps ++ opC q d s)) (hn : n = ps.length + 1)
    (hd : RdK C 5 u8v w1 d q.data) (hs : RdK C 2 i64v w1 s q.seen) : OpsOwn B C w' v' (ps ++ [(q, d, s)]) := by
  have gc : Chg (fun k => v.ownBlock = some k) w1 w' := (Chg.refl (fun k => v.ownBlock = some k) w1).grown g (fun _ e _ => e)
  have hS : ∀ T : Nat, T ≠ 46 → ∀ k, v.ownBlock = some k → C ≤ k ∧ ∀ cs, ¬ Blk w1 k cs T := fun T hT k e => by
    obtain ⟨h1, cs, h2⟩ := own_typ h.own e
    exact ⟨Nat.le_trans hC h1, fun cs' => blk_ne h2 (Ne.symm hT)⟩
  have e8 : 5 ≠ 46 := by decide
  have e64 : 2 ≠ 46 := by decide
  subst hn
  refine ⟨by rw [odrow_snoc, List.length_append]; exact ho, fun p hp => ?_⟩
  rcases List.mem_append.1 hp with hp | hp
  · exact ⟨(h.rows p hp).1.chg gc (hS _ e8), (h.rows p hp).2.chg gc (hS _ e64)⟩
  · simp only [List.mem_singleton] at hp
    subst hp
    exact ⟨hd.chg gc (hS _ e8), hs.chg gc (hS _ e64)⟩
theorem OpsOwn.rd {B C : Nat} {w : World} {v : Value} {ps : List ODS} (h : OpsOwn B C w v ps) : OpsRd w v (ps.map (·.1)) := by
  rcases h.own.2 with ⟨rfl, h0⟩ | ⟨g, c, cur, rfl, h1, h2, h3, h4, h5, h6⟩
  · rw [List.length_eq_zero_iff.1 h0]
    exact ⟨none, 0, rfl, Nat.le_refl _, Nat.zero_le _, fun i q hq => by simp at hq⟩
  · refine ⟨some ⟨g, 0, none⟩, c, by simp, by simpa using h3, h4, fun i q hq => ?_⟩
    have hi : i < ps.length := by
      rcases Nat.lt_or_ge i ps.length with h | h
      · exact h
      · rw [List.getElem?_eq_none (by simpa using h)] at hq; cases hq
    have e : q = ps[i].1 := by
      rw [List.getElem?_map, List.getElem?_eq_getElem hi] at hq
      injection hq with hq
      exact hq.symm
    subst e
    have hB : Blk w g cur 46 := h2
    have hr := h.rows ps[i] (List.getElem_mem hi)
    refine ⟨g, 0, ps[i].2.1, ps[i].2.2, rfl, ⟨fun j u hu => ?_, hr.1.rd, hr.2.rd⟩⟩
    have hj : j < 11 := by
      rcases Nat.lt_or_ge j 11 with h | h
      · exact h
      · rw [List.getElem?_eq_none (by simpa [opC] using h)] at hu; cases hu
    rw [← odrow_at ps i j hi hj, ← h6, List.getElem?_take_of_lt (by omega)] at hu
    rw [Nat.zero_add]
    exact hB.cell (by simpa using hu)
end Go.Proofs.YthbalmoafpggdaaGreat
namespace Go.Proofs.YthbalmoafpggdaaGreat
/-- One bit of a register. -/
def st1 (c : Nat) : Nat := if c % 2 = 1 then c / 2 ^^^ 3988292384 else c / 2
def stN : Nat → Nat → Nat | 0, c => c | n + 1, c => st1 (stN n c)
theorem st1_lt {c : Nat} (h : c < 4294967296) : st1 c < 4294967296 := by
  unfold st1
  split
  · exact Nat.xor_lt_two_pow (n := 32) (by omega) (by decide)
  · omega
theorem stN_lt (n : Nat) {c : Nat} (h : c < 4294967296) : stN n c < 4294967296 := by
  induction n with
  | zero => exact h
  | succ n ih => exact st1_lt ih
theorem st1_xor (a b : Nat) : st1 (a ^^^ b) = st1 a ^^^ st1 b := by
  unfold st1
  have hm : (a ^^^ b) % 2 = (a % 2) ^^^ (b % 2) := Nat.xor_mod_two_pow (n := 1)
  have hd : (a ^^^ b) / 2 = a / 2 ^^^ b / 2 := Nat.xor_div_two
  rw [hd]
  rcases Nat.mod_two_eq_zero_or_one a with ha | ha <;> rcases Nat.mod_two_eq_zero_or_one b with hb | hb <;> rw [hm, ha, hb] <;> simp
  · rw [Nat.xor_assoc]
  · rw [Nat.xor_assoc, Nat.xor_assoc, Nat.xor_comm 3988292384 (b / 2)]
  · rw [show a / 2 ^^^ 3988292384 ^^^ (b / 2 ^^^ 3988292384) = a / 2 ^^^ b / 2 ^^^ (3988292384 ^^^ 3988292384) from by ac_rfl, Nat.xor_self, Nat.xor_zero]
theorem stN_xor (n a b : Nat) : stN n (a ^^^ b) = stN n a ^^^ stN n b := by
  induction n with
  | zero => rfl
  | succ n ih => show st1 _ = st1 _ ^^^ st1 _; rw [ih, st1_xor]
theorem stN_add (m n c : Nat) : stN (m + n) c = stN m (stN n c) := by
  induction m with
  | zero => simp [stN]
  | succ m ih => rw [Nat.succ_add]; show st1 _ = st1 _; rw [ih]
theorem st1_even (z : Nat) : st1 (2 * z) = z := by
  unfold st1
  rw [if_neg (by omega)]
  omega
theorem stN_shl (y : Nat) : stN 4 (16 * y) = y := by
  show st1 (st1 (st1 (st1 (16 * y)))) = y
  rw [show 16 * y = 2 * (8 * y) from by omega, st1_even, show 8 * y = 2 * (4 * y) from by omega, st1_even, show 4 * y = 2 * (2 * y) from by omega, st1_even, st1_even]
theorem nat_split (x : Nat) : x = 16 * (x / 16) ^^^ x % 16 := by
  have h : 16 * (x / 16) ^^^ x % 16 = 16 * (x / 16) + x % 16 := by
    apply Nat.eq_of_testBit_eq
    intro i
    rw [Nat.testBit_xor, show 16 * (x / 16) + x % 16 = 2 ^ 4 * (x / 16) + x % 16 from rfl, Nat.testBit_two_pow_mul_add _ (by omega)]
    rw [show 16 * (x / 16) = 2 ^ 4 * (x / 16) from rfl, Nat.testBit_two_pow_mul]
    by_cases hi : i < 4
    · simp [hi, show ¬ 4 ≤ i from by omega]
    · have : (x % 16).testBit i = false := Nat.testBit_lt_two_pow (Nat.lt_of_lt_of_le (Nat.mod_lt _ (by omega)) (by
        have := Nat.pow_le_pow_right (n := 2) (by omega) (show 4 ≤ i by omega)
        simpa using this))
      simp [hi, this, show 4 ≤ i from by omega]
  rw [h]; omega
theorem stN4 (x : Nat) : stN 4 x = x / 16 ^^^ stN 4 (x % 16) := by
  have h := stN_xor 4 (16 * (x / 16)) (x % 16)
  rw [← nat_split, stN_shl] at h
  exact h
open Go in
theorem st1_bits (n : Nat) (h : n < 4294967296) : bits .xor .u32 ((n : Int) / 2) (bits .and .u32 3988292384 (-bits .and .u32 (n : Int) 1 % 4294967296)) = ((st1 n : Nat) : Int) := by
  have h1 : bits .and .u32 (n : Int) 1 = ((n % 2 : Nat) : Int) := by
    have := u32_and_nat n 1 h (by omega)
    rw [nat_mask1] at this
    exact this
  rw [h1]
  rcases Nat.mod_two_eq_zero_or_one n with h0 | h0
  · have h2 : bits .and .u32 3988292384 (-((n % 2 : Nat) : Int) % 4294967296) = 0 := by rw [h0]; exact u32_and_nat 3988292384 0 (by omega) (by omega)
    rw [h2]
    have h3 := u32_xor_nat (n / 2) 0 (by omega) (by omega)
    rw [Nat.xor_zero] at h3
    unfold st1
    rw [if_neg (by omega)]
    exact h3
  · have h2 : bits .and .u32 3988292384 (-((n % 2 : Nat) : Int) % 4294967296) = 3988292384 := by rw [h0]; exact u32_and_nat 3988292384 4294967295 (by omega) (by omega)
    rw [h2]
    have h3 := u32_xor_nat (n / 2) 3988292384 (by omega) (by omega)
    unfold st1
    rw [if_pos h0]
    exact h3
/-- A register behind bytes. -/
def crcR (c : Nat) (l : List Int) : Nat := l.foldl (fun c b => stN 8 (c ^^^ b.toNat)) c
theorem crcR_append (c : Nat) (l m : List Int) : crcR c (l ++ m) = crcR (crcR c l) m := by simp [crcR]
theorem crcR_lt {c : Nat} (h : c < 4294967296) (l : List Int) (hl : ∀ b ∈ l, 0 ≤ b ∧ b < 256) : crcR c l < 4294967296 := by
  induction l generalizing c with
  | nil => exact h
  | cons b l ih =>
    refine ih (stN_lt 8 (Nat.xor_lt_two_pow (n := 32) h ?_)) (fun x hx => hl x (List.mem_cons_of_mem _ hx))
    have := hl b (List.mem_cons_self ..)
    omega
theorem crcR_take (c : Nat) (l : List Int) (k : Nat) (h : k < l.length) : crcR c (l.take (k + 1)) = stN 8 (crcR c (l.take k) ^^^ (l.getD k 0).toNat) := by
  unfold crcR
  rw [List.take_succ_eq_append_getElem h, List.foldl_append]
  simp [List.getElem?_eq_getElem h]
/-- A nibble, twice. -/
theorem nib_twice (x : Nat) : stN 8 x = (x / 16 ^^^ stN 4 (x % 16)) / 16 ^^^ stN 4 ((x / 16 ^^^ stN 4 (x % 16)) % 16) := by
  rw [show (8 : Nat) = 4 + 4 from rfl, stN_add, ← stN4, ← stN4]
open Go in
/-- A byte taken in, as the code spells it. -/
theorem nib_round (R q : Nat) (hR : R < 4294967296) (hq : q < 256) : ∃ X n1 Y n2 : Nat, bits .xor .u32 (R : Int) (q : Int) = (X : Int) ∧ bits .and .u32 (X : Int) 15 = (n1 : Int) ∧ n1 < 16 ∧
    bits .xor .u32 ((X : Int) / 16) ((stN 4 n1 : Nat) : Int) = (Y : Int) ∧ bits .and .u32 (Y : Int) 15 = (n2 : Int) ∧ n2 < 16 ∧ bits .xor .u32 ((Y : Int) / 16) ((stN 4 n2 : Nat) : Int) = ((stN 8 (R ^^^ q) : Nat) : Int) := by
  have hX : R ^^^ q < 4294967296 := Nat.xor_lt_two_pow (n := 32) hR (by omega)
  have ht1 := stN_lt 4 (show (R ^^^ q) % 16 < 4294967296 by omega)
  have hY : (R ^^^ q) / 16 ^^^ stN 4 ((R ^^^ q) % 16) < 4294967296 := Nat.xor_lt_two_pow (n := 32) (by omega) ht1
  have hnib := nib_twice (R ^^^ q)
  have e1 := u32_xor_nat R q hR (by omega)
  generalize R ^^^ q = X at *
  have e2 := u32_and_nat X 15 hX (by omega)
  rw [nat_mask4] at e2
  have e3 := u32_xor_nat (X / 16) (stN 4 (X % 16)) (by omega) ht1
  generalize X / 16 ^^^ stN 4 (X % 16) = Y at *
  have ht2 := stN_lt 4 (show Y % 16 < 4294967296 by omega)
  have e4 := u32_and_nat Y 15 hY (by omega)
  rw [nat_mask4] at e4
  have e5 := u32_xor_nat (Y / 16) (stN 4 (Y % 16)) (by omega) ht2
  rw [← hnib] at e5
  exact ⟨X, X % 16, Y, Y % 16, e1, e2, by omega, e3, e4, by omega, e5⟩
/-- What the document calls a sum, off a register. -/
def flip32 (c : Nat) : Nat := c ^^^ 4294967295
theorem flip32_lt {c : Nat} (h : c < 4294967296) : flip32 c < 4294967296 := by
  have := Nat.xor_lt_two_pow (n := 32) (x := c) (y := 4294967295) (by omega) (by omega)
  unfold flip32
  omega
theorem xor_twice (a c : Nat) : (c ^^^ a) ^^^ a = c := by rw [Nat.xor_assoc, Nat.xor_self, Nat.xor_zero]
theorem flip32_flip32 (c : Nat) : flip32 (flip32 c) = c := xor_twice 4294967295 c
open Go in
theorem bits_flip (m : Int) (k : Nat) (hm : m = k) (hk : k < 4294967296) (x : Nat) (h : x < 4294967296) : bits .xor .u32 m (x : Int) = ((x ^^^ k : Nat) : Int) := by
  rw [hm, u32_xor_nat k x hk h, Nat.xor_comm]
open Go in
theorem flip_bits (x : Nat) (h : x < 4294967296) : bits .xor .u32 IntKind.u32.max (x : Int) = ((flip32 x : Nat) : Int) :=
  bits_flip _ 4294967295 (by simp [IntKind.max, IntKind.bits, IntKind.signed]) (by omega) x h
def crcOf (l : List Int) : Nat := flip32 (crcR 4294967295 l)
end Go.Proofs.YthbalmoafpggdaaGreat
namespace Go.Proofs.YthbalmoafpggdaaGreat
open Go.RowKit
set_option linter.unusedVariables false
set_option linter.unusedSimpArgs false
def SumAt (w : World) (b : Nat) (x : Nat) : Prop := Blk w b #[.int .u32 (x : Int)] 114
def tab (k : Nat) : Array Value := ((List.range 16).map fun i => Value.int .u32 ((if i < k then stN 4 i else 0 : Nat) : Int)).toArray
theorem tab_get (k i : Nat) (h : i < 16) : (tab k)[i]? = some (.int .u32 ((if i < k then stN 4 i else 0 : Nat) : Int)) := by simp [tab, h]
theorem tab_set (k : Nat) (h : k < 16) : (tab k).setIfInBounds k (.int .u32 (stN 4 k : Nat)) = tab (k + 1) := by
  apply Array.ext_getElem?
  intro i
  have hs : (tab k).size = 16 := by simp [tab]
  rw [Array.getElem?_setIfInBounds, hs]
  by_cases hi : i < 16
  · rw [tab_get (k + 1) i hi, tab_get k i hi]
    by_cases e : k = i
    · subst e
      rw [if_pos rfl, if_pos h, if_pos (by omega)]
    · rw [if_neg e]
      by_cases h4 : i < k
      · rw [if_pos h4, if_pos (by omega)]
      · rw [if_neg h4, if_neg (by omega)]
  · rw [if_neg (by omega)]
    have hs' : (tab (k + 1)).size = 16 := by simp [tab]
    rw [Array.getElem?_eq_none (by omega), Array.getElem?_eq_none (by omega)]
set_option maxHeartbeats 1000000 in
set_option maxRecDepth 100000 in
theorem crcAdd (b : Nat) (x : Nat) (v : Value) (l : List Int) (w : World) (hx : x < 4294967296) (hs : SumAt w b x) (hv : Rdv u8v w v l) (hl : ∀ q ∈ l, 0 ≤ q ∧ q < 256) :
    Calls Tryz.prog 95 #[.pointer (some ⟨b, 0, none⟩), v] w fun e w' => e = .returned (.tuple #[]) ∧ SumAt w' b (flip32 (crcR (flip32 x) l)) ∧ Chg (· = b) w w' := by
  go_enter Tryz.func95, Tryz.ntmps95
  go_wp2
  have hz := hs.lt
  have T0 : Blk (w.alloc (.cells #[.int .u32 0, .int .u32 0, .int .u32 0, .int .u32 0, .int .u32 0, .int .u32 0, .int .u32 0, .int .u32 0, .int .u32 0, .int .u32 0, .int .u32 0, .int .u32 0, .int .u32 0, .int .u32 0, .int .u32 0, .int .u32 0] 115)) w.heap.size (tab 0) 115 := Blk.new _ _ _
  go_loopw [13] (fun i wr => ∃ k : Nat, k ≤ 16 ∧ i = .int .i64 k ∧ Blk wr w.heap.size (tab k) 115 ∧ Below w.heap.size w wr) (fun i _ => 16 - (intOf i).toNat)
  case atStart => exact ⟨0, by omega, rfl, T0, by (repeat (first | exact Below.refl _ _ | (with_reducible assumption) | apply Below.drew | (refine Below.alloc ?_ (by first | exact Nat.le_refl _ | omega | (simp; done) | (simp; omega)) _) | (refine Below.setCell ?_ (by first | exact Nat.le_refl _ | omega | (simp; done) | (simp; omega)) _) | (refine Below.trans ?_ (Below.mono (by with_reducible assumption) (by first | omega | (simp; done) | (simp; omega))))))⟩
  case round =>
    obtain ⟨k, hk, rfl, ht, hb⟩ := hrel
    clear T0
    by_cases hlt : k < 16
    · go_wp2
      go_loop [6, 18] (fun x j => ∃ i : Nat, i ≤ 4 ∧ j = .int .i64 i ∧ x = .int .u32 (stN i k : Nat)) (fun _ j => 4 - (intOf j).toNat)
      case atStart => exact ⟨0, by omega, rfl, by first | rfl | (simp [stN]; done)⟩
      case round =>
        obtain ⟨i, hi, rfl, rfl⟩ := hrel
        have hlt4 := stN_lt i (show k < 4294967296 by omega)
        by_cases hli : i < 4
        · have hst := st1_bits (stN i k) hlt4
          have HST := Lib.hid hst
          clear hst
          go_wp2
          go_round
          case rel => exact ⟨i + 1, by omega, by go_num, by rw [HST.out]; rfl⟩
          case measure => simp [intOf]; omega
        · obtain rfl : i = 4 := by omega
          have hc := ht.cell (o := k) (v := .int .u32 0) (by simp [tab, hlt])
          have hf := ht.free k
          have hlz := ht.lt
          have HT := Lib.hid ht
          clear ht
          go_wp2
          go_roundw
          case rel => exact ⟨k + 1, by omega, by go_num, by rw [← tab_set k hlt]; exact HT.out.set k _, by (repeat (first | exact Below.refl _ _ | (with_reducible assumption) | apply Below.drew | (refine Below.alloc ?_ (by first | exact Nat.le_refl _ | omega | (simp; done) | (simp; omega)) _) | (refine Below.setCell ?_ (by first | exact Nat.le_refl _ | omega | (simp; done) | (simp; omega)) _) | (refine Below.trans ?_ (Below.mono (by with_reducible assumption) (by first | omega | (simp; done) | (simp; omega))))))⟩
          case measure => simp [intOf]; omega
    · obtain rfl : k = 16 := by omega
      have hs1 := blkBelow hb hs hz
      have hsc := hs1.cell (o := 0) rfl
      have hsf := hs1.free 0
      have hv1 := hv.below hb
      have h1z := hs1.lt
      have HT := Lib.hid ht
      have HS := Lib.hid hs1
      clear ht hs hv hs1
      obtain ⟨va, vc, rfl, v1, v2, v3⟩ := hv1
      unfold maxLen at v2
      have HV := Lib.hid v3
      clear v3
      have hfl := flip_bits x hx
      have HFL := Lib.hid hfl
      have hflt := flip32_lt hx
      clear hfl
      go_wp2
      rw [HFL.out]
      go_loop [7, 39] (fun y i => ∃ k : Nat, k ≤ l.length ∧ i = .int .i64 k ∧ y = .int .u32 (crcR (flip32 x) (l.take k) : Nat)) (fun _ i => l.length - (intOf i).toNat)
      case atStart => exact ⟨0, by omega, rfl, rfl⟩
      case round =>
        obtain ⟨k, hk, rfl, rfl⟩ := hrel
        have hR := crcR_lt hflt (l.take k) (fun q hq => hl q (List.mem_of_mem_take hq))
        by_cases hlt : k < l.length
        · rcases HV.out with rfl | ⟨b1, o1, rfl, hc1⟩
          · exact absurd hlt (by simp)
          have hc := hc1 k hlt
          have hstep := Lib.hid (crcR_take (flip32 x) l k hlt)
          have hq := hl (l.getD k 0) (by rw [List.getD_eq_getElem?_getD, List.getElem?_eq_getElem hlt]; exact List.getElem_mem hlt)
          obtain ⟨q, hqe⟩ := Int.eq_ofNat_of_zero_le hq.1
          rw [hqe] at hc hq
          have hq2 : q < 256 := by omega
          have HQ := Lib.hid hqe
          clear hc1 hqe
          generalize crcR (flip32 x) (l.take k) = R at *
          obtain ⟨X, n1, Y, n2, e1, e2, l1, e3, e4, l2, e5⟩ := nib_round R q hR hq2
          have hc1 := HT.out.cell (o := n1) (tab_get 16 n1 l1)
          have hc2 := HT.out.cell (o := n2) (tab_get 16 n2 l2)
          rw [if_pos l1] at hc1
          rw [if_pos l2] at hc2
          have hZ := Lib.hid (hstep.out.trans (by rw [HQ.out, Int.toNat_natCast]))
          have L1 : n1 < 16 := l1
          go_wp2
          go_round
          case rel => exact ⟨k + 1, by omega, by go_num, by rw [hZ.out]⟩
          case measure => simp [intOf]; omega
        · obtain rfl : k = l.length := by omega
          have hR' : crcR (flip32 x) (l.take l.length) = crcR (flip32 x) l := by rw [List.take_length]
          rw [hR'] at hR
          have hfl := flip_bits _ hR
          have HFL := Lib.hid hfl
          have HR' := Lib.hid hR'
          clear hfl HV hR'
          go_wp2
          go_end0
          refine ⟨rfl, ?_, (Chg.of_below (S := (· = b)) hb (fun i hi h => absurd hi (by omega))).set (p := ⟨b, 0, none⟩) (fun _ => rfl) _⟩
          rw [HFL.out]
          exact HS.out.set 0 _
theorem crcNew (w : World) : Calls Tryz.prog 93 #[] w fun e w' => e = .returned (.pointer (some ⟨w.heap.size, 0, none⟩)) ∧ SumAt w' w.heap.size 0 ∧ w' = w.alloc (.cells #[.int .u32 0] 114) := by
  go_enter Tryz.func93, Tryz.ntmps93
  go_wp2
  go_ret
  exact ⟨rfl, Blk.new _ _ _, rfl⟩
theorem crcValue (b : Nat) (x : Nat) (w : World) (hs : SumAt w b x) : Calls Tryz.prog 96 #[.pointer (some ⟨b, 0, none⟩)] w fun e w' => e = .returned (.int .u32 x) ∧ w = w' := by
  have hc := hs.cell (o := 0) rfl
  have hz := hs.lt
  clear hs
  go_enter Tryz.func96, Tryz.ntmps96
  go_wp2
  go_ret
  exact ⟨rfl, rfl⟩
/-- A slice of slices of bytes. -/
def RdBs (w : World) (v : Value) (yss : List (List Int)) : Prop :=
  ∃ a c, v = .slice a yss.length c ∧ yss.length ≤ c ∧ c ≤ maxLen ∧ (yss = [] ∨ ∃ b o, a = some ⟨b, o, none⟩ ∧ ∀ j, j < yss.length → ∃ u, w.cell? ⟨b, o + j, none⟩ = some u ∧ Rdv u8v w u (yss.getD j []))
theorem RdBs.of_cells {w w' : World} {v : Value} {yss : List (List Int)} (h : RdBs w v yss) (hc : ∀ a u, w.cell? a = some u → w'.cell? a = some u) : RdBs w' v yss := by
  obtain ⟨a, c, rfl, h1, h2, h3⟩ := h
  refine ⟨a, c, rfl, h1, h2, ?_⟩
  rcases h3 with h3 | ⟨b, o, rfl, h3⟩
  · exact .inl h3
  · exact .inr ⟨b, o, rfl, fun j hj => by obtain ⟨u, hu, hr⟩ := h3 j hj; exact ⟨u, hc _ _ hu, hr.of_cells hc⟩⟩
theorem RdBs.below {w w' : World} {v : Value} {yss : List (List Int)} (h : RdBs w v yss) (hb : Below w.heap.size w w') : RdBs w' v yss := h.of_cells (below_cell hb)
theorem RdBs.one {w : World} {b : Nat} {v : Value} {T : TypeId} {l : List Int} (hb : Blk w b #[v] T) (hv : Rdv u8v w v l) : RdBs w (.slice (some ⟨b, 0, none⟩) 1 1) [l] :=
  ⟨_, _, rfl, Nat.le_refl _, by unfold maxLen; simp, .inr ⟨b, 0, rfl, fun j hj => by
    have : j = 0 := by simpa using hj
    subst this
    exact ⟨v, hb.cell rfl, hv⟩⟩⟩
def AllB (yss : List (List Int)) : Prop := ∀ l ∈ yss, ∀ q ∈ l, 0 ≤ q ∧ q < 256
set_option maxHeartbeats 1000000 in
set_option maxRecDepth 100000 in
theorem crcEach (b : Nat) (x : Nat) (v : Value) (yss : List (List Int)) (w0 w : World) (hx : x < 4294967296) (hs : SumAt w b x) (hv : RdBs w0 v yss) (h0 : Below w0.heap.size w0 w) (hb0 : w0.heap.size ≤ b) (hl : AllB yss) :
    Calls Tryz.prog 94 #[v, .func (.func 95) #[.pointer (some ⟨b, 0, none⟩)] #[]] w fun e w' => e = .returned (.tuple #[]) ∧ SumAt w' b (flip32 (crcR (flip32 x) yss.flatten)) ∧ Chg (· = b) w w' := by
  have KV := Lib.hid (fun w1 hb => hv.below (w' := w1) hb)
  obtain ⟨a, c, rfl, v1, v2, v3⟩ := hv
  unfold maxLen at v2
  clear v3
  go_enter Tryz.func94, Tryz.ntmps94
  go_wp2
  go_loopw [8] (fun i wr => ∃ k : Nat, k ≤ yss.length ∧ i = .int .i64 k ∧ SumAt wr b (flip32 (crcR (flip32 x) (yss.take k).flatten)) ∧ Chg (· = b) w wr) (fun i _ => yss.length - (intOf i).toNat)
  case atStart => exact ⟨0, by omega, rfl, by rw [show flip32 (crcR (flip32 x) (yss.take 0).flatten) = x from flip32_flip32 x]; exact hs, Chg.refl _ _⟩
  case round =>
    obtain ⟨k, hk, rfl, hs1, hg⟩ := hrel
    have hb1 := Chg.below_trans h0 hg h0.size (fun i hi e => by omega)
    by_cases hlt : k < yss.length
    · obtain ⟨a', c', e, _, _, h3⟩ := KV.out _ hb1
      rw [Value.slice.injEq] at e
      obtain ⟨rfl, _, rfl⟩ := e
      rcases h3 with h3 | ⟨b1, o1, rfl, h3⟩
      · rw [h3] at hlt; exact absurd hlt (by simp)
      obtain ⟨u, hu, hr⟩ := h3 k hlt
      obtain ⟨ua, un, uc, rfl⟩ := hr.shape
      have hR := crcR_lt (flip32_lt hx) (yss.take k).flatten (fun q hq => by
        obtain ⟨l, hl1, hl2⟩ := List.mem_flatten.1 hq
        exact hl l (List.mem_of_mem_take hl1) q hl2)
      have hm : yss.getD k [] ∈ yss := by rw [List.getD_eq_getElem?_getD, List.getElem?_eq_getElem hlt]; exact List.getElem_mem hlt
      have hst : Hid (flip32 (crcR (flip32 (flip32 (crcR (flip32 x) (yss.take k).flatten))) (yss.getD k [])) = flip32 (crcR (flip32 x) (yss.take (k + 1)).flatten)) := by
        refine congrArg flip32 ?_
        rw [flip32_flip32, List.take_succ_eq_append_getElem hlt, List.flatten_append, crcR_append]
        simp [List.getElem?_eq_getElem hlt]
      have KA := Lib.hid (crcAdd b _ _ _ wr (flip32_lt hR) hs1 hr (hl _ hm))
      clear h3 hr hs1
      go_wp2_with fail
      refine KA.out.mono ?_
      rintro e w2 ⟨rfl, hs2, hg2⟩
      rw [hst.out] at hs2
      go_wp2
      go_roundw
      case rel => exact ⟨k + 1, by omega, by go_num, hs2, hg.trans hg2⟩
      case measure => simp [intOf]; omega
    · obtain rfl : k = yss.length := by omega
      rw [List.take_length] at hs1
      have HS := Lib.hid hs1
      clear hs1 KV
      go_wp2
      go_end0
      exact ⟨rfl, HS.out, hg⟩
set_option maxHeartbeats 1000000 in
theorem crcOfC (v : Value) (yss : List (List Int)) (w : World) (hv : RdBs w v yss) (hl : AllB yss) :
    Calls Tryz.prog 71 #[v] w fun e w' => e = .returned (.int .u32 (crcOf yss.flatten : Nat)) ∧ Below w.heap.size w w' := by
  have K := Lib.hid (crcEach w.heap.size 0 v yss w (w.alloc (.cells #[.int .u32 0] 114)) (by omega) (Blk.new _ _ _) hv (by (repeat (first | exact Below.refl _ _ | (with_reducible assumption) | apply Below.drew | (refine Below.alloc ?_ (by first | exact Nat.le_refl _ | omega | (simp; done) | (simp; omega)) _) | (refine Below.setCell ?_ (by first | exact Nat.le_refl _ | omega | (simp; done) | (simp; omega)) _) | (refine Below.trans ?_ (Below.mono (by with_reducible assumption) (by first | omega | (simp; done) | (simp; omega))))))) (Nat.le_refl _) hl)
  clear hv
  go_enter Tryz.func71, Tryz.ntmps71
  go_wp2_with fail
  refine (crcNew w).mono ?_
  rintro e w1 ⟨rfl, _, rfl⟩
  go_wp2_with fail
  refine K.out.mono ?_
  rintro e w2 ⟨rfl, hs2, hg2⟩
  have hz := hg2.size
  simp at hz
  go_wp2_with fail
  refine (crcValue _ _ _ hs2).mono ?_
  rintro e w3 ⟨rfl, rfl⟩
  go_wp2
  go_ret
  exact ⟨ret_i (by rfl), Chg.below_trans ((Below.refl _ w).alloc (Nat.le_refl _) _) hg2 (by simp) (fun i hi e => by omega)⟩
end Go.Proofs.YthbalmoafpggdaaGreat
namespace Go.Proofs.YthbalmoafpggdaaGreat
open Go.RowKit
set_option linter.unusedVariables false
set_option linter.unusedSimpArgs false
/-- The number that four bytes are. -/
def get4 (l : List Int) : Nat := v4 (l.getD 0 0).toNat (l.getD 1 0).toNat (l.getD 2 0).toNat (l.getD 3 0).toNat
theorem get4_of {l : List Int} {a b c d : Nat} (h0 : l.getD 0 0 = a) (h1 : l.getD 1 0 = b) (h2 : l.getD 2 0 = c) (h3 : l.getD 3 0 = d) : get4 l = v4 a b c d := by
  unfold get4; rw [h0, h1, h2, h3]; simp
theorem get4_lt {l : List Int} (h : Byt l) : get4 l < 4294967296 := by
  have hq : ∀ i, (l.getD i 0).toNat < 256 := fun i => by
    by_cases hi : i < l.length
    · obtain ⟨x, e, hx⟩ := h.at_ i hi
      rw [e]; simpa using hx
    · rw [List.getD_eq_getElem?_getD, List.getElem?_eq_none (by omega)]; simp
  have := hq 0; have := hq 1; have := hq 2; have := hq 3
  unfold get4 v4; omega
theorem get32 (v : Value) (l : List Int) (w : World) (h : Rdv u8v w v l) (hb : Byt l) (h4 : 4 ≤ l.length) :
    Calls Tryz.prog 78 #[v] w fun e w' => e = .returned (.int .u32 (get4 l : Nat)) ∧ Drw w w' := by
  obtain ⟨a, c, rfl, h1, h2, h3⟩ := h
  unfold maxLen at h2
  rcases h3 with rfl | ⟨b, o, rfl, h3⟩
  · simp at h4
  obtain ⟨x0, y0, b0⟩ := hb.at_ 0 (by omega)
  obtain ⟨x1, y1, b1⟩ := hb.at_ 1 (by omega)
  obtain ⟨x2, y2, b2⟩ := hb.at_ 2 (by omega)
  obtain ⟨x3, y3, b3⟩ := hb.at_ 3 (by omega)
  have c0 := h3 0 (by omega)
  have c1 := h3 1 (by omega)
  have c2 := h3 2 (by omega)
  have c3 := h3 3 (by omega)
  rw [y0, Nat.add_zero] at c0
  rw [y1] at c1
  rw [y2] at c2
  rw [y3] at c3
  have HG := Lib.hid (get4_of y0 y1 y2 y3)
  have HJ := Lib.hid (join_u32 x0 x1 x2 x3 b0 b1 b2 b3)
  clear h3 y0 y1 y2 y3
  go_enter Tryz.func78, Tryz.ntmps78
  go_wp2
  go_quiet (fail)
  go_wp2
  go_ret
  exact ⟨ret_i (by rw [HG.out]; exact HJ.out), _, rfl⟩
theorem crcRefNum (v : Value) (l : List Int) (w : World) (h : Rdv u8v w v l) (hb : Byt l) (h4 : 4 ≤ l.length) :
    Calls Tryz.prog 85 #[v] w fun e w' => e = .returned (.int .i64 (get4 l : Nat)) ∧ Drw w w' := by
  obtain ⟨a, c, rfl, h1, h2, h3⟩ := h
  unfold maxLen at h2
  rcases h3 with rfl | ⟨b, o, rfl, h3⟩
  · simp at h4
  obtain ⟨x0, y0, b0⟩ := hb.at_ 0 (by omega)
  obtain ⟨x1, y1, b1⟩ := hb.at_ 1 (by omega)
  obtain ⟨x2, y2, b2⟩ := hb.at_ 2 (by omega)
  obtain ⟨x3, y3, b3⟩ := hb.at_ 3 (by omega)
  have c0 := h3 0 (by omega)
  have c1 := h3 1 (by omega)
  have c2 := h3 2 (by omega)
  have c3 := h3 3 (by omega)
  rw [y0, Nat.add_zero] at c0
  rw [y1] at c1
  rw [y2] at c2
  rw [y3] at c3
  have HG := Lib.hid (get4_of y0 y1 y2 y3)
  have HJ := Lib.hid (join_i64 x0 x1 x2 x3 b0 b1 b2 b3)
  clear h3 y0 y1 y2 y3
  go_enter Tryz.func85, Tryz.ntmps85
  go_wp2
  go_quiet (fail)
  go_wp2
  go_ret
  exact ⟨ret_i (by rw [HG.out]; exact HJ.out), _, rfl⟩
def OwnPost (B : Nat) (xs : List Int) (S : Nat → Prop) (w : World) (e : Ending) (w' : World) : Prop :=
  ∃ v, e = .returned v ∧ w'.ownsRow B 5 1 v xs.length (xs.map u8v) ∧ Chg S w w'
theorem le4_len (x : Nat) : (le4 x).length = 4 := rfl
set_option maxHeartbeats 1000000 in
theorem app32 (B : Nat) (v : Value) (xs : List Int) (x : Nat) (w : World) (hx : x < 4294967296) (hown : w.ownsRow B 5 1 v xs.length (xs.map u8v)) (hB : B ≤ w.heap.size) (hl : xs.length ≤ 1000000000000) :
    Calls Tryz.prog 70 #[v, .int .u32 (x : Int)] w (OwnPost B (xs ++ le4 x) (fun k => some k = v.ownBlock) w) := by
  obtain ⟨i0, hi, hz0, hz1, hz2⟩ := info_parts Tryz.info5
  have hlt := fun k hk => (hown.lt k hk)
  have h24 : Hid ((x : Int) / 16777216 = (x : Int) / 16777216 % 256) := by show (x : Int) / 16777216 = (x : Int) / 16777216 % 256; omega
  have HL := Lib.hid hlt
  clear hlt
  go_enter Tryz.func70, Tryz.ntmps70
  go_wp2_with (at_builtin; refine wpList_append_own _ rfl _ _ 30 rfl B 5 i0 (.int .u8 0) 1 1 Tryz.underlying30 hi hz0 hz1 hz2 rfl (by decide) v _ _ rfl (hown.alloc _) ⟨w.heap.size, 0, none⟩ 4 4 [.int .u8 ((x : Int) % 256), .int .u8 ((x : Int) / 256 % 256), .int .u8 ((x : Int) / 65536 % 256), .int .u8 ((x : Int) / 16777216)] rfl rfl ?c1 ?c2 ?c3 ?c4 ?c5 ?_)
  case c1 =>
    intro j u hu
    have hj : j < 4 := by
      rcases Nat.lt_or_ge j 4 with h | h
      · exact h
      · rw [List.getElem?_eq_none (by simpa using h)] at hu; cases hu
    have hb := Blk.new w #[.int .u8 ((x : Int) % 256), .int .u8 ((x : Int) / 256 % 256), .int .u8 ((x : Int) / 65536 % 256), .int .u8 ((x : Int) / 16777216)] 5
    have e : (⟨w.heap.size, 0, none⟩ : Addr).add j = ⟨w.heap.size, j, none⟩ := by
      unfold Addr.add
      split
      · next h => rw [h]
      · simp
    rw [e]
    exact hb.cell (by simpa using hu)
  case c2 => intro u hu; simp at hu; rcases hu with rfl | rfl | rfl | rfl <;> rfl
  case c3 => unfold maxLen; omega
  case c4 => omega
  case c5 => simp; omega
  intro v' w1 hown1 hgrow1 _
  have hg : Chg (fun k => some k = v.ownBlock) w w1 := ((Chg.refl _ w).alloc _).grown hgrow1 (fun k hk _ => hk.symm)
  have HO := Lib.hid hown1
  have HG := Lib.hid hg
  clear hown1 hgrow1 hg
  go_wp2
  go_ret
  refine ⟨_, rfl, ?_, HG.out⟩
  have h := HO.out
  rw [h24.out] at h
  simpa [le4] using h

theorem le4_byt (x : Nat) : Byt (le4 x) := by
  intro q hq
  simp [le4] at hq
  omega
theorem AllB.one {l : List Int} (h : Byt l) : AllB [l] := by
  intro x hx q hq
  have : x = l := by simpa using hx
  subst this
  exact h q hq
def frameL (l : List Int) : List Int := le4 l.length ++ le4 (crcOf l) ++ l
theorem crcOf_lt {l : List Int} (h : Byt l) : crcOf l < 4294967296 := flip32_lt (crcR_lt (by omega) l h)
def FramePost (B : Nat) (xs : List Int) (w : World) (e : Ending) (w' : World) : Prop :=
  ∃ v, e = .returned (.tuple #[v, .int .i64 0]) ∧ w'.ownsRow B 5 1 v xs.length (xs.map u8v) ∧ Below w.heap.size w w'
set_option maxHeartbeats 1000000 in
theorem crcFrameBig (v : Value) (l : List Int) (w : World) (h : Rdv u8v w v l) (hl : 1048576 < l.length) :
    Calls Tryz.prog 31 #[v] w fun e w' => e = .returned (.tuple #[.slice none 0 0, .int .i64 22]) ∧ w = w' := by
  obtain ⟨a, c, rfl, h1, h2, h3⟩ := h
  unfold maxLen at h2
  clear h3
  go_enter Tryz.func31, Tryz.ntmps31
  go_wp2
  go_ret2
  exact ⟨rfl, rfl⟩
set_option maxHeartbeats 2000000 in
set_option maxRecDepth 100000 in
theorem crcFrameOk (v : Value) (l : List Int) (w : World) (h : Rdv u8v w v l) (hb : Byt l) (hl : l.length ≤ 1048576) :
    Calls Tryz.prog 31 #[v] w (FramePost w.heap.size (frameL l) w) := by
  obtain ⟨i0, hi, hz0, hz1, hz2⟩ := info_parts Tryz.info5
  have h0 := h
  obtain ⟨a, c, rfl, h1, h2, h3⟩ := h
  unfold maxLen at h2
  clear h3
  have hlen := Lib.hid (le4_len l.length)
  have K1 := Lib.hid (app32 w.heap.size (.slice none 0 0) [] l.length w (by omega) (World.ownsRow_nil _ _ _ _) (Nat.le_refl _) (by simp))
  have hcl := crcOf_lt hb
  go_enter Tryz.func31, Tryz.ntmps31
  go_wp2_with fail
  refine K1.out.mono ?_
  rintro e w1 ⟨v1, rfl, ho1, hg1⟩
  have b1 : Below w.heap.size w w1 := hg1.below (Nat.le_refl _) (fun i hi hs => by simp [Value.ownBlock] at hs)
  have z1 := b1.size
  clear K1
  go_wp2_with fail
  have hr1 := h0.below b1
  have hx := RdBs.one (Blk.new w1 #[.slice a l.length c] 30) (hr1.alloc _)
  refine (crcOfC _ _ _ hx (AllB.one hb)).mono ?_
  clear hx
  rintro e w2 ⟨rfl, b2⟩
  rw [show [l].flatten = l from by simp]
  have b2' : Below w1.heap.size w1 w2 := ((Below.refl _ w1).alloc (Nat.le_refl _) (.cells #[.slice a l.length c] 30)).trans (b2.mono (by simp))
  clear b2
  have z2 := b2'.size
  have ho2 : w2.ownsRow w.heap.size 5 1 v1 (le4 l.length).length ((le4 l.length).map u8v) := ownsRow_below (by simpa using ho1) b2'
  have K2 := Lib.hid (app32 w.heap.size v1 (le4 l.length) (crcOf l) w2 hcl ho2 (by omega) (by rw [le4_len]; omega))
  clear ho1
  go_wp2_with fail
  refine K2.out.mono ?_
  rintro e w3 ⟨v3, rfl, ho3, hg3⟩
  have b3 := Chg.below_trans (b1.trans (b2'.mono z1)) hg3 (by omega) (fun i hi hs => by have := (ho2.lt i hs.symm).1; omega)
  have z3 := b3.size
  have hr3 := h0.below b3
  clear K2 ho2 hg3
  go_wp2_with (at_builtin; refine wpList_append_rd rfl _ _ 30 rfl w.heap.size 5 i0 (.int .u8 0) 1 Tryz.underlying30 hi hz0 hz1 hz2 rfl v3 _ _ rfl ho3 (.slice a l.length c) u8v l rfl hr3 (fun _ => rfl) ?c1 ?c2 ?c3 ?_)
  case c1 => simp [le4_len]; unfold maxLen; omega
  case c2 => simp [le4_len]; omega
  case c3 => exact z3
  intro v4 w4 ho4 hg4 _
  have b4 := b3.grown hg4 z3 (fun q hq => (ho3.lt q hq).1)
  have HO := Lib.hid ho4
  clear ho4 ho3 hg4 hr3
  go_wp2
  go_ret2
  refine ⟨v4, rfl, ?_, b4⟩
  have := HO.out
  simpa [frameL, Nat.add_assoc] using this
end Go.Proofs.YthbalmoafpggdaaGreat
namespace Go.Proofs.YthbalmoafpggdaaGreat
open Go.RowKit
set_option linter.unusedVariables false
set_option linter.unusedSimpArgs false
def UnfPost (r : List Int) (k err : Nat) (w : World) (e : Ending) (w' : World) : Prop :=
  ∃ v, e = .returned (.tuple #[v, .int .i64 k, .int .i64 err]) ∧ Rdv u8v w' v r ∧ Below w.heap.size w w'
theorem unf_short (v : Value) (l : List Int) (w : World) (h : Rdv u8v w v l) (hl : l.length < 8) :
    Calls Tryz.prog 34 #[v] w (UnfPost [] 0 22 w) := by
  obtain ⟨a, m, c, rfl⟩ := h.shape
  obtain ⟨rfl, h1, h2, h3⟩ := h.cap
  unfold maxLen at h2
  clear h3 h
  go_enter Tryz.func34, Tryz.ntmps34
  go_wp2
  go_ret3
  exact ⟨_, rfl, Rdv.nil _ _, Below.refl _ _⟩
theorem unf_long1 (a : Option Addr) (m c n : Nat) (w : World) (K : Hid (Calls Tryz.prog 78 #[.slice a m c] w fun e w' => e = .returned (.int .u32 (n : Int)) ∧ Drw w w')) (h8 : 8 ≤ m) (hc : m ≤ c) (h2 : c ≤ 9223372036854775807) (hlt : n < 4294967296) (hg : 1048576 < n) :
    Calls Tryz.prog 34 #[.slice a m c] w (UnfPost [] 0 22 w) := by
  go_enter Tryz.func34, Tryz.ntmps34
  go_wp2_with (go_at_call 78; refine K.out.mono ?_; rintro e w' ⟨rfl, nd, rfl⟩)
  go_ret3
  exact ⟨_, rfl, Rdv.nil _ _, (Drw.below ⟨nd, rfl⟩)⟩
theorem unf_long2 (a : Option Addr) (m c n : Nat) (w : World) (K : Hid (Calls Tryz.prog 78 #[.slice a m c] w fun e w' => e = .returned (.int .u32 (n : Int)) ∧ Drw w w')) (h8 : 8 ≤ m) (hc : m ≤ c) (h2 : c ≤ 9223372036854775807) (hlt : n ≤ 1048576) (hg : m < n + 8) :
    Calls Tryz.prog 34 #[.slice a m c] w (UnfPost [] 0 22 w) := by
  go_enter Tryz.func34, Tryz.ntmps34
  go_wp2_with (go_at_call 78; refine K.out.mono ?_; rintro e w' ⟨rfl, nd, rfl⟩)
  go_ret3
  exact ⟨_, rfl, Rdv.nil _ _, (Drw.below ⟨nd, rfl⟩)⟩
theorem unf_long (v : Value) (l : List Int) (w : World) (h : Rdv u8v w v l) (hb : Byt l) (hl : 8 ≤ l.length) (hg : 1048576 < get4 l ∨ l.length < get4 l + 8) :
    Calls Tryz.prog 34 #[v] w (UnfPost [] 0 22 w) := by
  have K := Lib.hid (get32 v l w h hb (by omega))
  obtain ⟨a, m, c, rfl⟩ := h.shape
  obtain ⟨rfl, h1, h2, h3⟩ := h.cap
  unfold maxLen at h2
  by_cases hg1 : 1048576 < get4 l
  · exact unf_long1 a _ c (get4 l) w K hl h1 h2 (get4_lt hb) hg1
  · exact unf_long2 a _ c (get4 l) w K hl h1 h2 (by omega) (by omega)
set_option maxHeartbeats 2000000 in
set_option maxRecDepth 100000 in
/-- Behind the checks of its length: a frame whose sum is right or wrong. -/
theorem unf_good (b o m c n s g : Nat) (r : List Int) (w : World) (K : Hid (Calls Tryz.prog 78 #[.slice (some ⟨b, o, none⟩) m c] w fun e w' => e = .returned (.int .u32 (n : Int)) ∧ Drw w w'))
    (KO : Hid (∀ w' B, B = w'.heap.size → Below w.heap.size w w' → Calls Tryz.prog 71 #[.slice (some ⟨B, 0, none⟩) 1 1] (w'.alloc (.cells #[.slice (some ⟨b, o + 8, none⟩) n (c - 8)] 30)) fun e w2 => e = .returned (.int .u32 (s : Int)) ∧ Below w'.heap.size w' w2))
    (KG : Hid (∀ w', Below w.heap.size w w' → Calls Tryz.prog 78 #[.slice (some ⟨b, o + 4, none⟩) (m - 4) (c - 4)] w' fun e w2 => e = .returned (.int .u32 (g : Int)) ∧ Drw w' w2))
    (KC : Hid (∀ w', Below w.heap.size w w' → Calls Tryz.prog 66 #[.slice (some ⟨b, o + 8, none⟩) n (c - 8)] w' (ClonePost r w')))
    (h8 : 8 ≤ m) (hc : m ≤ c) (hc8 : 8 < c) (h2 : c ≤ 9223372036854775807) (hlt : n ≤ 1048576) (hg : n + 8 ≤ m) (he : ((s : Int) != (g : Int)) = false) :
    Calls Tryz.prog 34 #[.slice (some ⟨b, o, none⟩) m c] w (UnfPost r (8 + n) 0 w) := by
  have n8 : ¬ c = 8 := by omega
  have n4 : ¬ c = 4 := by omega
  have i4 : (4 : Int) ≤ (m : Int) := by omega
  have i4c : (4 : Int) ≤ (c : Int) := by omega
  have imc : (m : Int) ≤ (c : Int) := by omega
  go_enter Tryz.func34, Tryz.ntmps34
  go_wp2_with (go_at_call 78; refine K.out.mono ?_; rintro e w' ⟨rfl, nd, rfl⟩)
  have b0 : Below w.heap.size w (w.drewN nd) := Drw.below ⟨nd, rfl⟩
  go_region_held3 (fun w' => Below w.heap.size w w') ((first | (with_reducible assumption) | exact Below.drew (by assumption) | exact Below.alloc (by assumption) (Below.size (by assumption)) _)) (first | (go_at_call 71; (with_reducible refine (KO.out _ _ ?hB ?ho).mono ?_); (case hB => rfl); (case ho => exact Drw.below ⟨_, rfl⟩); rintro e w2 ⟨rfl, hb2⟩; have hb3 : Below w.heap.size w w2 := Below.trans (Drw.below ⟨_, rfl⟩) (hb2.mono (Nat.le_refl _))) | (go_at_call 78; (with_reducible refine (KG.out _ ?ho).mono ?_); (case ho => first | assumption | exact Below.drew (by assumption)); rintro e w2 ⟨rfl, kd2, rfl⟩; have hb3 := Below.trans (by assumption) ((Drw.below ⟨kd2, rfl⟩).mono (Below.size (by assumption)))))
  go_wp2_with (go_at_call 66; (with_reducible refine (KC.out _ ?ho).mono ?_); (case ho => assumption); rintro e w4 ⟨v4, rfl, ho4, hb4⟩; have hr4 := Rdv.of_owns ho4; have hb5 := Below.trans (by assumption) (hb4.mono (Below.size (by assumption))))
  go_ret3
  exact ⟨_, rfl, hr4, hb5⟩
set_option maxHeartbeats 2000000 in
set_option maxRecDepth 100000 in
theorem unf_bad (b o m c n s g : Nat) (r : List Int) (w : World) (K : Hid (Calls Tryz.prog 78 #[.slice (some ⟨b, o, none⟩) m c] w fun e w' => e = .returned (.int .u32 (n : Int)) ∧ Drw w w'))
    (KO : Hid (∀ w' B, B = w'.heap.size → Below w.heap.size w w' → Calls Tryz.prog 71 #[.slice (some ⟨B, 0, none⟩) 1 1] (w'.alloc (.cells #[.slice (some ⟨b, o + 8, none⟩) n (c - 8)] 30)) fun e w2 => e = .returned (.int .u32 (s : Int)) ∧ Below w'.heap.size w' w2))
    (KG : Hid (∀ w', Below w.heap.size w w' → Calls Tryz.prog 78 #[.slice (some ⟨b, o + 4, none⟩) (m - 4) (c - 4)] w' fun e w2 => e = .returned (.int .u32 (g : Int)) ∧ Drw w' w2))
    (KC : Hid (∀ w', Below w.heap.size w w' → Calls Tryz.prog 66 #[.slice (some ⟨b, o + 8, none⟩) n (c - 8)] w' (ClonePost r w')))
    (h8 : 8 ≤ m) (hc : m ≤ c) (hc8 : 8 < c) (h2 : c ≤ 9223372036854775807) (hlt : n ≤ 1048576) (hg : n + 8 ≤ m) (he : ((s : Int) != (g : Int)) = true) :
    Calls Tryz.prog 34 #[.slice (some ⟨b, o, none⟩) m c] w (UnfPost [] 0 74 w) := by
  have n8 : ¬ c = 8 := by omega
  have n4 : ¬ c = 4 := by omega
  have i4 : (4 : Int) ≤ (m : Int) := by omega
  have i4c : (4 : Int) ≤ (c : Int) := by omega
  have imc : (m : Int) ≤ (c : Int) := by omega
  go_enter Tryz.func34, Tryz.ntmps34
  go_wp2_with (go_at_call 78; refine K.out.mono ?_; rintro e w' ⟨rfl, nd, rfl⟩)
  have b0 : Below w.heap.size w (w.drewN nd) := Drw.below ⟨nd, rfl⟩
  go_region_held3 (fun w' => Below w.heap.size w w') ((first | (with_reducible assumption) | exact Below.drew (by assumption) | exact Below.alloc (by assumption) (Below.size (by assumption)) _)) (first | (go_at_call 71; (with_reducible refine (KO.out _ _ ?hB ?ho).mono ?_); (case hB => rfl); (case ho => exact Drw.below ⟨_, rfl⟩); rintro e w2 ⟨rfl, hb2⟩; have hb3 : Below w.heap.size w w2 := Below.trans (Drw.below ⟨_, rfl⟩) (hb2.mono (Nat.le_refl _))) | (go_at_call 78; (with_reducible refine (KG.out _ ?ho).mono ?_); (case ho => first | assumption | exact Below.drew (by assumption)); rintro e w2 ⟨rfl, kd2, rfl⟩; have hb3 := Below.trans (by assumption) ((Drw.below ⟨kd2, rfl⟩).mono (Below.size (by assumption)))))
  go_wp2_with (go_at_call 66; (with_reducible refine (KC.out _ ?ho).mono ?_); (case ho => assumption); rintro e w4 ⟨v4, rfl, ho4, hb4⟩; have hr4 := Rdv.of_owns ho4; have hb5 := Below.trans (by assumption) (hb4.mono (Below.size (by assumption))))
  go_ret3
  exact ⟨_, rfl, Rdv.nil _ _, by assumption⟩
set_option maxHeartbeats 2000000 in
set_option maxRecDepth 100000 in
theorem unf_good8 (b o s g : Nat) (r : List Int) (w : World) (K : Hid (Calls Tryz.prog 78 #[.slice (some ⟨b, o, none⟩) 8 8] w fun e w' => e = .returned (.int .u32 0) ∧ Drw w w'))
    (KO : Hid (∀ w' B, B = w'.heap.size → Below w.heap.size w w' → Calls Tryz.prog 71 #[.slice (some ⟨B, 0, none⟩) 1 1] (w'.alloc (.cells #[.slice (some ⟨b, o, none⟩) 0 0] 30)) fun e w2 => e = .returned (.int .u32 (s : Int)) ∧ Below w'.heap.size w' w2))
    (KG : Hid (∀ w', Below w.heap.size w w' → Calls Tryz.prog 78 #[.slice (some ⟨b, o + 4, none⟩) 4 4] w' fun e w2 => e = .returned (.int .u32 (g : Int)) ∧ Drw w' w2))
    (KC : Hid (∀ w', Below w.heap.size w w' → Calls Tryz.prog 66 #[.slice (some ⟨b, o, none⟩) 0 0] w' (ClonePost r w')))
    (he : ((s : Int) != (g : Int)) = false) :
    Calls Tryz.prog 34 #[.slice (some ⟨b, o, none⟩) 8 8] w (UnfPost r 8 0 w) := by
  go_enter Tryz.func34, Tryz.ntmps34
  go_wp2_with (go_at_call 78; refine K.out.mono ?_; rintro e w' ⟨rfl, nd, rfl⟩)
  have b0 : Below w.heap.size w (w.drewN nd) := Drw.below ⟨nd, rfl⟩
  go_region_held3 (fun w' => Below w.heap.size w w') ((first | (with_reducible assumption) | exact Below.drew (by assumption) | exact Below.alloc (by assumption) (Below.size (by assumption)) _)) (first | (go_at_call 71; (with_reducible refine (KO.out _ _ ?hB ?ho).mono ?_); (case hB => rfl); (case ho => exact Drw.below ⟨_, rfl⟩); rintro e w2 ⟨rfl, hb2⟩; have hb3 : Below w.heap.size w w2 := Below.trans (Drw.below ⟨_, rfl⟩) (hb2.mono (Nat.le_refl _))) | (go_at_call 78; (with_reducible refine (KG.out _ ?ho).mono ?_); (case ho => first | assumption | exact Below.drew (by assumption)); rintro e w2 ⟨rfl, kd2, rfl⟩; have hb3 := Below.trans (by assumption) ((Drw.below ⟨kd2, rfl⟩).mono (Below.size (by assumption)))))
  go_wp2_with (go_at_call 66; (with_reducible refine (KC.out _ ?ho).mono ?_); (case ho => assumption); rintro e w4 ⟨v4, rfl, ho4, hb4⟩; have hr4 := Rdv.of_owns ho4; have hb5 := Below.trans (by assumption) (hb4.mono (Below.size (by assumption))))
  go_ret3
  exact ⟨_, rfl, hr4, hb5⟩
set_option maxHeartbeats 2000000 in
set_option maxRecDepth 100000 in
theorem unf_bad8 (b o s g : Nat) (r : List Int) (w : World) (K : Hid (Calls Tryz.prog 78 #[.slice (some ⟨b, o, none⟩) 8 8] w fun e w' => e = .returned (.int .u32 0) ∧ Drw w w'))
    (KO : Hid (∀ w' B, B = w'.heap.size → Below w.heap.size w w' → Calls Tryz.prog 71 #[.slice (some ⟨B, 0, none⟩) 1 1] (w'.alloc (.cells #[.slice (some ⟨b, o, none⟩) 0 0] 30)) fun e w2 => e = .returned (.int .u32 (s : Int)) ∧ Below w'.heap.size w' w2))
    (KG : Hid (∀ w', Below w.heap.size w w' → Calls Tryz.prog 78 #[.slice (some ⟨b, o + 4, none⟩) 4 4] w' fun e w2 => e = .returned (.int .u32 (g : Int)) ∧ Drw w' w2))
    (KC : Hid (∀ w', Below w.heap.size w w' → Calls Tryz.prog 66 #[.slice (some ⟨b, o, none⟩) 0 0] w' (ClonePost r w')))
    (he : ((s : Int) != (g : Int)) = true) :
    Calls Tryz.prog 34 #[.slice (some ⟨b, o, none⟩) 8 8] w (UnfPost [] 0 74 w) := by
  go_enter Tryz.func34, Tryz.ntmps34
  go_wp2_with (go_at_call 78; refine K.out.mono ?_; rintro e w' ⟨rfl, nd, rfl⟩)
  have b0 : Below w.heap.size w (w.drewN nd) := Drw.below ⟨nd, rfl⟩
  go_region_held3 (fun w' => Below w.heap.size w w') ((first | (with_reducible assumption) | exact Below.drew (by assumption) | exact Below.alloc (by assumption) (Below.size (by assumption)) _)) (first | (go_at_call 71; (with_reducible refine (KO.out _ _ ?hB ?ho).mono ?_); (case hB => rfl); (case ho => exact Drw.below ⟨_, rfl⟩); rintro e w2 ⟨rfl, hb2⟩; have hb3 : Below w.heap.size w w2 := Below.trans (Drw.below ⟨_, rfl⟩) (hb2.mono (Nat.le_refl _))) | (go_at_call 78; (with_reducible refine (KG.out _ ?ho).mono ?_); (case ho => first | assumption | exact Below.drew (by assumption)); rintro e w2 ⟨rfl, kd2, rfl⟩; have hb3 := Below.trans (by assumption) ((Drw.below ⟨kd2, rfl⟩).mono (Below.size (by assumption)))))
  go_wp2_with (go_at_call 66; (with_reducible refine (KC.out _ ?ho).mono ?_); (case ho => assumption); rintro e w4 ⟨v4, rfl, ho4, hb4⟩; have hr4 := Rdv.of_owns ho4; have hb5 := Below.trans (by assumption) (hb4.mono (Below.size (by assumption))))
  go_ret3
  exact ⟨_, rfl, Rdv.nil _ _, by assumption⟩
/-- What a frame gives: what it holds, how long it is, the error. -/
def unfL (l : List Int) : List Int × Nat × Nat :=
  if l.length < 8 then ([], 0, 22) else
  if 1048576 < get4 l ∨ l.length < get4 l + 8 then ([], 0, 22) else
  if crcOf ((l.drop 8).take (get4 l)) = get4 (l.drop 4) then ((l.drop 8).take (get4 l), 8 + get4 l, 0) else ([], 0, 74)
/-- What a frame gives, its numbers told apart. -/
def unfIf (m n s g : Nat) (r : List Int) : List Int × Nat × Nat :=
  if m < 8 then ([], 0, 22) else if 1048576 < n ∨ m < n + 8 then ([], 0, 22) else if s = g then (r, 8 + n, 0) else ([], 0, 74)
theorem unfL_if (l : List Int) : unfL l = unfIf l.length (get4 l) (crcOf ((l.drop 8).take (get4 l))) (get4 (l.drop 4)) ((l.drop 8).take (get4 l)) := rfl
theorem unf_c8 (b o c n : Nat) (l : List Int) (w : World) (hc : c = 8) (hl : l.length = 8) (hn : n = 0) (hb : Byt l) (h : Rdv u8v w (.slice (some ⟨b, o, none⟩) l.length c) l)
    (K : Calls Tryz.prog 78 #[.slice (some ⟨b, o, none⟩) l.length c] w fun e w' => e = .returned (.int .u32 (n : Int)) ∧ Drw w w') :
    Calls Tryz.prog 34 #[.slice (some ⟨b, o, none⟩) l.length c] w (UnfPost (if crcOf ((l.drop 8).take n) = get4 (l.drop 4) then ((l.drop 8).take n, 8 + n, 0) else ([], 0, 74)).1 (if crcOf ((l.drop 8).take n) = get4 (l.drop 4) then ((l.drop 8).take n, 8 + n, 0) else ([], 0, 74)).2.1 (if crcOf ((l.drop 8).take n) = get4 (l.drop 4) then ((l.drop 8).take n, 8 + n, 0) else ([], 0, 74)).2.2 w) := by
  subst hc
  subst hn
  have hd4 := h.drop 4 (by omega)
  rw [hl] at h K hd4 ⊢
  have e0 : (l.drop 8).take 0 = [] := by simp
  rw [e0]
  have KO : ∀ w' B, B = w'.heap.size → Below w.heap.size w w' → Calls Tryz.prog 71 #[.slice (some ⟨B, 0, none⟩) 1 1] (w'.alloc (.cells #[.slice (some ⟨b, o, none⟩) 0 0] 30)) fun e w2 => e = .returned (.int .u32 (crcOf [] : Nat)) ∧ Below w'.heap.size w' w2 := by
    intro w' B hB hbw
    subst hB
    have hx := RdBs.one (Blk.new w' #[.slice (some ⟨b, o, none⟩) 0 0] 30) (Rdv.empty u8v _ _ 0 (Nat.zero_le _))
    refine (crcOfC _ _ _ hx (AllB.one (fun q hq => by cases hq))).mono ?_
    rintro e w2 ⟨rfl, b2⟩
    exact ⟨rfl, ((Below.refl _ w').alloc (Nat.le_refl _) _).trans (b2.mono (by simp))⟩
  have KG : ∀ w', Below w.heap.size w w' → Calls Tryz.prog 78 #[.slice (some ⟨b, o + 4, none⟩) 4 4] w' fun e w2 => e = .returned (.int .u32 (get4 (l.drop 4) : Nat)) ∧ Drw w' w2 :=
    fun w' hbw => get32 _ _ w' (hd4.below hbw) (hb.drop 4) (by simp; omega)
  have KC : ∀ w', Below w.heap.size w w' → Calls Tryz.prog 66 #[.slice (some ⟨b, o, none⟩) 0 0] w' (ClonePost [] w') :=
    fun w' _ => cloneC _ _ w' (Rdv.empty u8v _ _ 0 (Nat.zero_le _)) (by simp)
  generalize crcOf [] = s at *
  generalize get4 (l.drop 4) = g at *
  by_cases he : s = g
  · rw [if_pos he]
    exact unf_good8 b o s g _ w (Lib.hid K) (Lib.hid KO) (Lib.hid KG) (Lib.hid KC) (by simp [he])
  · rw [if_neg he]
    exact unf_bad8 b o s g [] w (Lib.hid K) (Lib.hid KO) (Lib.hid KG) (Lib.hid KC) (by simp; omega)
theorem crcUnframe (v : Value) (l : List Int) (w : World) (h : Rdv u8v w v l) (hb : Byt l) :
    Calls Tryz.prog 34 #[v] w (UnfPost (unfL l).1 (unfL l).2.1 (unfL l).2.2 w) := by
  rw [unfL_if]
  by_cases h8 : l.length < 8
  · have e : ∀ n s g r, unfIf l.length n s g r = ([], 0, 22) := fun n s g r => by unfold unfIf; rw [if_pos h8]
    rw [e]
    exact unf_short v l w h h8
  by_cases hg : 1048576 < get4 l ∨ l.length < get4 l + 8
  · have e : ∀ s g r, unfIf l.length (get4 l) s g r = ([], 0, 22) := fun s g r => by unfold unfIf; rw [if_neg h8, if_pos hg]
    rw [e]
    exact unf_long v l w h hb (by omega) hg
  have K := get32 v l w h hb (by omega)
  have E : ∀ s g r, unfIf l.length (get4 l) s g r = if s = g then (r, 8 + get4 l, 0) else ([], 0, 74) := fun s g r => by unfold unfIf; rw [if_neg h8, if_neg hg]
  rw [E]
  clear E
  generalize get4 l = n at *
  obtain ⟨a, m, c, rfl⟩ := h.shape
  obtain ⟨rfl, h1, h2, h3⟩ := h.cap
  unfold maxLen at h2
  obtain ⟨b, o, rfl⟩ := h3 (fun e => by rw [e] at h8; simp at h8)
  have hd8 := h.drop 8 (by omega)
  have hd4 := h.drop 4 (by omega)
  by_cases hc8 : c = 8
  · exact unf_c8 b o c n l w hc8 (by omega) (by omega) hb h K
  have hc8 : 8 < c := by omega
  have hh := hd8.take n (c - 8) (by omega) (by omega) (Nat.le_refl _)
  have KO : ∀ w' B, B = w'.heap.size → Below w.heap.size w w' → Calls Tryz.prog 71 #[.slice (some ⟨B, 0, none⟩) 1 1] (w'.alloc (.cells #[.slice (some ⟨b, o + 8, none⟩) n (c - 8)] 30)) fun e w2 => e = .returned (.int .u32 (crcOf ((l.drop 8).take n) : Nat)) ∧ Below w'.heap.size w' w2 := by
    intro w' B hB hbw
    subst hB
    have hx := RdBs.one (Blk.new w' #[.slice (some ⟨b, o + 8, none⟩) n (c - 8)] 30) ((hh.below hbw).alloc _)
    refine (crcOfC _ _ _ hx (AllB.one ((hb.drop 8).take _))).mono ?_
    rintro e w2 ⟨rfl, b2⟩
    rw [show [(l.drop 8).take n].flatten = (l.drop 8).take n from by simp]
    exact ⟨rfl, ((Below.refl _ w').alloc (Nat.le_refl _) _).trans (b2.mono (by simp))⟩
  have KG : ∀ w', Below w.heap.size w w' → Calls Tryz.prog 78 #[.slice (some ⟨b, o + 4, none⟩) (l.length - 4) (c - 4)] w' fun e w2 => e = .returned (.int .u32 (get4 (l.drop 4) : Nat)) ∧ Drw w' w2 :=
    fun w' hbw => get32 _ _ w' (hd4.below hbw) (hb.drop 4) (by simp; omega)
  have hln : ((l.drop 8).take n).length = n := by simp; omega
  have KC : ∀ w', Below w.heap.size w w' → Calls Tryz.prog 66 #[.slice (some ⟨b, o + 8, none⟩) n (c - 8)] w' (ClonePost ((l.drop 8).take n) w') :=
    fun w' hbw => cloneC _ _ w' (hh.below hbw) (by omega)
  generalize crcOf ((l.drop 8).take n) = s at *
  generalize get4 (l.drop 4) = g at *
  by_cases he : s = g
  · rw [if_pos he]
    exact unf_good b o _ c n s g _ w (Lib.hid K) (Lib.hid KO) (Lib.hid KG) (Lib.hid KC) (by omega) h1 hc8 h2 (by omega) (by omega) (by simp [he])
  · rw [if_neg he]
    exact unf_bad b o _ c n s g _ w (Lib.hid K) (Lib.hid KO) (Lib.hid KG) (Lib.hid KC) (by omega) h1 hc8 h2 (by omega) (by omega) (by simp; omega)
end Go.Proofs.YthbalmoafpggdaaGreat

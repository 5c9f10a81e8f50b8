/- Memory laws of my own: a block known whole, what a step changes. No Go program in this text. What a law's arguments read as, in the words of the walks. append(dst, src...) onto a row of the call's own, the source as it reads (Rdv), nil or not; bits at int64. bytes.Clone; the words for bytes. Plain laws for package codec: words as bytes. No Go program in this text. -/
import Derived.Below
import Derived.OneCell
import Derived.WalkKit
import Derived.WalkSmall
import Derived.Lib.Hide
import Derived.Deep.QuietTactic
import Derived.OpenShut
import Derived.Maps.AppendAt
import Derived.Laws.BitsAllLaws
import Derived.Laws.BitsLemmas
import Derived.Laws.BytesArg
import Derived.Lib.SlBytesConst
import Derived.Test.YthbalmoafpggdaaGreatChecked
import Derived.Outline
import Derived.WalkSpells
import Derived.WalkLawsBesides
import Derived.Deep.RegionWith
import Derived.Deep.DeepMust
import Derived.BigQuiet
import Derived.RegionTactic
import Derived.ChangeAlike
import Derived.StillTailTactics
namespace Go.Proofs.YthbalmoafpggdaaGreat
open Go.RowKit
set_option linter.unusedVariables false
set_option linter.unusedSimpArgs false

theorem ret_i {k : IntKind} {a b : Int} (h : a = b) : Ending.returned (.int k a) = .returned (.int k b) := by rw [h]
theorem ret_b {a b : Bool} (h : a = b) : Ending.returned (.bool a) = .returned (.bool b) := by rw [h]
theorem ret_v {a b : Value} (h : a = b) : Ending.returned a = .returned b := by rw [h]
/-- Block b is a row of cells, none of them frozen. -/
def Blk (w : World) (b : Nat) (cs : Array Value) (T : TypeId) : Prop := w.heap[b]? = some (.cells cs T (0, 0))

theorem Blk.lt {w : World} {b : Nat} {cs : Array Value} {T : TypeId} (h : Blk w b cs T) : b < w.heap.size := lt_of_block h
theorem Blk.cell {w : World} {b : Nat} {cs : Array Value} {T : TypeId} (h : Blk w b cs T) {o : Nat} {v : Value} (hv : cs[o]? = some v) : w.cell? ⟨b, o, none⟩ = some v := by
  unfold Blk at h; simp [World.cell?, h, hv]
theorem Blk.free {w : World} {b : Nat} {cs : Array Value} {T : TypeId} (h : Blk w b cs T) (o : Nat) : w.frozen? ⟨b, o, none⟩ = false := by
  unfold Blk at h; simp [World.frozen?, h]
theorem Blk.of_eq {w w' : World} {b : Nat} {cs : Array Value} {T : TypeId} (h : Blk w b cs T) (e : w'.heap[b]? = w.heap[b]?) : Blk w' b cs T := by
  unfold Blk at *; rw [e]; exact h
theorem Blk.alloc {w : World} {b : Nat} {cs : Array Value} {T : TypeId} (h : Blk w b cs T) (o : Obj) : Blk (w.alloc o) b cs T :=
  h.of_eq (Below.heap_alloc w o b h.lt)
theorem Blk.drew {w : World} {b : Nat} {cs : Array Value} {T : TypeId} (h : Blk w b cs T) : Blk w.drew b cs T := h
theorem Blk.drewN {w : World} {b : Nat} {cs : Array Value} {T : TypeId} (h : Blk w b cs T) (n : Nat) : Blk (w.drewN n) b cs T := h
theorem Blk.new (w : World) (cs : Array Value) (T : TypeId) : Blk (w.alloc (.cells cs T)) w.heap.size cs T := heap_alloc_new w _
theorem Blk.set_ne {w : World} {b : Nat} {cs : Array Value} {T : TypeId} (h : Blk w b cs T) {a : Addr} (hne : b ≠ a.block) (u : Value) : Blk (w.setCell a u) b cs T :=
  h.of_eq (Below.heap_setCell w a u b hne)
theorem Blk.set {w : World} {b : Nat} {cs : Array Value} {T : TypeId} (h : Blk w b cs T) (o : Nat) (u : Value) : Blk (w.setCell ⟨b, o, none⟩ u) b (cs.setIfInBounds o u) T := by
  have hlt := h.lt
  unfold Blk at *
  have h' : w.heap[b] = .cells cs T (0, 0) := by simpa [Array.getElem?_eq_getElem hlt] using h
  show (w.heap.modify b _)[b]? = _
  rw [Array.getElem?_eq_getElem (by simpa using hlt), Array.getElem_modify_self, h']
  rfl

/-- What a call may have turned of the old blocks are those of S; new ones may have come. -/
structure Chg (S : Nat → Prop) (w w' : World) : Prop where
  os : w'.os = w.os
  tape : w'.tape = w.tape
  output : w'.output = w.output
  size : w.heap.size ≤ w'.heap.size
  block : ∀ k, k < w.heap.size → ¬ S k → w'.heap[k]? = w.heap[k]?

theorem Chg.refl (S : Nat → Prop) (w : World) : Chg S w w := ⟨rfl, rfl, rfl, Nat.le_refl _, fun _ _ _ => rfl⟩
theorem Chg.trans {S : Nat → Prop} {a b c : World} (h : Chg S a b) (k : Chg S b c) : Chg S a c :=
  ⟨k.os.trans h.os, k.tape.trans h.tape, k.output.trans h.output, Nat.le_trans h.size k.size, fun i hi hs => (k.block i (Nat.lt_of_lt_of_le hi h.size) hs).trans (h.block i hi hs)⟩
/-- Blocks that are new since a count for nothing. -/
theorem Chg.trans' {S S' : Nat → Prop} {a b c : World} (h : Chg S a b) (k : Chg S' b c) (hs : ∀ i, i < a.heap.size → S' i → S i) : Chg S a c :=
  ⟨k.os.trans h.os, k.tape.trans h.tape, k.output.trans h.output, Nat.le_trans h.size k.size, fun i hi hn => (k.block i (Nat.lt_of_lt_of_le hi h.size) (fun e => hn (hs i hi e))).trans (h.block i hi hn)⟩
theorem Chg.mono {S S' : Nat → Prop} {a b : World} (h : Chg S a b) (hs : ∀ i, i < a.heap.size → S i → S' i) : Chg S' a b :=
  ⟨h.os, h.tape, h.output, h.size, fun i hi hn => h.block i hi (fun e => hn (hs i hi e))⟩
theorem Chg.drew {S : Nat → Prop} {a w : World} (h : Chg S a w) : Chg S a w.drew := ⟨h.os, h.tape, h.output, h.size, h.block⟩
theorem Chg.drewN {S : Nat → Prop} {a w : World} (h : Chg S a w) (n : Nat) : Chg S a (w.drewN n) := ⟨h.os, h.tape, h.output, h.size, h.block⟩
theorem Chg.alloc {S : Nat → Prop} {a w : World} (h : Chg S a w) (o : Obj) : Chg S a (w.alloc o) :=
  ⟨h.os, h.tape, h.output, Nat.le_trans h.size (by simp), fun i hi hn => (Below.heap_alloc w o i (Nat.lt_of_lt_of_le hi h.size)).trans (h.block i hi hn)⟩
theorem Chg.set {S : Nat → Prop} {a w : World} (h : Chg S a w) {p : Addr} (hp : p.block < a.heap.size → S p.block) (u : Value) : Chg S a (w.setCell p u) :=
  ⟨h.os, h.tape, h.output, Nat.le_trans h.size (by simp [World.setCell]), fun i hi hn => (Below.heap_setCell w p u i (fun e => hn (e ▸ hp (e ▸ hi)))).trans (h.block i hi hn)⟩
theorem Chg.grown {S : Nat → Prop} {a w w' : World} {row : Option Nat} (h : Chg S a w) (hg : w.grownBy w' row) (hr : ∀ k, row = some k → k < a.heap.size → S k) : Chg S a w' :=
  ⟨hg.os.trans h.os, hg.tape.trans h.tape, hg.output.trans h.output, Nat.le_trans h.size hg.size, fun i hi hn => (hg.block i (Nat.lt_of_lt_of_le hi h.size) (fun e => hn (hr i e.symm hi))).trans (h.block i hi hn)⟩
theorem Chg.of_below {S : Nat → Prop} {w w' : World} {B : Nat} (h : Below B w w') (hs : ∀ i, i < w.heap.size → B ≤ i → S i) : Chg S w w' :=
  ⟨h.os, h.tape, h.output, h.size, fun i hi hn => h.block i (Nat.lt_of_not_le (fun e => hn (hs i hi e)))⟩
theorem Chg.below {S : Nat → Prop} {w w' : World} {B : Nat} (h : Chg S w w') (hB : B ≤ w.heap.size) (hs : ∀ i, i < B → ¬ S i) : Below B w w' :=
  ⟨h.os, h.tape, h.output, h.size, fun i hi => h.block i (Nat.lt_of_lt_of_le hi hB) (hs i hi)⟩
theorem Chg.below_trans {S : Nat → Prop} {a w w' : World} {B : Nat} (h0 : Below B a w) (h : Chg S w w') (hB : B ≤ w.heap.size) (hs : ∀ i, i < B → ¬ S i) : Below B a w' :=
  h0.trans (h.below hB hs)
theorem Chg.blk {S : Nat → Prop} {w w' : World} (h : Chg S w w') {b : Nat} {cs : Array Value} {T : TypeId} (hb : Blk w b cs T) (hs : ¬ S b) : Blk w' b cs T :=
  hb.of_eq (h.block b hb.lt hs)
theorem blkBelow {B : Nat} {w w' : World} (h : Below B w w') {b : Nat} {cs : Array Value} {T : TypeId} (hb : Blk w b cs T) (hs : b < B) : Blk w' b cs T :=
  hb.of_eq (h.block b hs)
/-- What was there reads as it did, as rules for a walk. -/
theorem bcell {W w1 : World} (hb : Below W.heap.size W w1) : (∀ b o, b < W.heap.size → w1.cell? ⟨b, o, none⟩ = W.cell? ⟨b, o, none⟩) ∧ (∀ b o, b < W.heap.size → w1.frozen? ⟨b, o, none⟩ = W.frozen? ⟨b, o, none⟩) :=
  ⟨fun b o h => hb.cell (p := ⟨b, o, none⟩) h, fun b o h => hb.frozen (p := ⟨b, o, none⟩) h⟩
theorem chgcell {S : Nat → Prop} {W w1 : World} (hb : Chg S W w1) : (∀ b o, b < W.heap.size → ¬ S b → w1.cell? ⟨b, o, none⟩ = W.cell? ⟨b, o, none⟩) ∧ (∀ b o, b < W.heap.size → ¬ S b → w1.frozen? ⟨b, o, none⟩ = W.frozen? ⟨b, o, none⟩) :=
  ⟨fun b _ h hs => World.cell?_of_block (w := W) (hb.block b h hs), fun b _ h hs => World.frozen?_of_block (w := W) (hb.block b h hs)⟩
/-- A draw ahead of a call says nothing of blocks. -/
theorem undrew {w w1 : World} (h : Below w.drew.heap.size w.drew w1) : Below w.heap.size w w1 := ⟨h.os, h.tape, h.output, h.size, h.block⟩
theorem undrewN {w w1 : World} {n : Nat} (h : Below (w.drewN n).heap.size (w.drewN n) w1) : Below w.heap.size w w1 := ⟨h.os, h.tape, h.output, h.size, h.block⟩

/-- v is a slice whose elements, one cell each, read as xs. -/
def Rdv (enc : Int → Value) (w : World) (v : Value) (xs : List Int) : Prop :=
  ∃ a c, v = .slice a xs.length c ∧ xs.length ≤ c ∧ c ≤ maxLen ∧ (xs = [] ∨ ∃ b o, a = some ⟨b, o, none⟩ ∧ ∀ i, i < xs.length → w.cell? ⟨b, o + i, none⟩ = some (enc (xs.getD i 0)))
theorem Rdv.shape {enc : Int → Value} {w : World} {v : Value} {xs : List Int} (h : Rdv enc w v xs) : ∃ a n c, v = .slice a n c := by
  obtain ⟨a, c, rfl, _⟩ := h
  exact ⟨a, _, c, rfl⟩
theorem Rdv.nil (enc : Int → Value) (w : World) : Rdv enc w (.slice none 0 0) [] := ⟨none, 0, rfl, Nat.le_refl _, Nat.zero_le _, .inl rfl⟩
theorem Rdv.of_cells {enc : Int → Value} {w w' : World} {v : Value} {xs : List Int} (h : Rdv enc w v xs) (hc : ∀ a u, w.cell? a = some u → w'.cell? a = some u) : Rdv enc w' v xs := by
  obtain ⟨a, c, rfl, h1, h2, h3⟩ := h
  refine ⟨a, c, rfl, h1, h2, ?_⟩
  rcases h3 with h3 | ⟨b, o, rfl, h3⟩
  · exact .inl h3
  · exact .inr ⟨b, o, rfl, fun i hi => hc _ _ (h3 i hi)⟩
theorem below_cell {w w' : World} (hb : Below w.heap.size w w') (a : Addr) (u : Value) (h : w.cell? a = some u) : w'.cell? a = some u :=
  (hb.cell (World.block_lt_of_cell? w a h)).trans h
theorem Rdv.below {enc : Int → Value} {w w' : World} {v : Value} {xs : List Int} (h : Rdv enc w v xs) (hb : Below w.heap.size w w') : Rdv enc w' v xs := h.of_cells (below_cell hb)
theorem Rdv.take {enc : Int → Value} {w : World} {a : Option Addr} {n c : Nat} {xs : List Int} (h : Rdv enc w (.slice a n c) xs) (m k : Nat) (hm : m ≤ n) (hk : m ≤ k) (hc : k ≤ c) : Rdv enc w (.slice a m k) (xs.take m) := by
  obtain ⟨a', c', e, h1, h2, h3⟩ := h
  rw [Value.slice.injEq] at e
  obtain ⟨rfl, rfl, rfl⟩ := e
  have hl : (xs.take m).length = m := by simp; omega
  refine ⟨a, k, by rw [hl], by omega, by omega, ?_⟩
  rcases h3 with rfl | ⟨b, o, rfl, h3⟩
  · exact .inl (by simp)
  · refine .inr ⟨b, o, rfl, fun i hi => ?_⟩
    rw [h3 i (by omega)]
    simp [List.getD_eq_getElem?_getD, List.getElem?_take_of_lt (show i < m by omega)]
theorem Rdv.of_blk {enc : Int → Value} {w : World} {b : Nat} {xs : List Int} {T : TypeId} (hb : Blk w b (xs.map enc).toArray T) (hm : xs.length ≤ maxLen) : Rdv enc w (.slice (some ⟨b, 0, none⟩) xs.length xs.length) xs :=
  ⟨_, _, rfl, Nat.le_refl _, hm, .inr ⟨b, 0, rfl, fun i hi => hb.cell (by simp [List.getElem?_eq_getElem hi])⟩⟩
theorem Rdv.drop {enc : Int → Value} {w : World} {b o n c : Nat} {xs : List Int} (h : Rdv enc w (.slice (some ⟨b, o, none⟩) n c) xs) (k : Nat) (hk : k ≤ n) : Rdv enc w (.slice (some ⟨b, o + k, none⟩) (n - k) (c - k)) (xs.drop k) := by
  obtain ⟨a', c', e, h1, h2, h3⟩ := h
  rw [Value.slice.injEq] at e
  obtain ⟨rfl, rfl, rfl⟩ := e
  have hl : (xs.drop k).length = xs.length - k := by simp
  refine ⟨_, _, by rw [hl], by omega, by omega, ?_⟩
  rcases h3 with rfl | ⟨b', o', e, h3⟩
  · exact .inl (by simp)
  · injection e with e
    injection e with e1 e2
    subst e1; subst e2
    refine .inr ⟨b, o + k, rfl, fun i hi => ?_⟩
    have := h3 (k + i) (by omega)
    rw [Nat.add_assoc, this]
    simp [List.getD_eq_getElem?_getD]
theorem Rdv.empty (enc : Int → Value) (w : World) (a : Option Addr) (c : Nat) (hc : c ≤ maxLen) : Rdv enc w (.slice a 0 c) [] := ⟨a, c, rfl, by simp, hc, .inl rfl⟩
theorem Rdv.cap {enc : Int → Value} {w : World} {a : Option Addr} {n c : Nat} {xs : List Int} (h : Rdv enc w (.slice a n c) xs) : n = xs.length ∧ n ≤ c ∧ c ≤ maxLen ∧ (xs ≠ [] → ∃ b o, a = some ⟨b, o, none⟩) := by
  obtain ⟨a', c', e, h1, h2, h3⟩ := h
  rw [Value.slice.injEq] at e
  obtain ⟨rfl, rfl, rfl⟩ := e
  refine ⟨rfl, h1, h2, fun hne => ?_⟩
  rcases h3 with rfl | ⟨b, o, rfl, _⟩
  · exact absurd rfl hne
  · exact ⟨b, o, rfl⟩
theorem Rdv.drewN {enc : Int → Value} {w : World} {v : Value} {xs : List Int} (h : Rdv enc w v xs) (n : Nat) : Rdv enc (w.drewN n) v xs := h.of_cells (fun _ _ h => h)
theorem Rdv.alloc {enc : Int → Value} {w : World} {v : Value} {xs : List Int} (h : Rdv enc w v xs) (o : Obj) : Rdv enc (w.alloc o) v xs := h.below ((Below.refl _ _).alloc (Nat.le_refl _) o)
theorem Rdv.len {enc : Int → Value} {w : World} {v : Value} {xs : List Int} (h : Rdv enc w v xs) : xs.length ≤ maxLen := by
  obtain ⟨_, _, _, h1, h2, _⟩ := h
  omega
/-- A row of the call's own reads so. -/
theorem Rdv.of_owns {enc : Int → Value} {w : World} {B : Nat} {e : TypeId} {v : Value} {n : Nat} {xs : List Int} (h : w.ownsRow B e 1 v n (xs.map enc)) : Rdv enc w v xs := by
  obtain ⟨h1, h2⟩ := h
  simp at h1
  subst h1
  rcases h2 with ⟨rfl, h0⟩ | ⟨g, cap, cur, rfl, hg, hh, hn, hc, hs, ht⟩
  · obtain rfl : xs = [] := List.length_eq_zero_iff.1 h0
    exact Rdv.nil _ _
  · refine ⟨_, _, rfl, hn, hc, .inr ⟨g, 0, rfl, fun i hi => ?_⟩⟩
    have hx : cur[i]? = some (enc (xs.getD i 0)) := by
      have h3 : (cur.toList.take (xs.length * 1))[i]? = (xs.map enc)[i]? := by rw [ht]
      rw [List.getElem?_take_of_lt (by omega)] at h3
      simpa [List.getElem?_eq_getElem hi] using h3
    have hB : Blk w g cur e := hh
    rw [Nat.zero_add]
    exact hB.cell hx

theorem ownsRow_below {w w' : World} {base : Nat} {e : TypeId} {size : Nat} {v : Value} {n : Nat} {xs : List Value} (h : w.ownsRow base e size v n xs) (hb : Below w.heap.size w w') : w'.ownsRow base e size v n xs := by
  refine ⟨h.1, ?_⟩
  rcases h.2 with h2 | ⟨g, cap, cur, hv, hg, hh, r⟩
  · exact .inl h2
  · exact .inr ⟨g, cap, cur, hv, hg, by rw [hb.block g (lt_of_block hh)]; exact hh, r⟩
theorem ownsRow_chg {S : Nat → Prop} {w w' : World} {base : Nat} {e : TypeId} {size : Nat} {v : Value} {n : Nat} {xs : List Value} (h : w.ownsRow base e size v n xs) (hg : Chg S w w') (hs : ∀ b, v.ownBlock = some b → ¬ S b) : w'.ownsRow base e size v n xs := by
  refine ⟨h.1, ?_⟩
  rcases h.2 with h2 | ⟨g, cap, cur, hv, hb, hh, r⟩
  · exact .inl h2
  · exact .inr ⟨g, cap, cur, hv, hb, by rw [hg.block g (lt_of_block hh) (hs g (by rw [hv]; rfl))]; exact hh, r⟩
theorem ownsRow_drewN {w : World} {base : Nat} {e : TypeId} {size : Nat} {v : Value} {n : Nat} {xs : List Value} (h : w.ownsRow base e size v n xs) (m : Nat) : (w.drewN m).ownsRow base e size v n xs := h
/-- Only orders have been drawn. -/
def Drw (w w' : World) : Prop := ∃ n, w' = w.drewN n
theorem Drw.below {w w' : World} (h : Drw w w') : Below w.heap.size w w' := by
  obtain ⟨n, rfl⟩ := h
  exact ⟨rfl, rfl, rfl, Nat.le_refl _, fun _ _ => rfl⟩
theorem quiS {P : Program} {f : FuncId} {args : Array Value} {w : World} {n : Nat} {v : Value}
    (h : Calls P f args (w.drewN n) fun e w' => e = .returned v ∧ w.drewN n = w') : Calls P f args (w.drewN n) fun e w'' => e = .returned v ∧ ∃ m, w'' = w.drewN m :=
  h.mono fun _ _ ⟨he, hm⟩ => ⟨he, n, hm.symm⟩
theorem quiD {P : Program} {f : FuncId} {args : Array Value} {w : World} {n : Nat} {v : Value}
    (h : Calls P f args (w.drewN n) fun e w' => e = .returned v ∧ Drw (w.drewN n) w') : Calls P f args (w.drewN n) fun e w'' => e = .returned v ∧ ∃ m, w'' = w.drewN m :=
  h.mono fun _ _ ⟨he, m, hm⟩ => ⟨he, n + m, by rw [hm, World.drewN_drewN]⟩
end Go.Proofs.YthbalmoafpggdaaGreat
namespace Go.Proofs.YthbalmoafpggdaaGreat
open Go.RowKit
set_option linter.unusedVariables false
set_option linter.unusedSimpArgs false
def IsRow (k : IntKind) (w : World) (a : Option Addr) (len cap : Nat) (zs : List Int) : Prop :=
  (a = none ∧ len = 0 ∧ cap = 0 ∧ zs = []) ∨
  ∃ x, a = some x ∧ len ≤ cap ∧ cap ≤ maxLen ∧ zs.length = cap ∧ (∀ i, i < zs.length → w.cell? (x.add i) = some (.int k (zs.getD i 0))) ∧ ∀ n ∈ zs, (Lit.int k n).wf = true
theorem addr_plain {w : World} {x : Addr} {v : Value} (h : w.cell? x = some v) : x = ⟨x.block, x.off, none⟩ := by
  obtain ⟨b, o, s⟩ := x
  cases s with
  | none => rfl
  | some s =>
    simp only [World.cell?] at h
    split at h <;> simp at h
theorem addr_add (b o i : Nat) : (⟨b, o, none⟩ : Addr).add i = ⟨b, o + i, none⟩ := by
  unfold Addr.add
  split
  · next h => rw [h]; rfl
  · rfl
theorem IsRow.rdv {k : IntKind} {w : World} {a : Option Addr} {len cap : Nat} {zs : List Int} (h : IsRow k w a len cap zs) : Rdv (.int k) w (.slice a len cap) (zs.take len) := by
  rcases h with ⟨rfl, rfl, rfl, rfl⟩ | ⟨x, rfl, h1, h2, h3, h4, h5⟩
  · exact Rdv.nil _ _
  · have hl : (zs.take len).length = len := by simp; omega
    refine ⟨some x, cap, by rw [hl], by omega, h2, ?_⟩
    by_cases h0 : len = 0
    · subst h0; exact .inl (by simp)
    · have hx := addr_plain (h4 0 (by omega))
      have hx' : x = ⟨x.block, x.off, none⟩ := by
        have e : x.add 0 = x := by unfold Addr.add; simp
        rw [e] at hx; exact hx
      refine .inr ⟨x.block, x.off, by rw [hx'], fun i hi => ?_⟩
      have := h4 i (by omega)
      rw [hx', addr_add] at this
      rw [this]
      simp [List.getD_eq_getElem?_getD, List.getElem?_take_of_lt (show i < len by omega)]
theorem IsRow.wf {k : IntKind} {w : World} {a : Option Addr} {len cap : Nat} {zs : List Int} (h : IsRow k w a len cap zs) : ∀ n ∈ zs.take len, (Lit.int k n).wf = true := by
  rcases h with ⟨rfl, rfl, rfl, rfl⟩ | ⟨x, rfl, h1, h2, h3, h4, h5⟩
  · simp
  · exact fun n hn => h5 n (List.mem_of_mem_take hn)
end Go.Proofs.YthbalmoafpggdaaGreat
namespace Go.Proofs.YthbalmoafpggdaaGreat
open Go.RowKit
set_option linter.unusedVariables false
set_option linter.unusedSimpArgs false
theorem run_append_nil_src {P : Program} {w : World} (base : Nat) (t ty e : TypeId) (i : TypeInfo) (size : Nat) (ht : P.underlying t = some (.slice e)) (hi : P.info? e = some i)
    (v : Value) (n : Nat) (xs : List Value) (hown : w.ownsRow base e size v n xs) (c : Nat) : (Builtin.append_ #[t, t] ty #[v, .slice none 0 c]).run P w = .ok v w := by
  rcases hown.2 with ⟨rfl, rfl⟩ | ⟨g, cap, cur, rfl, _, _, hnc, _⟩
  · simp [Builtin.append_, run_underlying ht, sizeOf, typeInfo, hi, Builtin.lenOf, Builtin.firstCells]
  · simp [Builtin.append_, run_underlying ht, sizeOf, typeInfo, hi, Builtin.lenOf, Builtin.firstCells, hnc, storeCells]
theorem rdv_news {enc : Int → Value} {w : World} {ad : Addr} {m c : Nat} {ys : List Int} (h : Rdv enc w (.slice (some ad) m c) ys) : ∀ j u, (ys.map enc)[j]? = some u → w.cell? (ad.add j) = some u := by
  obtain ⟨a', c', e, h1, h2, h3⟩ := h
  rw [Value.slice.injEq] at e
  obtain ⟨rfl, rfl, rfl⟩ := e
  intro j u hu
  rcases h3 with rfl | ⟨b, o, h3, h4⟩
  · simp at hu
  · injection h3 with h3
    subst h3
    have hj : j < ys.length := by
      rcases Nat.lt_or_ge j ys.length with h | h
      · exact h
      · rw [List.getElem?_eq_none (by simpa using h)] at hu; cases hu
    have := h4 j hj
    have e : (⟨b, o, none⟩ : Addr).add j = ⟨b, o + j, none⟩ := by
      unfold Addr.add
      split
      · next h => rw [h]; rfl
      · rfl
    rw [e, this]
    simp [List.getElem?_eq_getElem hj] at hu
    rw [← hu]
    simp [List.getElem?_eq_getElem hj]
theorem wpList_append_rd {P : Program} {w : World} {ops : Array Oper} {rest : List Oper} {o : Oper} {a : Act} {Q : Exit → Act → World → Prop} (hgd : o.guard = none) (s x : Operand) (t : TypeId)
    (ho : o.op = .call { callee := .builtin .append, args := #[s, x], argTypes := #[t, t] })
    (base : Nat) (e : TypeId) (i : TypeInfo) (z : Value) (bytes : Nat) (ht : P.underlying t = some (.slice e)) (hi : P.info? e = some i) (hz : i.zero = some z)
    (hsize : i.size = 1) (hby : i.bytes = bytes) (hzs : z.cells.size = 1)
    (v : Value) (n : Nat) (xs : List Value) (hs : a.eval s = v) (hown : w.ownsRow base e 1 v n xs)
    (y : Value) (enc : Int → Value) (ys : List Int) (hx : a.eval x = y) (hr : Rdv enc w y ys) (h1 : ∀ q, (enc q).oneCell' = true)
    (h63 : n + ys.length ≤ maxLen) (hbytes : (n + ys.length) * bytes ≤ 140737488355328) (hbase : base ≤ w.heap.size)
    (h : ∀ v' w', w'.ownsRow base e 1 v' (n + ys.length) (xs ++ ys.map enc) → w.grownBy w' v.ownBlock → (v'.ownBlock = v.ownBlock ∨ v'.ownBlock = some w.heap.size) → wpList P ops Q rest (a.put o.dst v') w') : wpList P ops Q (o :: rest) a w := by
  obtain ⟨ya, yn, yc, rfl⟩ := hr.shape
  have hl : ys.length = yn := by
    obtain ⟨_, _, e, _⟩ := hr
    rw [Value.slice.injEq] at e
    exact e.2.1.symm
  rcases ya with _ | ad
  · have hn : ys = [] := by
      obtain ⟨_, _, e, _, _, h3⟩ := hr
      rw [Value.slice.injEq] at e
      obtain ⟨rfl, _, _⟩ := e
      rcases h3 with h3 | ⟨b, o, h3, _⟩
      · exact h3
      · cases h3
    subst hn
    simp at hl
    subst hl
    refine wpList_plain hgd fun K hK => ?_
    have hrun := run_append_nil_src (P := P) (w := w) base t o.type e i 1 ht hi v n xs hown yc
    unfold Oper.wp execOp
    simp only [ho, resolve, invoke, builtin, Sem.run_bind, Sem.run_pure, Result.andThen_ok, List.map_toArray, List.map_cons, List.map_nil, hs, hx, hrun]
    exact hK _ _ (h v w (by simpa using hown) (World.grownBy.refl w _) (.inl rfl))
  · subst hl
    exact wpList_append_own_at w hgd s x t ho base e i z 1 bytes ht hi hz hsize hby hzs (by decide) v n xs hs hown ad ys.length yc (ys.map enc) hx (by simp) (rdv_news hr) (fun u hu => by
      obtain ⟨q, _, rfl⟩ := List.mem_map.1 hu; exact h1 q) h63 hbytes hbase fun v' w' g1 g2 _ g4 => h v' w' g1 g2 g4
theorem ofInt_i64 (a : Nat) (ha : a < 9223372036854775808) : (BitVec.ofInt 64 (a : Int)).toNat = a := by
  rw [BitVec.ofInt_natCast, BitVec.toNat_ofNat]; exact Nat.mod_eq_of_lt (by omega)
theorem i64_or_nat (a b : Nat) (ha : a < 9223372036854775808) (hb : b < 9223372036854775808) : bits .or .i64 (a : Int) (b : Int) = ((a ||| b : Nat) : Int) := by
  have hx : a ||| b < 2 ^ 63 := Nat.or_lt_two_pow (by omega) (by omega)
  show IntKind.i64.wrap ((BitVec.ofInt 64 (a : Int) ||| BitVec.ofInt 64 (b : Int)).toNat : Int) = _
  rw [BitVec.toNat_or, ofInt_i64 a ha, ofInt_i64 b hb, IntKind.wrap_i64]
  omega
/-- Four bytes as a number, the lowest first, and the other way. -/
def v4 (a b c d : Nat) : Nat := a + b * 256 + c * 65536 + d * 16777216
def le4 (x : Nat) : List Int := [(x : Int) % 256, (x : Int) / 256 % 256, (x : Int) / 65536 % 256, (x : Int) / 16777216 % 256]
theorem or8 (a b : Nat) (ha : a < 256) : a ||| b * 256 = a + b * 256 := by
  rw [Nat.or_comm, nat_join 8 (b * 256) a (by omega) (by omega)]; omega
theorem or16 (a b : Nat) (ha : a < 65536) : a ||| b * 65536 = a + b * 65536 := by
  rw [Nat.or_comm, nat_join 16 (b * 65536) a (by omega) (by omega)]; omega
theorem or24 (a b : Nat) (ha : a < 16777216) : a ||| b * 16777216 = a + b * 16777216 := by
  rw [Nat.or_comm, nat_join 24 (b * 16777216) a (by omega) (by omega)]; omega
theorem join_u32 (a b c d : Nat) (ha : a < 256) (hb : b < 256) (hc : c < 256) (hd : d < 256) :
    bits .or .u32 (bits .or .u32 (bits .or .u32 (a : Int) ((b : Int) * 256)) ((c : Int) * 65536)) ((d : Int) * 16777216) = ((v4 a b c d : Nat) : Int) := by
  have e1 := u32_or_nat a (b * 256) (by omega) (by omega)
  rw [or8 a b ha] at e1
  have e2 := u32_or_nat (a + b * 256) (c * 65536) (by omega) (by omega)
  rw [or16 _ c (by omega)] at e2
  have e3 := u32_or_nat (a + b * 256 + c * 65536) (d * 16777216) (by omega) (by omega)
  rw [or24 _ d (by omega)] at e3
  have c1 : ((b * 256 : Nat) : Int) = (b : Int) * 256 := Int.natCast_mul b 256
  have c2 : ((c * 65536 : Nat) : Int) = (c : Int) * 65536 := Int.natCast_mul c 65536
  have c3 : ((d * 16777216 : Nat) : Int) = (d : Int) * 16777216 := Int.natCast_mul d 16777216
  rw [c1] at e1
  rw [c2] at e2
  rw [c3] at e3
  rw [e1, e2, e3, v4]
theorem join_i64 (a b c d : Nat) (ha : a < 256) (hb : b < 256) (hc : c < 256) (hd : d < 256) :
    bits .or .i64 (bits .or .i64 (bits .or .i64 (a : Int) ((b : Int) * 256)) ((c : Int) * 65536)) ((d : Int) * 16777216) = ((v4 a b c d : Nat) : Int) := by
  have e1 := i64_or_nat a (b * 256) (by omega) (by omega)
  rw [or8 a b ha] at e1
  have e2 := i64_or_nat (a + b * 256) (c * 65536) (by omega) (by omega)
  rw [or16 _ c (by omega)] at e2
  have e3 := i64_or_nat (a + b * 256 + c * 65536) (d * 16777216) (by omega) (by omega)
  rw [or24 _ d (by omega)] at e3
  have c1 : ((b * 256 : Nat) : Int) = (b : Int) * 256 := Int.natCast_mul b 256
  have c2 : ((c * 65536 : Nat) : Int) = (c : Int) * 65536 := Int.natCast_mul c 65536
  have c3 : ((d * 16777216 : Nat) : Int) = (d : Int) * 16777216 := Int.natCast_mul d 16777216
  rw [c1] at e1
  rw [c2] at e2
  rw [c3] at e3
  rw [e1, e2, e3, v4]
theorem v4_le4 (x : Nat) (hx : x < 4294967296) : v4 (x % 256) (x / 256 % 256) (x / 65536 % 256) (x / 16777216 % 256) = x := by unfold v4; omega
/-- string(v), v as it reads. -/
theorem conv_rdv {P : Program} {w : World} (src e : TypeId) (hs : P.underlying src = some (.slice e)) (he : P.underlying e = some (.int .u8)) {v : Value} {l : List Int} (h : Rdv (.int .u8) w v l) :
    ∀ dst, P.underlying dst = some .string → (convert src dst v).run P w = .ok (.string (strOfNums l)) w := by
  obtain ⟨a, c, rfl, h1, h2, h3⟩ := h
  intro dst hd
  rcases h3 with rfl | ⟨b, o, rfl, h3⟩
  · rcases a with _ | x
    · exact run_convert_bytes_nil w src e hs he _ _ dst hd
    · have hl : (loadCells x ([] : List Int).length).run P w = .ok (([] : List Int).map (Value.int .u8)).toArray w := by simp [loadCells, loadCellsFrom]
      rw [run_convert_bytes_string w src dst e _ _ c hs he hd, run_bytesToString w _ _ c [] hl, foldl_push_bytes]
      simp [strOfNums, ByteArray.empty, ByteArray.emptyWithCapacity]
      rfl
  · exact run_convert_bytes_arg w src e hs he b o l.length c l rfl h3 dst hd
end Go.Proofs.YthbalmoafpggdaaGreat
namespace Go.Proofs.YthbalmoafpggdaaGreat
open Go.RowKit
set_option linter.unusedVariables false
set_option linter.unusedSimpArgs false
abbrev u8v : Int → Value := .int .u8
theorem Tryz.info5 : (Tryz.prog.info? 5).map (fun i => (i.zero, i.size, i.bytes)) = some (some (.int .u8 0), 1, 1) := by kernel_rfl
def Byt (l : List Int) : Prop := ∀ q ∈ l, 0 ≤ q ∧ q < 256
theorem Rdv.chg {S : Nat → Prop} {enc : Int → Value} {w w' : World} {v : Value} {xs : List Int} (h : Rdv enc w v xs) (hg : Chg S w w') (hs : ∀ b o n c, v = .slice (some ⟨b, o, none⟩) n c → ¬ S b) : Rdv enc w' v xs := by
  obtain ⟨a, c, rfl, h1, h2, h3⟩ := h
  refine ⟨a, c, rfl, h1, h2, ?_⟩
  rcases h3 with h3 | ⟨b, o, rfl, h3⟩
  · exact .inl h3
  · refine .inr ⟨b, o, rfl, fun i hi => ?_⟩
    have := h3 i hi
    rw [(chgcell hg).1 b (o + i) (World.block_lt_of_cell? w _ this) (hs b o _ _ rfl)]
    exact this
theorem Rdv.set {enc : Int → Value} {w : World} {g o n c : Nat} {xs : List Int} (h : Rdv enc w (.slice (some ⟨g, o, none⟩) n c) xs) (p : Addr) (u : Value) (hne : g ≠ p.block) : Rdv enc (w.setCell p u) (.slice (some ⟨g, o, none⟩) n c) xs :=
  h.chg (S := fun k => k = p.block) (Chg.set (S := fun k => k = p.block) (Chg.refl _ w) (p := p) (fun _ => rfl) u) (fun b0 o0 n0 c0 e => by rw [Value.slice.injEq] at e; obtain ⟨e, _⟩ := e; injection e with e; injection e with e _; subst e; exact hne)
theorem Rdv.chgB {S : Nat → Prop} {enc : Int → Value} {w w' : World} {g o n c : Nat} {xs : List Int} (h : Rdv enc w (.slice (some ⟨g, o, none⟩) n c) xs) (hg : Chg S w w') (hne : ¬ S g) : Rdv enc w' (.slice (some ⟨g, o, none⟩) n c) xs :=
  h.chg hg (fun b0 o0 n0 c0 e => by rw [Value.slice.injEq] at e; obtain ⟨e, _⟩ := e; injection e with e; injection e with e _; subst e; exact hne)
theorem Byt.at_ {l : List Int} (h : Byt l) (i : Nat) (hi : i < l.length) : ∃ x : Nat, l.getD i 0 = x ∧ x < 256 := by
  have hm : l.getD i 0 ∈ l := by rw [List.getD_eq_getElem?_getD, List.getElem?_eq_getElem hi]; exact List.getElem_mem hi
  have := h _ hm
  exact ⟨(l.getD i 0).toNat, by omega, by omega⟩
theorem rdv_mark (w : World) (l : List Int) (T : TypeId) (fr : Nat × Nat) (hl : l.length ≤ maxLen) : Rdv u8v (w.alloc (.cells (l.map u8v).toArray T fr)) (.slice (some ⟨w.heap.size, 0, none⟩) l.length l.length) l :=
  ⟨_, _, rfl, Nat.le_refl _, hl, .inr ⟨w.heap.size, 0, rfl, fun i hi => by rw [Nat.zero_add, World.cell?_alloc_mark]; simp [List.getElem?_eq_getElem hi]⟩⟩
theorem Rdv.at0 {enc : Int → Value} {w : World} {g n c : Nat} {xs : List Int} (h : Rdv enc w (.slice (some ⟨g, 0, none⟩) n c) xs) (i : Nat) (hi : i < xs.length) : w.cell? ⟨g, i, none⟩ = some (enc (xs.getD i 0)) := by
  obtain ⟨a', c', e, h1, h2, h3⟩ := h
  rcases h3 with rfl | ⟨b, o, rfl, h3⟩
  · simp at hi
  · rw [Value.slice.injEq] at e
    obtain ⟨e, _, _⟩ := e
    injection e with e
    injection e with e1 e2
    subst e1; subst e2
    have := h3 i hi
    rwa [Nat.zero_add] at this
theorem Rdv.cell0 {enc : Int → Value} {w : World} {b o n c : Nat} {x : Int} {xs : List Int} (h : Rdv enc w (.slice (some ⟨b, o, none⟩) n c) (x :: xs)) : w.cell? ⟨b, o, none⟩ = some (enc x) := by
  obtain ⟨a', c', e, h1, h2, h3⟩ := h
  rcases h3 with h3 | ⟨b', o', h3, h4⟩
  · cases h3
  · rw [Value.slice.injEq] at e
    obtain ⟨e, _, _⟩ := e
    rw [h3] at e
    injection e with e
    injection e with e1 e2
    subst e1; subst e2
    exact h4 0 (by simp)
def ClonePost (l : List Int) (w : World) (e : Ending) (w' : World) : Prop :=
  ∃ v, e = .returned v ∧ w'.ownsRow w.heap.size 5 1 v l.length (l.map u8v) ∧ Below w.heap.size w w'
set_option maxHeartbeats 1000000 in
set_option maxRecDepth 100000 in
theorem cloneC (v : Value) (l : List Int) (w : World) (h : Rdv u8v w v l) (hl : l.length ≤ 1000000000000) :
    Calls Tryz.prog 66 #[v] w (ClonePost l w) := by
  obtain ⟨i0, hi, hz0, hz1, hz2⟩ := info_parts Tryz.info5
  have h0 := h
  obtain ⟨a, n, c, rfl⟩ := h.shape
  obtain ⟨rfl, h1, h2, h3⟩ := h.cap
  unfold maxLen at h2
  have hq := fun w' n => Lib.run_eql_slice_nil (P := Tryz.prog) w' 30 5 a n c 0 0 Tryz.underlying30
  rcases a with _ | ad
  · obtain rfl : l = [] := by
      by_cases hn : l = []
      · exact hn
      · obtain ⟨_, _, h⟩ := h3 hn
        cases h
    clear h h0 h3
    go_enter Tryz.func66, Tryz.ntmps66
    go_wp2
    go_ret
    exact ⟨_, rfl, World.ownsRow_nil _ _ _ _, Below.refl _ _⟩
  · have ho := World.ownsRow_made (base := w.heap.size) (e := 5) (size := 1) w #[] 0 (Nat.le_refl _) (by unfold maxLen; omega) rfl
    clear h h3
    go_enter Tryz.func66, Tryz.ntmps66
    go_wp2_with (at_builtin; refine wpList_append_rd rfl _ _ 30 rfl w.heap.size 5 i0 (.int .u8 0) 1 Tryz.underlying30 hi hz0 hz1 hz2 rfl _ 0 _ rfl ho (.slice (some ad) l.length c) u8v l rfl (h0.alloc _) (fun _ => rfl) ?c1 ?c2 ?c3 ?_)
    case c1 => unfold maxLen; omega
    case c2 => omega
    case c3 => simp
    intro v4 w4 ho4 hg4 _
    have b4 := ((Below.refl w.heap.size w).alloc (Nat.le_refl _) (.cells #[] 5)).grown hg4 (by simp) (fun q hq => by simp [Value.ownBlock] at hq; omega)
    have HO := Lib.hid ho4
    clear ho4 ho hg4 hq
    go_wp2
    go_ret
    exact ⟨v4, rfl, by simpa using HO.out, b4⟩
end Go.Proofs.YthbalmoafpggdaaGreat
namespace Go.Proofs.YthbalmoafpggdaaGreat
open Go.RowKit
set_option linter.unusedVariables false
set_option linter.unusedSimpArgs false
/-- A number's bytes, at most k of them. -/
def numF : Nat → Nat → List Int
  | 0, _ => []
  | k + 1, n => if n ≤ 127 then [(n : Int)] else ((n % 128 + 128 : Nat) : Int) :: numF k (n / 128)
def numL (n : Nat) : List Int := numF 9 n
theorem numF_small (k n : Nat) (h : n ≤ 127) (hk : 1 ≤ k) : numF k n = [(n : Int)] := by
  obtain ⟨j, rfl⟩ : ∃ j, k = j + 1 := ⟨k - 1, by omega⟩
  unfold numF; rw [if_pos h]
theorem numF_step (k n : Nat) (h : 127 < n) : numF (k + 1) n = ((n % 128 + 128 : Nat) : Int) :: numF k (n / 128) := by
  show (if n ≤ 127 then _ else _) = _
  rw [if_neg (by omega)]
theorem numF_len : ∀ k n, (numF k n).length ≤ k
  | 0, _ => by simp [numF]
  | k + 1, n => by
    unfold numF
    split
    · simp
    · have := numF_len k (n / 128); simp; omega
theorem numL_len (n : Nat) : (numL n).length ≤ 9 := numF_len 9 n
theorem numF_byt : ∀ k n, ∀ q ∈ numF k n, 0 ≤ q ∧ q < 256
  | 0, _, q, h => by simp [numF] at h
  | k + 1, n, q, h => by
    unfold numF at h
    split at h
    · simp at h; omega
    · rcases List.mem_cons.1 h with rfl | h
      · omega
      · exact numF_byt k _ q h
theorem numL_byt (n : Nat) : ∀ q ∈ numL n, 0 ≤ q ∧ q < 256 := numF_byt 9 n
/-- A number out of bytes: its value, and how many bytes it takes. -/
def rdN (l : List Int) : Nat → Nat → Nat → Option (Nat × Nat)
  | 0, _, _ => none
  | f + 1, k, n => match l[k]? with
    | none => none
    | some c => if c.toNat < 128 then (if (c.toNat = 0 ∧ 0 < k) ∨ 4611686018427387904 < n + c.toNat % 128 * 2 ^ (7 * k) then none else some (n + c.toNat % 128 * 2 ^ (7 * k), k + 1)) else rdN l f (k + 1) (n + c.toNat % 128 * 2 ^ (7 * k))
def numR (l : List Int) : Option (Nat × Nat) := rdN l 9 0 0
theorem rdN_bd (l : List Int) : ∀ f k n v j, rdN l f k n = some (v, j) → v ≤ 4611686018427387904 ∧ k < j ∧ j ≤ l.length ∧ j ≤ k + f
  | 0, _, _, _, _, h => by simp [rdN] at h
  | f + 1, k, n, v, j, h => by
    unfold rdN at h
    split at h
    · cases h
    · next c hc =>
      have hk : k < l.length := by
        rcases Nat.lt_or_ge k l.length with h | h
        · exact h
        · rw [List.getElem?_eq_none h] at hc; cases hc
      split at h
      · split at h
        · cases h
        · next h2 =>
          simp only [Option.some.injEq, Prod.mk.injEq] at h
          obtain ⟨rfl, rfl⟩ := h
          refine ⟨by omega, by omega, by omega, by omega⟩
      · have := rdN_bd l f _ _ v j h
        omega
theorem numR_bd {l : List Int} {v j : Nat} (h : numR l = some (v, j)) : v ≤ 4611686018427387904 ∧ 0 < j ∧ j ≤ l.length := by
  have := rdN_bd l 9 0 0 v j h; omega
theorem numF_pos : ∀ k n, n < 128 ^ k → 0 < n → numF k n ≠ [] ∧ ∀ h : (numF k n) ≠ [], (numF k n).getLast h ≠ 0
  | 0, n, h, h0 => by simp at h; omega
  | k + 1, n, h, h0 => by
    by_cases hs : n ≤ 127
    · rw [numF_small _ _ hs (by omega)]; simp; omega
    · rw [numF_step _ _ (by omega)]
      have hd : n / 128 < 128 ^ k := by rw [Nat.div_lt_iff_lt_mul (by omega), ← Nat.pow_succ]; exact h
      have ih := numF_pos k (n / 128) hd (by omega)
      refine ⟨by simp, fun h' => ?_⟩
      rw [List.getLast_cons ih.1]
      exact ih.2 _
/-- What was written is read. -/
theorem rdN_numF (l : List Int) : ∀ k n v s f, n < 128 ^ k → (0 < s → 0 < n) → v + n * 2 ^ (7 * s) ≤ 4611686018427387904 → k ≤ f → 1 ≤ k → (∀ i, i < (numF k n).length → l[s + i]? = (numF k n)[i]?) → rdN l f s v = some (v + n * 2 ^ (7 * s), s + (numF k n).length)
  | 0, n, v, s, f, h, h0, hm, hf, h1, hl => by omega
  | k + 1, n, v, s, 0, h, h0, hm, hf, h1, hl => by omega
  | k + 1, n, v, s, f + 1, h, h0, hm, hf, h1, hl => by
    by_cases hs : n ≤ 127
    · rw [numF_small _ _ hs (by omega)] at hl ⊢
      have e := hl 0 (by simp)
      simp at e
      unfold rdN
      rw [e]
      have e1 : ((n : Int)).toNat = n := by omega
      simp only [e1]
      rw [if_pos (by omega), Nat.mod_eq_of_lt (by omega), if_neg (by omega)]
      simp
    · rw [numF_step _ _ (by omega)] at hl ⊢
      have e := hl 0 (by simp)
      simp at e
      unfold rdN
      rw [e]
      have e1 : ((n : Int) % 128 + 128).toNat = n % 128 + 128 := by omega
      simp only [e1]
      rw [if_neg (by omega), show (n % 128 + 128) % 128 = n % 128 by omega]
      have hd : n / 128 < 128 ^ k := by rw [Nat.div_lt_iff_lt_mul (by omega), ← Nat.pow_succ]; exact h
      have h1k : 1 ≤ k := by
        rcases Nat.eq_zero_or_pos k with rfl | h
        · simp at hd; omega
        · exact h
      have hp : 2 ^ (7 * (s + 1)) = 128 * 2 ^ (7 * s) := by rw [show 7 * (s + 1) = 7 + 7 * s by omega, Nat.pow_add]
      have hsum : v + n % 128 * 2 ^ (7 * s) + n / 128 * 2 ^ (7 * (s + 1)) = v + n * 2 ^ (7 * s) := by
        rw [hp, Nat.add_assoc, ← Nat.mul_assoc, ← Nat.add_mul, show n % 128 + n / 128 * 128 = n by omega]
      have := rdN_numF l k (n / 128) (v + n % 128 * 2 ^ (7 * s)) (s + 1) f hd (by omega) (by rw [hsum]; exact hm) (by omega) h1k (fun i hi => by
        have := hl (i + 1) (by simp; omega)
        rw [show s + 1 + i = s + (i + 1) by omega, this]
        simp)
      rw [this, hsum]
      simp; omega
theorem rdN_low (l : List Int) : ∀ f k n v j, 0 < k → rdN l f k n = some (v, j) → n + 2 ^ (7 * k) ≤ v
  | 0, _, _, _, _, _, h => by simp [rdN] at h
  | f + 1, k, n, v, j, hk, h => by
    unfold rdN at h
    split at h
    · cases h
    · next c hc =>
      split at h
      · next h1 =>
        split at h
        · cases h
        · next h2 =>
          simp only [Option.some.injEq, Prod.mk.injEq] at h
          obtain ⟨rfl, rfl⟩ := h
          have : 1 ≤ c.toNat % 128 := by omega
          have := Nat.mul_le_mul_right (2 ^ (7 * k)) this
          omega
      · have := rdN_low l f _ _ v j (by omega) h
        have hp : 2 ^ (7 * (k + 1)) = 128 * 2 ^ (7 * k) := by rw [show 7 * (k + 1) = 7 + 7 * k by omega, Nat.pow_add]
        omega
theorem numL_ne (n : Nat) : 1 ≤ (numL n).length := by
  unfold numL
  by_cases h : n ≤ 127
  · rw [numF_small _ _ h (by omega)]; simp
  · rw [show (9 : Nat) = 8 + 1 from rfl, numF_step _ _ (by omega)]; simp
theorem numR_numL (n : Nat) (rest : List Int) (h : n ≤ 4611686018427387904) : numR (numL n ++ rest) = some (n, (numL n).length) := by
  have := rdN_numF (numL n ++ rest) 9 n 0 0 9 (by omega) (by omega) (by omega) (by omega) (by omega) (fun i hi => by
    rw [Nat.zero_add]; show (numF 9 n ++ rest)[i]? = _; rw [List.getElem?_append_left hi])
  unfold numR
  rw [this]
  simp [numL]
/-- A reader's state: none: it is bad. -/
abbrev RS := Option (List Int)
def numS : RS → Nat × RS
  | none => (0, none)
  | some l => match numR l with
    | none => (0, none)
    | some (n, k) => (n, some (l.drop k))
def bytesS (s : RS) : List Int × RS := match numS s with
  | (_, none) => ([], none)
  | (n, some l) => if 65536 < n ∨ l.length < n then ([], none) else (l.take n, some (l.drop n))
def truthS (s : RS) : Bool × RS := match numS s with
  | (_, none) => (false, none)
  | (n, some l) => if 1 < n then (false, none) else (decide (n = 1), some l)
def idS (s : RS) : (Nat × Nat) × RS := match numS (numS s).2 with
  | (_, none) => ((0, 0), none)
  | (n, some l) => if 1152921504606846976 < (numS s).1 ∨ 64 ≤ n then ((0, 0), none) else (((numS s).1, n), some l)
def numsS : Nat → RS → List Int × RS
  | 0, s => ([], s)
  | k + 1, s => ((numsS k s).1 ++ [((numS (numsS k s).2).1 : Int)], (numS (numsS k s).2).2)
def vecMayB (v : List Int) : Bool := v.all fun x => decide (0 ≤ x) && decide (x ≤ 1152921504606846976)
def vecOkB (v : List Int) : Bool := vecMayB v && decide (v = [] ∨ v.getD (v.length - 1) 0 ≠ 0)
def vecS (s : RS) : List Int × RS := match numS s with
  | (_, none) => ([], none)
  | (n, some l) => if 64 < n then ([], none) else match numsS n (some l) with
    | (_, none) => ([], none)
    | (v, some l') => if vecOkB v = true then (v, some l') else ([], none)
def leftS (s : RS) : List Int := s.getD []
theorem numS_none : numS none = (0, none) := rfl
theorem numS_bd (s : RS) : (numS s).1 ≤ 4611686018427387904 := by
  unfold numS
  split
  · simp
  · split
    · simp
    · next h => exact (numR_bd h).1
theorem numsS_len : ∀ k s, (numsS k s).1.length = k
  | 0, _ => rfl
  | k + 1, s => by simp [numsS, numsS_len k s]
theorem numsS_bd : ∀ k s, ∀ x ∈ (numsS k s).1, 0 ≤ x ∧ x ≤ 4611686018427387904
  | 0, _, x, h => by simp [numsS] at h
  | k + 1, s, x, h => by
    simp only [numsS, List.mem_append, List.mem_singleton] at h
    rcases h with h | rfl
    · exact numsS_bd k s x h
    · have := numS_bd (numsS k s).2; omega
/-- What is left is of what there was. -/
def Sub (s t : RS) : Prop := ∀ l, t = some l → ∃ m, s = some m ∧ ∃ j, l = m.drop j
theorem Sub.refl (s : RS) : Sub s s := fun l h => ⟨l, h, 0, rfl⟩
theorem Sub.trans {a b c : RS} (h : Sub a b) (k : Sub b c) : Sub a c := fun l hl => by
  obtain ⟨m, hm, j, rfl⟩ := k l hl
  obtain ⟨m', hm', j', rfl⟩ := h m hm
  exact ⟨m', hm', j' + j, by rw [List.drop_drop]⟩
theorem numS_sub (s : RS) : Sub s (numS s).2 := by
  intro l hl
  unfold numS at hl
  split at hl
  · cases hl
  · next m =>
    split at hl
    · cases hl
    · next n k hk =>
      simp only [Option.some.injEq] at hl
      exact ⟨m, rfl, k, hl.symm⟩
/-- The words as bytes; none: one that cannot be written. -/
def numW (n : Int) : Option (List Int) := if 0 ≤ n ∧ n ≤ 4611686018427387904 then some (numL n.toNat) else none
def bytesW (x : List Int) : Option (List Int) := if x.length ≤ 65536 then some (numL x.length ++ x) else none
def truthW (b : Bool) : List Int := if b then [1] else [0]
def idOk (t n : Int) : Bool := decide (0 ≤ t) && decide (t ≤ 1152921504606846976) && decide (0 ≤ n) && decide (n < 64)
def idW (t n : Int) : Option (List Int) := if idOk t n = true then some (numL t.toNat ++ numL n.toNat) else none
def numsL (v : List Int) : List Int := v.flatMap fun x => numL x.toNat
/-- The zeros at its end cut off. -/
def cutTo (v : List Int) : Nat → Nat | 0 => 0 | k + 1 => if v.getD k 0 = 0 then cutTo v k else k + 1
def cutL (v : List Int) : List Int := v.take (cutTo v v.length)
theorem cutTo_le (v : List Int) : ∀ k, cutTo v k ≤ k
  | 0 => Nat.le_refl _
  | k + 1 => by have := cutTo_le v k; unfold cutTo; split <;> omega
theorem cutL_len (v : List Int) : (cutL v).length = cutTo v v.length := by
  have := cutTo_le v v.length
  simp [cutL]; omega
def vecW (v : List Int) : Option (List Int) := if vecMayB (cutL v) = true ∧ (cutL v).length ≤ 64 then some (numL (cutL v).length ++ numsL (cutL v)) else none
theorem numsL_len : ∀ v : List Int, (numsL v).length ≤ 10 * v.length
  | [] => by simp [numsL]
  | x :: v => by have := numsL_len v; have := numL_len x.toNat; simp only [numsL, List.flatMap_cons, List.length_append, List.length_cons] at *; omega
theorem numsL_byt (v : List Int) : ∀ q ∈ numsL v, 0 ≤ q ∧ q < 256 := by
  intro q hq
  obtain ⟨x, _, hx⟩ := List.mem_flatMap.1 hq
  exact numL_byt _ q hx
end Go.Proofs.YthbalmoafpggdaaGreat

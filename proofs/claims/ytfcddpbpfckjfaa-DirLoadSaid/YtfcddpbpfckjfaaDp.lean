/- A directory of names: its blocks. -/
import Derived.Test.YtfcddpbpfckjfaaChecked
import Derived.WalkKit
import Derived.Outline
import Derived.WalkSpells
import Derived.WalkLawsBesides
import Derived.Deep.QuietTactic
import Derived.Deep.RegionWith
import Derived.Deep.DeepMust
import Derived.BigQuiet
import Derived.Test.YtfcddpbpfckjfaaMem
import Derived.RegionTactic
import Derived.ChangeAlike
import Derived.StillTailTactics
import Derived.BigRegion
import Derived.Deep.LoopGhost
import Derived.Deep.RegionHeld3
import Derived.Deep.RegionLaw
import Derived.Deep.AppendLies
import Derived.Test.YtfcddpbpfckjfaaDg
import Derived.Test.YtfcddpbpfckjfaaStrL
import Derived.Test.YtfcddpbpfckjfaaCrc2
namespace Go.Proofs.Ytfcddpbpfckjfaa
open Go.RowKit
open Go.Maps
set_option linter.unusedVariables false
set_option linter.unusedSimpArgs false
/-- An entry's bytes. -/
def entB (p : Ent) : List Int := (p.1.size : Int) :: strL p.1 ++ le4 p.2
def fitB (xss : List (List Int)) (n i : Nat) : Bool := decide ((xss.getD i []).length + n ≤ 512)
def goB (xss : List (List Int)) (i0 j : Nat) : Nat := (i0 + j) % xss.length
/-- How far behind its own block an entry has room. -/
def distB (xss : List (List Int)) (n i0 : Nat) : Nat := ((List.range xss.length).find? fun j => fitB xss n (goB xss i0 j)).getD 0
def slotB (xss : List (List Int)) (n i0 : Nat) : Nat := goB xss i0 (distB xss n i0)
def putB (xss : List (List Int)) (p : Ent) : List (List Int) :=
  let k := slotB xss (entB p).length (crcOf (strL p.1) % xss.length)
  xss.set k (xss.getD k [] ++ entB p)
/-- There is room somewhere. -/
def RoomB (xss : List (List Int)) (n : Nat) : Prop := ∃ i, i < xss.length ∧ fitB xss n i = true
theorem entB_len (p : Ent) : (entB p).length = p.1.size + 5 := by
  unfold entB
  simp [strL_len, le4_len]
theorem goB_lt {xss : List (List Int)} (h : 0 < xss.length) (i0 j : Nat) : goB xss i0 j < xss.length := Nat.mod_lt _ h
theorem goB_next {xss : List (List Int)} (i0 j : Nat) : (goB xss i0 j + 1) % xss.length = goB xss i0 (j + 1) := by
  unfold goB
  rw [Nat.mod_add_mod, Nat.add_assoc]
theorem dist_spec {xss : List (List Int)} {n i0 : Nat} (h : RoomB xss n) (hi : i0 < xss.length) :
    distB xss n i0 < xss.length ∧ fitB xss n (slotB xss n i0) = true ∧ ∀ j, j < distB xss n i0 → fitB xss n (goB xss i0 j) = false := by
  obtain ⟨i, h1, h2⟩ := h
  have hj : goB xss i0 ((i + xss.length - i0) % xss.length) = i := by
    unfold goB
    rw [Nat.add_mod_mod]
    rw [show i0 + (i + xss.length - i0) = i + xss.length by omega, Nat.add_mod_right, Nat.mod_eq_of_lt h1]
  unfold slotB distB
  cases hf : (List.range xss.length).find? fun j => fitB xss n (goB xss i0 j) with
  | none =>
    rw [List.find?_eq_none] at hf
    have := hf ((i + xss.length - i0) % xss.length) (List.mem_range.2 (Nat.mod_lt _ (by omega)))
    rw [hj, h2] at this
    exact absurd rfl this
  | some d =>
    rw [List.find?_eq_some_iff_getElem] at hf
    obtain ⟨k1, k, k2, k3, k4⟩ := hf
    rw [List.length_range] at k2
    rw [List.getElem_range] at k3
    subst k3
    refine ⟨k2, k1, fun j hj => ?_⟩
    have := k4 j hj
    rw [List.getElem_range] at this
    simpa using this
/-- The blocks as they lie. -/
structure BkS (w : World) (B bb g : Nat) (vs : List Value) (xss : List (List Int)) : Prop where
  blk : Blk w bb #[.slice (some ⟨g, 0, none⟩) xss.length xss.length] 101
  row : Blk w g vs.toArray 48
  len : vs.length = xss.length
  own : ∀ i, i < xss.length → w.ownsRow B 5 1 (vs.getD i .nilIface) (xss.getD i []).length ((xss.getD i []).map u8v)
  apart : ∀ i j k, i < xss.length → j < xss.length → (vs.getD i .nilIface).ownBlock = some k → (vs.getD j .nilIface).ownBlock = some k → i = j
theorem BkS.chg {S : Nat → Prop} {w w' : World} {B bb g : Nat} {vs : List Value} {xss : List (List Int)} (h : BkS w B bb g vs xss) (hc : Chg S w w') (h1 : ¬ S bb) (h2 : ¬ S g) (h3 : ∀ i k, i < xss.length → (vs.getD i .nilIface).ownBlock = some k → ¬ S k) : BkS w' B bb g vs xss :=
  ⟨hc.blk h.blk h1, hc.blk h.row h2, h.len, fun i hi => ownsRow_chg (h.own i hi) hc (h3 i · hi), h.apart⟩
theorem BkS.below {w w' : World} {B bb g : Nat} {vs : List Value} {xss : List (List Int)} (h : BkS w B bb g vs xss) (hb : Below w.heap.size w w') : BkS w' B bb g vs xss :=
  ⟨blkBelow hb h.blk h.blk.lt, blkBelow hb h.row h.row.lt, h.len, fun i hi => ownsRow_below (h.own i hi) hb, h.apart⟩
theorem BkS.ne {w : World} {B bb g : Nat} {vs : List Value} {xss : List (List Int)} (h : BkS w B bb g vs xss) : bb ≠ g ∧ ∀ i k, i < xss.length → (vs.getD i .nilIface).ownBlock = some k → k ≠ bb ∧ k ≠ g := by
  refine ⟨fun e => blk_ne h.blk (by decide) (e ▸ h.row), fun i k hi hk => ?_⟩
  obtain ⟨_, cur, h1⟩ := own_typ (h.own i hi) hk
  exact ⟨fun e => blk_ne h1 (by decide) (e ▸ h.blk), fun e => blk_ne h1 (by decide) (e ▸ h.row)⟩
theorem BkS.cell {w : World} {B bb g : Nat} {vs : List Value} {xss : List (List Int)} (h : BkS w B bb g vs xss) {i : Nat} (hi : i < xss.length) : w.cell? ⟨g, i, none⟩ = some (vs.getD i .nilIface) := by
  refine h.row.cell ?_
  have : i < vs.length := by rw [h.len]; exact hi
  simp [this, List.getD_eq_getElem?_getD, List.getElem?_eq_getElem this]
/-- What may have turned of the old blocks: the row of slices and the slices' own rows. -/
def BkC (g : Nat) (vs : List Value) (k : Nat) : Prop := k = g ∨ ∃ i : Nat, i < vs.length ∧ (vs.getD i .nilIface).ownBlock = some k
theorem BkS.put {w W w2 : World} {B bb g i r c : Nat} {vs : List Value} {xss : List (List Int)} {e : List Int} (h : BkS w B bb g vs xss) (hb : Below w.heap.size w W) (hi : i < xss.length)
    (ho : w2.ownsRow B 5 1 (.slice (some ⟨r, 0, none⟩) ((xss.getD i []).length + e.length) c) ((xss.getD i []).length + e.length) ((xss.getD i []).map u8v ++ e.map u8v)) (hg : W.grownBy w2 (vs.getD i .nilIface).ownBlock)
    (hr : (vs.getD i .nilIface).ownBlock = some r ∨ r = W.heap.size) :
    BkS (w2.setCell ⟨g, i, none⟩ (.slice (some ⟨r, 0, none⟩) ((xss.getD i []).length + e.length) c)) B bb g (vs.set i (.slice (some ⟨r, 0, none⟩) ((xss.getD i []).length + e.length) c)) (xss.set i (xss.getD i [] ++ e)) ∧
    Chg (BkC g vs) w (w2.setCell ⟨g, i, none⟩ (.slice (some ⟨r, 0, none⟩) ((xss.getD i []).length + e.length) c)) ∧ w2.cell? ⟨g, i, none⟩ = some (vs.getD i .nilIface) ∧ w2.frozen? ⟨g, i, none⟩ = false ∧ g < w2.heap.size := by
  have H1 := h.below hb
  have hn := H1.ne
  have hiv : i < vs.length := by rw [h.len]; exact hi
  have hgc : Chg (fun k => (vs.getD i .nilIface).ownBlock = some k) W w2 := (Chg.refl _ _).grown hg (fun _ e _ => e)
  have H2 : Blk w2 g vs.toArray 48 := hgc.blk H1.row (fun e => (hn.2 i g hi e).2 rfl)
  have H2b := hgc.blk H1.blk (fun e => (hn.2 i bb hi e).1 rfl)
  have hrg : r ≠ g := by
    rcases hr with e | e
    · exact (hn.2 i r hi e).2
    · have := H1.row.lt; omega
  have hvs : ∀ j, (vs.set i (.slice (some ⟨r, 0, none⟩) ((xss.getD i []).length + e.length) c)).getD j .nilIface = if j = i then .slice (some ⟨r, 0, none⟩) ((xss.getD i []).length + e.length) c else vs.getD j .nilIface := fun j => by
    simp only [List.getD_eq_getElem?_getD, List.getElem?_set]
    by_cases e : i = j
    · subst e; simp [hiv]
    · have e' : ¬ j = i := fun x => e x.symm
      simp [e, e']
  have hxs : ∀ j, (xss.set i (xss.getD i [] ++ e)).getD j [] = if j = i then xss.getD i [] ++ e else xss.getD j [] := fun j => by
    simp only [List.getD_eq_getElem?_getD, List.getElem?_set]
    by_cases e : i = j
    · subst e; simp [hi]
    · have e' : ¬ j = i := fun x => e x.symm
      simp [e, e']
  have hot : ∀ j k, j < xss.length → j ≠ i → (vs.getD j .nilIface).ownBlock = some k → (vs.getD i .nilIface).ownBlock ≠ some k ∧ k ≠ g ∧ k < W.heap.size := fun j k hj hji hk =>
    ⟨fun e => hji (h.apart j i k hj hi hk e), (hn.2 j k hj hk).2, ((H1.own j hj).lt k hk).2⟩
  refine ⟨⟨?_, ?_, by simp [h.len], ?_, ?_⟩, ?_, ?_, H2.free _, H2.lt⟩
  · rw [List.length_set]
    exact H2b.set_ne hn.1 _
  · have := H2.set i (.slice (some ⟨r, 0, none⟩) ((xss.getD i []).length + e.length) c)
    simpa using this
  · intro j hj
    rw [List.length_set] at hj
    rw [hvs, hxs]
    by_cases ej : j = i
    · rw [if_pos ej, if_pos ej, List.length_append, List.map_append]
      refine ownsRow_setCell_other ho (a := ⟨g, i, none⟩) ?_ _
      intro q
      injection q with q
      exact hrg q
    · rw [if_neg ej, if_neg ej]
      have h3 := ownsRow_chg (H1.own j hj) hgc (fun k hk e => (hot j k hj ej hk).1 e)
      refine ownsRow_setCell_other h3 (a := ⟨g, i, none⟩) ?_ _
      intro q
      exact (hot j g hj ej q).2.1 rfl
  · intro a b k ha hb' h1 h2
    rw [List.length_set] at ha hb'
    rw [hvs] at h1 h2
    have key : ∀ j, j < xss.length → j ≠ i → (vs.getD j .nilIface).ownBlock = some r → False := fun j hj hji q => by
      have q1 := hot j r hj hji q
      rcases hr with e | e
      · exact q1.1 e
      · omega
    by_cases ea : a = i
    · by_cases eb : b = i
      · omega
      · rw [if_pos ea] at h1
        rw [if_neg eb] at h2
        injection h1 with h1
        subst h1
        exact (key b hb' eb h2).elim
    · by_cases eb : b = i
      · rw [if_neg ea] at h1
        rw [if_pos eb] at h2
        injection h2 with h2
        subst h2
        exact (key a ha ea h1).elim
      · rw [if_neg ea] at h1
        rw [if_neg eb] at h2
        exact h.apart a b k ha hb' h1 h2
  · refine Chg.set ?_ (fun _ => .inl rfl) _
    exact (Chg.of_below hb (fun k h1 h2 => by omega)).grown hg (fun k hk _ => .inr ⟨i, hiv, hk⟩)
  · refine H2.cell ?_
    simp [hiv, List.getD_eq_getElem?_getD]
end Go.Proofs.Ytfcddpbpfckjfaa

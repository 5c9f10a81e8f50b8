/- A device by what its blocks hold. -/
import Derived.Test.YtfcddpbpfckjfaaChecked
import Derived.WalkKit
import Derived.Outline
import Derived.WalkSpells
import Derived.WalkLawsBesides
import Derived.Deep.QuietTactic
import Derived.Deep.RegionWith
import Derived.Deep.DeepMust
import Derived.BigQuiet
import Derived.Test.YtfcddpbpfckjfaaMem
import Derived.RegionTactic
import Derived.ChangeAlike
import Derived.StillTailTactics
import Derived.Test.YtfcddpbpfckjfaaDvf
import Derived.Test.YtfcddpbpfckjfaaBEq
namespace Go.Proofs.Ytfcddpbpfckjfaa
open Go.RowKit
set_option linter.unusedVariables false
set_option linter.unusedSimpArgs false
/-- A block of which no cell is a byte. -/
def Plain (w : World) (k : Nat) : Prop := ∃ cs T, Blk w k cs T ∧ ∀ (i : Nat) (n : Int), cs[i]? ≠ some (Value.int .u8 n)
theorem Rdv.apart {w : World} {g o n c k : Nat} {l : List Int} (h : Rdv u8v w (.slice (some ⟨g, o, none⟩) n c) l) (hl : l ≠ []) (hk : Plain w k) : g ≠ k := by
  rintro rfl
  obtain ⟨cs, T, hb, hn⟩ := hk
  obtain ⟨a, c', e, h1, h2, h3⟩ := h
  rcases h3 with h3 | ⟨b, o', e2, h3⟩
  · exact hl h3
  · rw [Value.slice.injEq] at e
    obtain ⟨e, _, _⟩ := e
    rw [e2] at e
    injection e with e
    injection e with e1 e2
    subst e1
    have h0 := h3 0 (List.length_pos_iff.2 hl)
    unfold Blk at hb
    simp only [World.cell?, hb] at h0
    exact hn _ _ h0
/-- Bytes that read on where nothing but plain blocks and new ones were turned. -/
theorem Rdv.stay {S : Nat → Prop} {w w' : World} {v : Value} {l : List Int} (h : Rdv u8v w v l) (hc : Chg S w w') (hs : ∀ k, S k → Plain w k) : Rdv u8v w' v l := by
  by_cases hl : l = []
  · subst hl
    obtain ⟨a, c, e, h1, h2, _⟩ := h
    exact ⟨a, c, e, h1, h2, .inl rfl⟩
  · exact h.chg hc fun b o n c e hb => by
      subst e
      exact h.apart hl (hs b hb) rfl
theorem Cont.stay {S : Nat → Prop} {w w' : World} {v : Value} {l : List Int} (h : Cont w v l) (hc : Chg S w w') (hs : ∀ k, S k → Plain w k) : Cont w' v l := by
  refine ⟨h.1, ?_⟩
  rcases h.2 with h | ⟨g, c, h, hr⟩
  · exact .inl h
  · exact .inr ⟨g, c, h, hr.stay hc hs⟩
def NowC (w : World) (ds : List DBlk) (bs : List (List Int)) : Prop := ds.length = bs.length ∧ ∀ (i : Nat) (d : DBlk) (l : List Int), ds[i]? = some d → bs[i]? = some l → Cont w d.1 l ∧ Byt l
def Slc (v : Value) : Prop := ∃ a n c, v = .slice a n c
/-- A device that lives: what its blocks hold, how much was done, whether all is kept. -/
def DevC (w : World) (b u : Nat) (bs : List (List Int)) (co : Int) (fl : Bool) : Prop :=
  ∃ ds, DevAt w b u ds false 0 false co ∧ NowC w ds bs ∧ (∀ d ∈ ds, Slc d.2.1) ∧ (fl = true → ∀ d ∈ ds, d.2.1 = d.1 ∧ d.2.2 = false) ∧ 0 ≤ co
theorem Cont.slc {w : World} {v : Value} {l : List Int} (h : Cont w v l) : Slc v := by
  rcases h.2 with ⟨e, _⟩ | ⟨g, c, e, _⟩
  · exact ⟨_, _, _, e⟩
  · exact ⟨_, _, _, e⟩
theorem NowC.slc {w : World} {ds : List DBlk} {bs : List (List Int)} (h : NowC w ds bs) : ∀ d ∈ ds, Slc d.1 := by
  intro d hd
  obtain ⟨i, hi, rfl⟩ := List.getElem_of_mem hd
  exact (h.2 i _ _ (List.getElem?_eq_getElem hi) (List.getElem?_eq_getElem (by rw [← h.1]; exact hi))).1.slc
theorem drow_plain {ds : List DBlk} (h : ∀ d ∈ ds, Slc d.1 ∧ Slc d.2.1) : ∀ v ∈ drow ds, ∀ n : Int, v ≠ Value.int .u8 n := by
  intro v hv n e
  unfold drow at hv
  rw [List.mem_flatMap] at hv
  obtain ⟨d, hd, hv⟩ := hv
  obtain ⟨⟨a, n1, c, e1⟩, a2, n2, c2, e2⟩ := h d hd
  rw [e1, e2, e] at hv
  simp at hv
theorem DevC.plain {w : World} {b u : Nat} {bs : List (List Int)} {co : Int} {fl : Bool} (h : DevC w b u bs co fl) : Plain w b ∧ Plain w u := by
  obtain ⟨ds, h1, h2, h3, _⟩ := h
  refine ⟨⟨_, _, h1.1, fun i n e => ?_⟩, ⟨_, _, h1.2.1, fun i n e => ?_⟩⟩
  · rcases i with _ | _ | _ | _ | _ | i <;> simp at e
  · have hm : Value.int .u8 n ∈ drow ds := by
      have := Array.mem_of_getElem? e
      simpa using this
    exact drow_plain (fun d hd => ⟨h2.slc d hd, h3 d hd⟩) _ hm n rfl
theorem NowC.stay {S : Nat → Prop} {w w' : World} {ds : List DBlk} {bs : List (List Int)} (h : NowC w ds bs) (hc : Chg S w w') (hs : ∀ k, S k → Plain w k) : NowC w' ds bs :=
  ⟨h.1, fun i d l h1 h2 => ⟨(h.2 i d l h1 h2).1.stay hc hs, (h.2 i d l h1 h2).2⟩⟩
theorem DevC.stay {S : Nat → Prop} {w w' : World} {b u : Nat} {bs : List (List Int)} {co : Int} {fl : Bool} (h : DevC w b u bs co fl) (hc : Chg S w w') (hs : ∀ k, S k → Plain w k ∧ k ≠ b ∧ k ≠ u) : DevC w' b u bs co fl := by
  obtain ⟨ds, h1, h2, h3⟩ := h
  refine ⟨ds, ⟨hc.blk h1.1 (fun e => (hs _ e).2.1 rfl), hc.blk h1.2.1 (fun e => (hs _ e).2.2 rfl), h1.2.2⟩, h2.stay hc (fun k hk => (hs k hk).1), h3⟩
theorem DevC.below {w w' : World} {b u : Nat} {bs : List (List Int)} {co : Int} {fl : Bool} (h : DevC w b u bs co fl) (hb : Below w.heap.size w w') : DevC w' b u bs co fl :=
  h.stay (S := fun _ => False) (Chg.of_below hb (fun i h1 h2 => by omega)) (fun _ e => e.elim)
theorem DevC.len {w : World} {b u : Nat} {bs : List (List Int)} {co : Int} {fl : Bool} (h : DevC w b u bs co fl) : bs.length ≤ 65536 := by
  obtain ⟨ds, h1, h2, _⟩ := h
  rw [← h2.1]
  exact h1.2.2.1
theorem DevC.byt {w : World} {b u : Nat} {bs : List (List Int)} {co : Int} {fl : Bool} (h : DevC w b u bs co fl) {l : List Int} (hl : l ∈ bs) : l.length = 512 ∧ Byt l := by
  obtain ⟨ds, h1, h2, _⟩ := h
  obtain ⟨i, hi, rfl⟩ := List.getElem_of_mem hl
  have := h2.2 i _ _ (List.getElem?_eq_getElem (by rw [h2.1]; exact hi)) (List.getElem?_eq_getElem hi)
  exact ⟨this.1.1, this.2⟩
def dvS (b u k : Nat) : Prop := k = b ∨ k = u
theorem dcNew (n : Nat) (w : World) (h0 : 1 ≤ n) (h : n ≤ 65536) : Calls Try.prog 81 #[.int .i64 n] w fun e w' => ∃ b u : Nat, e = .returned (.pointer (some ⟨b, 0, none⟩)) ∧ w.heap.size ≤ b ∧ w.heap.size ≤ u ∧ DevC w' b u (List.replicate n (List.replicate 512 0)) 0 true ∧ Below w.heap.size w w' := by
  refine (devNew_ok n w h0 h).mono fun e w' ⟨b, u, h1, h2, h3, h4, h5⟩ => ⟨b, u, h1, h2, h3, ⟨_, h4, ⟨by rw [List.length_replicate, List.length_replicate], fun i d l hd hl => ?_⟩, ?_, ?_, Int.le_refl _⟩, h5⟩
  · rw [List.getElem?_replicate] at hd hl
    split at hd
    · next hi =>
      rw [if_pos hi] at hl
      injection hd with hd
      injection hl with hl
      subst hd hl
      refine ⟨⟨List.length_replicate, .inl ⟨rfl, rfl⟩⟩, fun q hq => ?_⟩
      have := (List.mem_replicate.1 hq).2
      omega
    · cases hd
  · intro d hd
    have := (List.mem_replicate.1 hd).2
    subst this
    exact ⟨_, _, _, rfl⟩
  · intro _ d hd
    have := (List.mem_replicate.1 hd).2
    subst this
    exact ⟨rfl, rfl⟩
theorem dcBlocks {w : World} {b u : Nat} {bs : List (List Int)} {co : Int} {fl : Bool} (h : DevC w b u bs co fl) : Calls Try.prog 123 #[.pointer (some ⟨b, 0, none⟩)] w fun e w' => e = .returned (.int .i64 bs.length) ∧ w = w' := by
  obtain ⟨ds, h1, h2, _⟩ := h
  have := devBlocks b u ds _ _ _ _ w h1
  rw [h2.1] at this
  exact this
theorem dcDead {w : World} {b u : Nat} {bs : List (List Int)} {co : Int} {fl : Bool} (h : DevC w b u bs co fl) : Calls Try.prog 125 #[.pointer (some ⟨b, 0, none⟩)] w fun e w' => e = .returned (.bool false) ∧ w = w' := by
  obtain ⟨ds, h1, h2, _⟩ := h
  exact devDead b u ds _ _ _ _ w h1
theorem dcRead {w : World} {b u : Nat} {bs : List (List Int)} {co : Int} {fl : Bool} (h : DevC w b u bs co fl) (i : Nat) (hi : i < bs.length) : Calls Try.prog 124 #[.pointer (some ⟨b, 0, none⟩), .int .i64 i] w (ReadPost bs[i] w) := by
  obtain ⟨ds, h1, h2, _⟩ := h
  have hd : i < ds.length := by rw [h2.1]; exact hi
  exact devRead_ok b u ds _ _ _ _ i ds[i] bs[i] w h1 hd (List.getElem?_eq_getElem hd) (h2.2 i _ _ (List.getElem?_eq_getElem hd) (List.getElem?_eq_getElem hi)).1
def DcPost (b u : Nat) (bs : List (List Int)) (co : Int) (fl : Bool) (w : World) (e : Ending) (w' : World) : Prop := e = .returned (.int .i64 0) ∧ DevC w' b u bs co fl ∧ Chg (dvS b u) w w'
theorem dcWrite {w : World} {b u : Nat} {bs : List (List Int)} {co : Int} {fl : Bool} (h : DevC w b u bs co fl) (i : Nat) (hi : i < bs.length) (x : Value) (l : List Int) (hx : Rdv u8v w x l) (hl : l.length = 512) (hb : Byt l) (hco : co < 9000000000000000000) :
    Calls Try.prog 107 #[.pointer (some ⟨b, 0, none⟩), .int .i64 i, x] w (DcPost b u (bs.set i l) (co + 1) false w) := by
  have hp := h.plain
  obtain ⟨ds, h1, h2, h3, _, h5⟩ := h
  have hd : i < ds.length := by rw [h2.1]; exact hi
  refine (devWrite_ok b u ds 0 co i ds[i] x l w h1 hd (List.getElem?_eq_getElem hd) hx hl ⟨h5, hco⟩).mono fun e w' ⟨v, g, c, k1, k2, k3, k4, k5, k6⟩ => ⟨k1, ⟨_, k5, ⟨by simp [h2.1], fun j d m hj hm => ?_⟩, ?_, (fun e => by cases e), by omega⟩, k6⟩
  · have hs := h2.stay k6 (fun k hk => by rcases hk with rfl | rfl; exact hp.1; exact hp.2)
    rw [List.getElem?_set] at hj hm
    by_cases e : i = j
    · subst e
      rw [if_pos rfl, if_pos hd] at hj
      rw [if_pos rfl, if_pos hi] at hm
      injection hj with hj
      injection hm with hm
      subst hj hm
      exact ⟨⟨hl, .inr ⟨g, c, k2, k4⟩⟩, hb⟩
    · rw [if_neg e] at hj hm
      exact hs.2 j d m hj hm
  · intro d hd'
    rcases List.mem_or_eq_of_mem_set hd' with e | e
    · exact h3 d e
    · subst e
      exact h3 ds[i] (List.getElem_mem hd)
theorem dcFlush {w : World} {b u : Nat} {bs : List (List Int)} {co : Int} {fl : Bool} (h : DevC w b u bs co fl) (hco : co < 9000000000000000000) :
    Calls Try.prog 106 #[.pointer (some ⟨b, 0, none⟩)] w (DcPost b u bs (co + 1) true w) := by
  have hp := h.plain
  obtain ⟨ds, h1, h2, h3, _, h5⟩ := h
  refine (devFlush_ok b u ds 0 co w h1 h2.slc ⟨h5, hco⟩).mono fun e w' ⟨k1, k2, k3⟩ => ⟨k1, ⟨_, k2, ⟨by simp [h2.1], fun j d m hj hm => ?_⟩, ?_, ?_, by omega⟩, k3⟩
  · have hs := h2.stay k3 (fun k hk => by rcases hk with rfl | rfl; exact hp.1; exact hp.2)
    rw [List.getElem?_map, Option.map_eq_some_iff] at hj
    obtain ⟨d', hj, rfl⟩ := hj
    exact hs.2 j d' m hj hm
  · intro d hd
    obtain ⟨d', hd', rfl⟩ := List.mem_map.1 hd
    exact h2.slc d' hd'
  · intro _ d hd
    obtain ⟨d', hd', rfl⟩ := List.mem_map.1 hd
    exact ⟨rfl, rfl⟩
end Go.Proofs.Ytfcddpbpfckjfaa

/- A cache of blocks that holds none, or one. -/
import Derived.Test.YtfcddpbpfckjfaaChecked
import Derived.WalkKit
import Derived.Outline
import Derived.WalkSpells
import Derived.WalkLawsBesides
import Derived.Deep.QuietTactic
import Derived.Deep.RegionWith
import Derived.Deep.DeepMust
import Derived.BigQuiet
import Derived.Test.YtfcddpbpfckjfaaMem
import Derived.RegionTactic
import Derived.ChangeAlike
import Derived.StillTailTactics
import Derived.BigRegion
import Derived.Maps.RangeWalk
import Derived.Test.YtfcddpbpfckjfaaWj
namespace Go.Proofs.Ytfcddpbpfckjfaa
open Go.RowKit
open Go.Maps
set_option linter.unusedVariables false
set_option linter.unusedSimpArgs false
/-- How a pointer to something held reads as an element. -/
def ptrR : Value → Option (DataW Unit × List MemPlace)
  | .pointer none => some (.lit (.int .i64 0), [])
  | .pointer (some ⟨b, 0, none⟩) => some (.lit (.int .i64 ((b + 1 : Nat) : Int)), [])
  | _ => none
theorem ptrR_inv {v : Value} {n : Nat} {ps : List MemPlace} (h : ptrR v = some (.lit (.int .i64 (n : Int)), ps)) : v = if n = 0 then .pointer none else .pointer (some ⟨n - 1, 0, none⟩) := by
  unfold ptrR at h
  split at h
  · injection h with h
    injection h with h _
    injection h with h
    injection h with _ h
    rw [if_pos (by omega)]
  · next b =>
    injection h with h
    injection h with h _
    injection h with h
    injection h with _ h
    rw [if_neg (by omega), show n - 1 = b by omega]
  · cases h
theorem intK : Maps.Keyed Try.prog 3 := int_keyed Try.underlying3
def cchD : Option (Nat × Nat) → DataW Unit
  | none => .map []
  | some (k, hb) => .map [(.int .i64 (k : Int), .lit (.int .i64 ((hb + 1 : Nat) : Int)))]
def MapC (w : World) (mb : Nat) (s : Option (Nat × Nat)) : Prop := w.ownsMap Try.prog 3 ptrR mb s.toList.length (cchD s)
theorem MapC.stay {S : Nat → Prop} {w w' : World} {mb : Nat} {s : Option (Nat × Nat)} (h : MapC w mb s) (g : Chg S w w') (h2 : ¬ S mb) : MapC w' mb s := by
  have hlt := World.ownsMap.lt h
  obtain ⟨es, clock, hb, F⟩ := h
  exact ⟨es, clock, (g.block mb hlt h2).trans hb, F⟩
theorem zeroP (w : World) : (zeroValue 163).run Try.prog w = .ok (.pointer none) w := by kernel_rfl
theorem keyI (k : Nat) (hk : k ≤ 65536) : keyOf Try.prog 3 (.int .i64 k) = some (.int .i64 (k : Int)) := Maps.keyOf_int_mk Try.underlying3 (by have e1 : IntKind.i64.min = -9223372036854775808 := rfl; have e2 : IntKind.i64.max = 9223372036854775807 := rfl; simp [Lit.wf, e1, e2]; omega)
theorem cchD_at (k hb : Nat) (z : DataW Unit) : (cchD (some (k, hb))).atKey (.int .i64 (k : Int)) z = .lit (.int .i64 ((hb + 1 : Nat) : Int)) := by
  simp [cchD, DataW.atKey, Lit.sameKey]
theorem cchD_put (k hb : Nat) : (cchD none).put (.int .i64 (k : Int)) (.lit (.int .i64 ((hb + 1 : Nat) : Int))) = cchD (some (k, hb)) := rfl
theorem mapLook0 {w : World} {mb k : Nat} (h : MapC w mb none) (hk : k ≤ 65536) : (Instr.lookup 147 (.map (some mb)) (.int .i64 k) false).run Try.prog w = .ok (.pointer none) w := by
  obtain ⟨v, ps, hr, hv⟩ := World.ownsMap.lookup h intK Try.underlying147 (zeroP w) (zd := .lit (.int .i64 0)) (zp := []) rfl (keyI k hk)
  have e : (cchD none).atKey (.int .i64 (k : Int)) (.lit (.int .i64 0)) = .lit (.int .i64 ((0 : Nat) : Int)) := rfl
  rw [e] at hv
  rw [hr, ptrR_inv hv]
  rfl
theorem mapLook1 {w : World} {mb k hb : Nat} (h : MapC w mb (some (k, hb))) (hk : k ≤ 65536) : (Instr.lookup 147 (.map (some mb)) (.int .i64 k) false).run Try.prog w = .ok (.pointer (some ⟨hb, 0, none⟩)) w := by
  obtain ⟨v, ps, hr, hv⟩ := World.ownsMap.lookup h intK Try.underlying147 (zeroP w) (zd := .lit (.int .i64 0)) (zp := []) rfl (keyI k hk)
  rw [cchD_at] at hv
  rw [hr, ptrR_inv hv]
  rfl
theorem mapLen {w : World} {mb : Nat} {s : Option (Nat × Nat)} (h : MapC w mb s) (ty : TypeId) : (Builtin.len_ #[147] ty #[.map (some mb)]).run Try.prog w = .ok (.int .i64 ((s.toList.length : Nat) : Int)) w := by
  have := World.ownsMap.len h Try.underlying147 ty
  rcases s with _ | ⟨k, hb⟩ <;> exact this
/-- A cache's own cells, and what it holds. -/
def CchS (w : World) (vb cb mb : Nat) (s : Option (Nat × Nat)) (t hits miss : Int) : Prop := Blk w cb #[.pointer (some ⟨vb, 0, none⟩), .int .i64 1000, .map (some mb), .int .i64 t, .int .i64 hits, .int .i64 miss, .int .i64 0] 149 ∧ MapC w mb s
def cS (cb mb k : Nat) : Prop := k = cb ∨ k = mb
theorem CchS.stay {S : Nat → Prop} {w w' : World} {vb cb mb : Nat} {s : Option (Nat × Nat)} {t hits miss : Int} (h : CchS w vb cb mb s t hits miss) (g : Chg S w w') (h1 : ¬ S cb) (h2 : ¬ S mb) : CchS w' vb cb mb s t hits miss :=
  ⟨g.blk h.1 h1, h.2.stay g h2⟩
theorem CchS.below {w w' : World} {vb cb mb : Nat} {s : Option (Nat × Nat)} {t hits miss : Int} (h : CchS w vb cb mb s t hits miss) (g : Below w.heap.size w w') : CchS w' vb cb mb s t hits miss :=
  ⟨blkBelow g h.1 (Blk.lt h.1), h.2.stay (S := fun _ => False) (Chg.of_below g (fun i h1 h2 => absurd h1 (Nat.not_lt.2 h2))) (fun e => e)⟩
theorem CchS.ne {w : World} {vb cb mb : Nat} {s : Option (Nat × Nat)} {t hits miss : Int} (h : CchS w vb cb mb s t hits miss) : cb ≠ mb := by
  rintro rfl
  obtain ⟨es, clock, hb, _⟩ := h.2
  have h1 : w.heap[cb]? = _ := h.1
  rw [hb] at h1
  cases h1
def CNewPost (vb : Nat) (w : World) (e : Ending) (w' : World) : Prop := ∃ cb mb : Nat, e = .returned (.pointer (some ⟨cb, 0, none⟩)) ∧ w.heap.size ≤ cb ∧ w.heap.size ≤ mb ∧ CchS w' vb cb mb none 0 0 0 ∧ Below w.heap.size w w'
theorem bcNew (vb : Nat) (w : World) : Calls Try.prog 61 #[.pointer (some ⟨vb, 0, none⟩), .int .i64 1000] w (CNewPost vb w) := by
  have hmm := @run_makeMap Try.prog
  have ho := World.ownsMap_made (H := Unit) w Try.prog 3 ptrR
  go_enter Try.func61, Try.ntmps61
  go_wp2
  go_ret
  refine ⟨w.heap.size + 1, w.heap.size, by simp, by omega, Nat.le_refl _, ⟨?_, ?_⟩, ?_⟩
  · have := Blk.new (w.alloc (.map #[] 0)) #[.pointer (some ⟨vb, 0, none⟩), .int .i64 1000, .map (some w.heap.size), .int .i64 0, .int .i64 0, .int .i64 0, .int .i64 0] 149
    simpa using this
  · exact ho.alloc _
  · exact ((Below.refl _ w).alloc (Nat.le_refl _) _).alloc (by simp) _
theorem bcPlaces {w : World} {vb cb mb : Nat} {s : Option (Nat × Nat)} {t hits miss : Int} (h : CchS w vb cb mb s t hits miss) : Calls Try.prog 118 #[.pointer (some ⟨cb, 0, none⟩)] w fun e w' => e = .returned (.int .i64 0) ∧ Below w.heap.size w w' := by
  have c1 : w.cell? ⟨cb, 1, none⟩ = some (.int .i64 1000) := Blk.cell h.1 (o := 1) rfl
  have c2 : w.cell? ⟨cb, 2, none⟩ = some (.map (some mb)) := Blk.cell h.1 (o := 2) rfl
  have hl : ∀ n ty, (Builtin.len_ #[147] ty #[.map (some mb)]).run Try.prog (w.drewN n) = .ok (.int .i64 ((s.toList.length : Nat) : Int)) (w.drewN n) := fun n ty => mapLen (w := w.drewN n) h.2 ty
  have hl0 : ∀ ty, (Builtin.len_ #[147] ty #[.map (some mb)]).run Try.prog w = .ok (.int .i64 ((s.toList.length : Nat) : Int)) w := fun ty => mapLen h.2 ty
  have hs : ((s.toList.length : Nat) : Int) ≤ 1 := by rcases s with _ | p <;> simp
  have hs0 : (0 : Int) ≤ ((s.toList.length : Nat) : Int) := by omega
  generalize ((s.toList.length : Nat) : Int) = q at *
  clear h
  go_enter Try.func118, Try.ntmps118
  go_wp2
  go_quiet (fail)
  go_wp2
  go_ret
  exact ⟨rfl, Drw.below ⟨_, rfl⟩⟩
def HeldAt (w : World) (hb k : Nat) (l : List Int) (used : Int) (d : Bool) : Prop := ∃ bv, Blk w hb #[.int .i64 k, bv, .int .i64 used, .int .i64 0, .bool d] 167 ∧ Rdv u8v w bv l
theorem HeldAt.plain {w : World} {hb k : Nat} {l : List Int} {used : Int} {d : Bool} (h : HeldAt w hb k l used d) : Plain w hb := by
  obtain ⟨bv, h1, h2⟩ := h
  obtain ⟨a, n, c, rfl⟩ := h2.shape
  exact ⟨_, _, h1, fun i n e => by
    rcases i with _ | _ | _ | _ | _ | i <;> simp at e⟩
theorem HeldAt.stay {S : Nat → Prop} {w w' : World} {hb k : Nat} {l : List Int} {used : Int} {d : Bool} (h : HeldAt w hb k l used d) (g : Chg S w w') (hs : ∀ i, S i → Plain w i ∧ i ≠ hb) : HeldAt w' hb k l used d := by
  obtain ⟨bv, h1, h2⟩ := h
  exact ⟨bv, g.blk h1 (fun e => (hs _ e).2 rfl), h2.stay g (fun i hi => (hs i hi).1)⟩
theorem CchS.plainC {w : World} {vb cb mb : Nat} {s : Option (Nat × Nat)} {t hits miss : Int} (h : CchS w vb cb mb s t hits miss) : Plain w cb :=
  ⟨_, _, h.1, fun i n e => by rcases i with _ | _ | _ | _ | _ | _ | _ | i <;> simp at e⟩
def Use0Post (vb cb mb k : Nat) (t hits miss : Int) (b : Value) (w : World) (e : Ending) (w' : World) : Prop :=
  ∃ hb : Nat, e = .returned (.tuple #[.pointer (some ⟨hb, 0, none⟩), .int .i64 0]) ∧ w.heap.size ≤ hb ∧ CchS w' vb cb mb (some (k, hb)) (t + 1) hits miss ∧ Blk w' hb #[.int .i64 k, b, .int .i64 (t + 1), .int .i64 0, .bool false] 167 ∧ Chg (cS cb mb) w w'
theorem use0_mid {w1 w2 : World} {vb cb mb k : Nat} {t hits miss : Int} {b : Value} (H1 : CchS w1 vb cb mb none t hits miss) (hg : (w1.alloc (.cells #[.int .i64 k, b, .int .i64 0, .int .i64 0, .bool false] 167)).grownBy w2 (some mb)) :
    Blk w2 cb #[.pointer (some ⟨vb, 0, none⟩), .int .i64 1000, .map (some mb), .int .i64 t, .int .i64 hits, .int .i64 miss, .int .i64 0] 149 ∧ Blk w2 w1.heap.size #[.int .i64 k, b, .int .i64 0, .int .i64 0, .bool false] 167 ∧ Chg (cS cb mb) w1 w2 := by
  have hc : Chg (· = mb) (w1.alloc (.cells #[.int .i64 k, b, .int .i64 0, .int .i64 0, .bool false] 167)) w2 := (Chg.refl _ _).grown hg (fun k e _ => by injection e with e; exact e.symm)
  have hm := World.ownsMap.lt H1.2
  exact ⟨hc.blk (Blk.alloc H1.1 _) H1.ne, hc.blk (Blk.new w1 _ _) (by omega), ((Chg.refl (cS cb mb) w1).alloc _).trans (hc.mono fun i _ e => .inr e)⟩
set_option maxHeartbeats 2000000 in
set_option maxRecDepth 100000 in
theorem bcUse0 {w : World} {vb cb mb : Nat} {t hits miss : Int} (h : CchS w vb cb mb none t hits miss) (k : Nat) (hk : k ≤ 65536) (b : Value) (ht : 0 ≤ t ∧ t ≤ 1000) (ba : Option Addr) (bn bc : Nat) (hb : b = .slice ba bn bc) :
    Calls Try.prog 94 #[.pointer (some ⟨cb, 0, none⟩), .int .i64 k, b] w (Use0Post vb cb mb k t hits miss b w) := by
  subst hb
  have c2 : w.cell? ⟨cb, 2, none⟩ = some (.map (some mb)) := Blk.cell h.1 (o := 2) rfl
  have hcl := Blk.lt h.1
  have hlk := mapLook0 h.2 hk
  have hkey := keyI k hk
  have KP := Lib.hid (bcPlaces h)
  have H := Lib.hid h
  have hne := h.ne
  have t1 := ht.1
  have t2 := ht.2
  clear h
  go_enter Try.func94, Try.ntmps94
  go_wp2_with fail
  refine KP.out.mono ?_
  rintro e w1 ⟨rfl, hb1⟩
  have H1 := Lib.hid (H.out.below hb1)
  have B1 := Lib.hid hb1
  have hz1 := hb1.size
  clear c2 hlk hb1 KP
  have c2 : w1.cell? ⟨cb, 2, none⟩ = some (.map (some mb)) := Blk.cell H1.out.1 (o := 2) rfl
  have c3 : w1.cell? ⟨cb, 3, none⟩ = some (.int .i64 t) := Blk.cell H1.out.1 (o := 3) rfl
  have hcl1 := Blk.lt H1.out.1
  have f3 := Blk.free H1.out.1 3
  have M2 : Hid (MapC (w1.alloc (.cells #[.int .i64 k, .slice ba bn bc, .int .i64 0, .int .i64 0, .bool false] 167)) mb none) := Lib.hid (World.ownsMap.alloc H1.out.2 _)
  go_wp2_with (at_mapUpdate; refine wpList_mapUpdate_own _ rfl _ _ _ 147 rfl 3 163 intK Try.underlying147 ptrR mb 0 (cchD none) rfl M2.out (by decide) _ _ (.int .i64 (k : Int)) rfl rfl hkey (.lit (.int .i64 ((w1.heap.size + 1 : Nat) : Int))) [] rfl ?_; intro w2 ho2 hg2; obtain ⟨hA, hB, hC⟩ := use0_mid H1.out hg2; have A2 := Lib.hid hA; have B2 := Lib.hid hB; have C2 := Lib.hid hC; have O2 := Lib.hid ho2; clear hA hB hC ho2 hg2 c2 c3 f3; have c3 : w2.cell? ⟨cb, 3, none⟩ = some (.int .i64 t) := Blk.cell A2.out (o := 3) rfl; have f3 := Blk.free A2.out 3; have hcl2 := Blk.lt A2.out; have f4 := Blk.free B2.out 2; have hhl := Blk.lt B2.out; have c4 : w2.cell? ⟨w1.heap.size, 2, none⟩ = some (.int .i64 0) := Blk.cell B2.out (o := 2) rfl)
  go_ret2
  have hmb := World.ownsMap.lt H1.out.2
  have hm2 : MapC w2 mb (some (k, w1.heap.size)) := O2.out
  have hC : Chg (fun i => i = cb ∨ i = w1.heap.size) w2 ((w2.setCell ⟨cb, 3, none⟩ (.int .i64 (t + 1))).setCell ⟨w1.heap.size, 2, none⟩ (.int .i64 (t + 1))) := ((Chg.refl _ _).set (fun _ => .inl rfl) _).set (fun _ => .inr rfl) _
  refine ⟨w1.heap.size, rfl, hz1, ⟨(Blk.set A2.out 3 _).set_ne (by show cb ≠ w1.heap.size; omega) _, hm2.stay hC (by rintro (e | e); exact hne e.symm; omega)⟩, (B2.out.set_ne (a := ⟨cb, 3, none⟩) (by show w1.heap.size ≠ cb; omega) _).set 2 _, ?_⟩
  exact ((Chg.of_below B1.out (fun i h1 h2 => absurd h1 (Nat.not_lt.2 h2))).trans C2.out).trans' hC (fun i h1 h2 => by rcases h2 with rfl | rfl; exact .inl rfl; omega)
def cS3 (cb hb k : Nat) : Prop := k = cb ∨ k = hb
theorem held_ne {w : World} {vb cb mb hb k : Nat} {s : Option (Nat × Nat)} {bv : Value} {t hits miss used : Int} {d : Bool} (h : CchS w vb cb mb s t hits miss) (hh : Blk w hb #[.int .i64 k, bv, .int .i64 used, .int .i64 0, .bool d] 167) : hb ≠ cb ∧ hb ≠ mb := by
  constructor
  · rintro rfl
    have h1 : w.heap[hb]? = _ := hh
    have h2 : w.heap[hb]? = _ := h.1
    rw [h1] at h2
    injection h2 with h2
    injection h2 with _ h2
    exact absurd h2 (by decide)
  · rintro rfl
    obtain ⟨es, clock, he, _⟩ := h.2
    have h1 : w.heap[hb]? = _ := hh
    rw [he] at h1
    cases h1
def Use1Post (vb cb mb hb k : Nat) (bv : Value) (d : Bool) (t hits miss : Int) (w : World) (e : Ending) (w' : World) : Prop :=
  e = .returned (.tuple #[.pointer (some ⟨hb, 0, none⟩), .int .i64 0]) ∧ CchS w' vb cb mb (some (k, hb)) (t + 1) hits miss ∧ Blk w' hb #[.int .i64 k, bv, .int .i64 (t + 1), .int .i64 0, .bool d] 167 ∧ Chg (cS3 cb hb) w w'
set_option maxHeartbeats 2000000 in
set_option maxRecDepth 100000 in
theorem bcUse1 {w : World} {vb cb mb hb k : Nat} {t hits miss used : Int} {bv b : Value} {d : Bool} (h : CchS w vb cb mb (some (k, hb)) t hits miss) (hh : Blk w hb #[.int .i64 k, bv, .int .i64 used, .int .i64 0, .bool d] 167) (hk : k ≤ 65536) (ht : 0 ≤ t ∧ t ≤ 1000) :
    Calls Try.prog 94 #[.pointer (some ⟨cb, 0, none⟩), .int .i64 k, b] w (Use1Post vb cb mb hb k bv d t hits miss w) := by
  have c2 : w.cell? ⟨cb, 2, none⟩ = some (.map (some mb)) := Blk.cell h.1 (o := 2) rfl
  have c3 : w.cell? ⟨cb, 3, none⟩ = some (.int .i64 t) := Blk.cell h.1 (o := 3) rfl
  have c4 : w.cell? ⟨hb, 2, none⟩ = some (.int .i64 used) := hh.cell (o := 2) rfl
  have f3 := Blk.free h.1 3
  have f4 := hh.free 2
  have hcl := Blk.lt h.1
  have hhl := hh.lt
  have hlk := mapLook1 h.2 hk
  obtain ⟨hn1, hn2⟩ := held_ne h hh
  have H := Lib.hid h
  have HH := Lib.hid hh
  have hne := h.ne
  have t1 := ht.1
  have t2 := ht.2
  clear h hh
  go_enter Try.func94, Try.ntmps94
  go_wp2
  go_ret2
  have hC : Chg (cS3 cb hb) w ((w.setCell ⟨cb, 3, none⟩ (.int .i64 (t + 1))).setCell ⟨hb, 2, none⟩ (.int .i64 (t + 1))) := ((Chg.refl _ _).set (fun _ => .inl rfl) _).set (fun _ => .inr rfl) _
  refine ⟨rfl, ⟨(Blk.set H.out.1 3 _).set_ne (by show cb ≠ hb; omega) _, H.out.2.stay hC (by rintro (e | e); exact hne e.symm; exact hn2 e.symm)⟩, (HH.out.set_ne (a := ⟨cb, 3, none⟩) (by show hb ≠ cb; omega) _).set 2 _, hC⟩
theorem bcHas1 {w : World} {vb cb mb hb k : Nat} {t hits miss : Int} (h : CchS w vb cb mb (some (k, hb)) t hits miss) (hk : k ≤ 65536) :
    Calls Try.prog 134 #[.pointer (some ⟨cb, 0, none⟩), .int .i64 k] w fun e w' => e = .returned (.bool true) ∧ w = w' := by
  have c2 : w.cell? ⟨cb, 2, none⟩ = some (.map (some mb)) := Blk.cell h.1 (o := 2) rfl
  have hlk := mapLook1 h.2 hk
  clear h
  go_enter Try.func134, Try.ntmps134
  go_wp2
  go_ret
  exact ⟨rfl, rfl⟩
def Got1Post (vb cb mb hb k : Nat) (bv : Value) (d : Bool) (t hits miss : Int) (w : World) (e : Ending) (w' : World) : Prop :=
  e = .returned (.tuple #[.pointer (some ⟨hb, 0, none⟩), .int .i64 0]) ∧ CchS w' vb cb mb (some (k, hb)) (t + 1) (hits + 1) miss ∧ Blk w' hb #[.int .i64 k, bv, .int .i64 (t + 1), .int .i64 0, .bool d] 167 ∧ Chg (cS3 cb hb) w w'
set_option maxHeartbeats 2000000 in
set_option maxRecDepth 100000 in
theorem bcGot1 {w : World} {vb b g cb mb hb k kept c : Nat} {ch : Bool} {ls : List (List Int)} {t hits miss used : Int} {bv : Value} {d : Bool} (h : CchS w vb cb mb (some (k, hb)) t hits miss) (hh : Blk w hb #[.int .i64 k, bv, .int .i64 used, .int .i64 0, .bool d] 167) (hV : VolAt w vb b g ls kept c ch)
    (hl : ls.length ≤ 65536) (hk : k < ls.length) (h5 : ls[k].length ≤ 1000000000000) (ht : 0 ≤ t ∧ t ≤ 1000) (hhi : 0 ≤ hits ∧ hits ≤ 1000) :
    Calls Try.prog 117 #[.pointer (some ⟨cb, 0, none⟩), .int .i64 k] w (Got1Post vb cb mb hb k bv d t hits miss w) := by
  have c0 : w.cell? ⟨cb, 0, none⟩ = some (.pointer (some ⟨vb, 0, none⟩)) := Blk.cell h.1 (o := 0) rfl
  have KR := Lib.hid (walRead hV hl k hk h5)
  have H := Lib.hid h
  have HH := Lib.hid hh
  have k5 : k ≤ 65536 := by omega
  have hcl := Blk.lt h.1
  have hhl := hh.lt
  have hh1 := hhi.1
  have hh2 := hhi.2
  clear h hh
  go_enter Try.func117, Try.ntmps117
  go_wp2_with fail
  refine KR.out.mono ?_
  rintro e w1 ⟨v1, rfl, ho1, hb1⟩
  obtain ⟨oa, oc, rfl, _, _, _⟩ := own_shape ho1
  have H1 := Lib.hid (H.out.below hb1)
  have HH1 := Lib.hid (blkBelow hb1 HH.out hhl)
  have KH := Lib.hid (bcHas1 H1.out k5)
  have KU := Lib.hid (bcUse1 (b := .slice oa ls[k].length oc) H1.out HH1.out k5 ht)
  have B1 := Lib.hid hb1
  clear ho1 hb1 c0 KR
  go_wp2_with fail
  refine KH.out.mono ?_
  rintro e w2 ⟨rfl, rfl⟩
  go_wp2_with fail
  refine KU.out.mono ?_
  rintro e w2 ⟨rfl, h2, hh2', hc2⟩
  have H2 := Lib.hid h2
  have HH2 := Lib.hid hh2'
  have C2 := Lib.hid hc2
  have c4 : w2.cell? ⟨cb, 4, none⟩ = some (.int .i64 hits) := Blk.cell h2.1 (o := 4) rfl
  have f4 := Blk.free h2.1 4
  have hcl2 := Blk.lt h2.1
  have hn := held_ne h2 hh2'
  have hne := h2.ne
  clear h2 hh2' hc2 KU KH
  go_wp2
  go_ret2
  have hC : Chg (· = cb) w2 (w2.setCell ⟨cb, 4, none⟩ (.int .i64 (hits + 1))) := Chg.set (S := (· = cb)) (Chg.refl _ _) (p := ⟨cb, 4, none⟩) (fun _ => rfl) _
  refine ⟨rfl, ⟨Blk.set H2.out.1 4 _, H2.out.2.stay hC (fun e => hne e.symm)⟩, HH2.out.set_ne (by show hb ≠ cb; exact hn.1) _, ?_⟩
  exact ((Chg.of_below B1.out (fun i h1 h2 => absurd h1 (Nat.not_lt.2 h2))).trans C2.out).trans (hC.mono fun i _ e => .inl e)
end Go.Proofs.Ytfcddpbpfckjfaa

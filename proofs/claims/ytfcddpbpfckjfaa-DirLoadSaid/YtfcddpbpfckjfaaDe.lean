/- A directory of names: its map. -/
import Derived.Test.YtfcddpbpfckjfaaChecked
import Derived.WalkKit
import Derived.Outline
import Derived.WalkSpells
import Derived.WalkLawsBesides
import Derived.Deep.QuietTactic
import Derived.Deep.RegionWith
import Derived.Deep.DeepMust
import Derived.BigQuiet
import Derived.Test.YtfcddpbpfckjfaaMem
import Derived.RegionTactic
import Derived.ChangeAlike
import Derived.StillTailTactics
import Derived.BigRegion
import Derived.Maps.Own
import Derived.Maps.OwnOps
import Derived.Maps.OwnSet
import Derived.Maps.RangeWalk
import Derived.Maps.Ext
import Derived.Test.YtfcddpbpfckjfaaDn4
namespace Go.Proofs.Ytfcddpbpfckjfaa
open Go.RowKit
open Go.Maps
set_option linter.unusedVariables false
set_option linter.unusedSimpArgs false
abbrev Ent := ByteArray × Nat
def entD (p : Ent) : Lit × DataW Unit := (.string p.1.data.toList, .lit (.int .i64 (p.2 : Int)))
def insL (x : Ent) : List Ent → List Ent
  | [] => [x]
  | y :: r => if slt x.1 y.1 = true then x :: y :: r else y :: insL x r
def delL (L : List Ent) (s : ByteArray) : List Ent := L.filter fun p => !decide (p.1 = s)
def putL (L : List Ent) (s : ByteArray) (n : Nat) : List Ent := insL (s, n) (delL L s)
def lookL (L : List Ent) (s : ByteArray) : Option Nat := (L.find? fun p => decide (p.1 = s)).map (·.2)
theorem bytesBefore_eq : ∀ (x y : List UInt8), bytesBefore x y = decide (x < y)
  | [], [] => by simp [bytesBefore]
  | _ :: _, [] => by simp [bytesBefore]
  | [], _ :: _ => by simp [bytesBefore]
  | a :: x, b :: y => by
    rw [bytesBefore, bytesBefore_eq x y]
    simp only [List.cons_lt_cons_iff]
    by_cases h1 : a < b <;> by_cases h2 : a = b <;> by_cases h3 : x < y <;> simp [h1, h2, h3]
theorem slt_before (a b : ByteArray) : Lit.before (.string a.data.toList) (.string b.data.toList) = slt a b := by
  unfold slt
  rw [bytesLess_eq, Lib.toList_data, Lib.toList_data]
  exact bytesBefore_eq _ _
theorem data_inj {a b : ByteArray} (h : a.data.toList = b.data.toList) : a = b := by
  cases a; cases b
  simp at h
  subst h
  rfl
theorem sameKey_str (a b : ByteArray) : Lit.sameKey (.string a.data.toList) (.string b.data.toList) = decide (a = b) := by
  show (a.data.toList == b.data.toList) = _
  by_cases h : a = b
  · subst h; simp
  · have h2 : ¬ a.data.toList = b.data.toList := fun e => h (data_inj e)
    rw [decide_eq_false h, beq_eq_false_iff_ne]
    exact h2
theorem map_ins (x : Ent) : ∀ L : List Ent, (insL x L).map entD = DataW.insert (entD x) (L.map entD)
  | [] => rfl
  | y :: r => by
    have hb : (entD x).1.before (entD y).1 = slt x.1 y.1 := slt_before _ _
    simp only [insL, List.map_cons, DataW.insert, hb]
    split <;> simp [map_ins x r]
theorem map_del (L : List Ent) (s : ByteArray) : (delL L s).map entD = (L.map entD).filter fun p => !p.1.sameKey (.string s.data.toList) := by
  unfold delL
  rw [List.filter_map]
  congr 2
  funext p
  show _ = !(entD p).1.sameKey _
  rw [show (entD p).1 = .string p.1.data.toList from rfl, sameKey_str]
theorem map_put (L : List Ent) (s : ByteArray) (n : Nat) : DataW.put (H := Unit) (.map (L.map entD)) (.string s.data.toList) (.lit (.int .i64 (n : Int))) = .map ((putL L s n).map entD) := by
  unfold putL
  rw [map_ins, map_del]
  rfl
theorem map_drop (L : List Ent) (s : ByteArray) : DataW.del (H := Unit) (.map (L.map entD)) (.string s.data.toList) = .map ((delL L s).map entD) := by
  rw [map_del]
  rfl
theorem map_has (L : List Ent) (s : ByteArray) : Maps.has (H := Unit) (.map (L.map entD)) (.string s.data.toList) = (lookL L s).isSome := by
  unfold lookL
  rw [Maps.has_eq, List.any_map, Option.isSome_map, List.isSome_find?]
  congr 1
  funext p
  exact sameKey_str _ _
theorem map_at (L : List Ent) (s : ByteArray) (z : Int) : DataW.atKey (H := Unit) (.map (L.map entD)) (.string s.data.toList) (.lit (.int .i64 z)) = .lit (.int .i64 (((lookL L s).map fun n : Nat => (n : Int)).getD z)) := by
  simp only [DataW.atKey]
  rw [List.find?_map]
  have e : ((fun p : Lit × DataW Unit => p.1.sameKey (.string s.data.toList)) ∘ entD) = fun p : Ent => decide (p.1 = s) := by
    funext p
    exact sameKey_str _ _
  rw [e]
  unfold lookL
  cases L.find? fun p => decide (p.1 = s) <;> rfl
/-- The directory's value and its map. -/
def DirM (w : World) (b bm : Nat) (L : List Ent) : Prop := Blk w b #[.map (some bm)] 97 ∧ w.ownsMap Try.prog 9 (plainElem (H := Unit) Try.prog 3) bm L.length (.map (L.map entD))
theorem strK : Maps.Keyed Try.prog 9 := string_keyed Try.underlying9
theorem owns_tight {w : World} {bm n : Nat} {L : List Ent} (h : w.ownsMap Try.prog 9 (plainElem (H := Unit) Try.prog 3) bm n (.map (L.map entD))) : w.ownsMap Try.prog 9 (plainElem (H := Unit) Try.prog 3) bm L.length (.map (L.map entD)) := by
  obtain ⟨es, clock, hb, F, hs, hD⟩ := h
  refine ⟨es, clock, hb, F, ?_, hD⟩
  injection hD with hD
  have := congrArg List.length hD
  rw [length_sorted] at this
  simp at this
  omega
def SortL (L : List Ent) : Prop := L.Pairwise fun p q => slt p.1 q.1 = true
theorem DirM.sorted {w : World} {b bm : Nat} {L : List Ent} (h : DirM w b bm L) : SortL L := by
  obtain ⟨es, e, h1, _⟩ := h.2.canon strK
  injection e with e
  subst e
  rw [List.pairwise_map] at h1
  exact h1.imp fun {p q} h => by rw [← slt_before]; exact h
theorem DirM.ne {w : World} {b bm : Nat} {L : List Ent} (h : DirM w b bm L) : b ≠ bm := by
  intro e
  subst e
  obtain ⟨es, clock, hb, _⟩ := h.2
  have h1 : w.heap[b]? = _ := h.1
  rw [hb] at h1
  cases h1
theorem DirM.below {w w' : World} {b bm : Nat} {L : List Ent} (h : DirM w b bm L) (g : Below w.heap.size w w') : DirM w' b bm L :=
  ⟨blkBelow g h.1 h.1.lt, h.2.kept (row := none) ⟨g.os, g.tape, g.output, g.size, fun i hi _ => g.block i hi⟩ (by simp)⟩
theorem DirM.chg {S : Nat → Prop} {w w' : World} {b bm : Nat} {L : List Ent} (h : DirM w b bm L) (g : Chg S w w') (h1 : ¬ S b) (h2 : ¬ S bm) : DirM w' b bm L := by
  refine ⟨g.blk h.1 h1, ?_⟩
  have hlt := h.2.lt
  obtain ⟨es, clock, hb, F⟩ := h.2
  exact ⟨es, clock, (g.block bm hlt h2).trans hb, F⟩
theorem DirM.turn {w w' : World} {b bm : Nat} {L L' : List Ent} {n : Nat} (h : DirM w b bm L) (ho : w'.ownsMap Try.prog 9 (plainElem (H := Unit) Try.prog 3) bm n (.map (L'.map entD))) (hg : w.grownBy w' (some bm)) : DirM w' b bm L' ∧ Chg (· = bm) w w' := by
  have hc : Chg (· = bm) w w' := (Chg.refl _ _).grown hg (fun k e _ => by injection e with e; exact e.symm)
  exact ⟨⟨hc.blk h.1 h.ne, owns_tight ho⟩, hc⟩
theorem dm_len {w : World} {b bm : Nat} {L : List Ent} (h : DirM w b bm L) (ty : TypeId) : (Builtin.len_ #[95] ty #[.map (some bm)]).run Try.prog w = .ok (.int .i64 (L.length : Nat)) w := by
  have := h.2.len Try.underlying95 ty
  rw [Maps.size_eq, List.length_map] at this
  exact this
theorem zeroE (w : World) : (zeroValue 3).run Try.prog w = .ok (.int .i64 0) w := by kernel_rfl
theorem dirNew (w : World) : Calls Try.prog 25 #[] w fun e w' => ∃ b bm, e = .returned (.pointer (some ⟨b, 0, none⟩)) ∧ DirM w' b bm [] ∧ Below w.heap.size w w' ∧ w.heap.size ≤ b ∧ w.heap.size ≤ bm := by
  have hmm := @run_makeMap Try.prog
  have ho := World.ownsMap_made (H := Unit) w Try.prog 9 (plainElem Try.prog 3)
  go_enter Try.func25, Try.ntmps25
  go_wp2
  go_ret
  refine ⟨_, w.heap.size, rfl, ⟨by have := Blk.new (w.alloc (Obj.map #[] 0)) #[Value.map (some w.heap.size)] 97; simpa using this, ?_⟩, ?_, by simp, Nat.le_refl _⟩
  · exact ho.alloc _
  · exact ((Below.refl _ w).alloc (Nat.le_refl _) _).alloc (by simp) _
theorem dirLen (b bm : Nat) (L : List Ent) (w : World) (h : DirM w b bm L) : Calls Try.prog 34 #[.pointer (some ⟨b, 0, none⟩)] w fun e w' => e = .returned (.int .i64 L.length) ∧ Drw w w' := by
  have c1 : w.cell? ⟨b, 0, none⟩ = some (.map (some bm)) := h.1.cell (o := 0) rfl
  have hl := h.1.lt
  have H := Lib.hid h
  clear h
  go_enter Try.func34, Try.ntmps34
  go_wp2_with (first | (at_len; refine wpList_len_own _ rfl _ 95 rfl 9 3 Try.underlying95 _ bm L.length _ rfl (H.out.2) ?_) | fail)
  go_ret
  exact ⟨by simp [Maps.size], 0, rfl⟩
theorem dirGet (b bm : Nat) (L : List Ent) (s : ByteArray) (w : World) (h : DirM w b bm L) (hs : s.size ≤ maxLen) : Calls Try.prog 32 #[.pointer (some ⟨b, 0, none⟩), .string s] w fun e w' => e = .returned (.tuple #[.int .i64 (((lookL L s).map fun n : Nat => (n : Int)).getD 0), .bool (lookL L s).isSome]) ∧ Drw w w' := by
  have c1 : w.cell? ⟨b, 0, none⟩ = some (.map (some bm)) := h.1.cell (o := 0) rfl
  have hl := h.1.lt
  have hk : keyOf Try.prog 9 (.string s) = some (.string s.data.toList) := WideMaps.keyOf_string_mk Try.underlying9 hs
  have ha := map_at L s 0
  have hh := map_has L s
  have H := Lib.hid h
  clear h
  go_enter Try.func32, Try.ntmps32
  go_wp2_with (first | (at_lookup; refine wpList_lookup_own_ok_int _ rfl _ _ 95 rfl 9 3 .i64 strK Try.underlying95 Try.underlying3 (zeroE _) bm L.length _ rfl (H.out.2) _ _ rfl hk ?_; intro c hat hwc) | fail)
  rw [ha] at hat
  injection hat with hat
  injection hat with _ hat
  exact bodyPost_ret (v := .tuple #[.int .i64 c, .bool (Maps.has (H := Unit) (.map (L.map entD)) (.string s.data.toList))]) (by simp [results, Try.results32, go_sem, hh]) rfl ⟨by rw [hh, ← hat], 0, rfl⟩
def DropPost (b bm : Nat) (L : List Ent) (s : ByteArray) (w : World) (e : Ending) (w' : World) : Prop := e = .returned (.int .i64 (if (lookL L s).isSome then 0 else 2)) ∧ DirM w' b bm (delL L s) ∧ Chg (· = bm) w w'
set_option maxRecDepth 100000 in
theorem dirDrop (b bm : Nat) (L : List Ent) (s : ByteArray) (w : World) (h : DirM w b bm L) (hs : s.size ≤ maxLen) : Calls Try.prog 35 #[.pointer (some ⟨b, 0, none⟩), .string s] w (DropPost b bm L s w) := by
  have c1 : w.cell? ⟨b, 0, none⟩ = some (.map (some bm)) := h.1.cell (o := 0) rfl
  have hl := h.1.lt
  have hk : keyOf Try.prog 9 (.string s) = some (.string s.data.toList) := WideMaps.keyOf_string_mk Try.underlying9 hs
  have H := Lib.hid h
  have g := dirGet b bm L s w h hs
  clear h
  by_cases ht : (lookL L s).isSome = true
  · rw [ht] at g
    have G := Lib.hid g
    clear g
    go_enter Try.func35, Try.ntmps35
    go_wp2_with (first | (go_at_call 32; refine G.out.mono ?_; rintro e w1 ⟨rfl, n1, rfl⟩) | (at_delete; refine wpList_delete_own _ rfl _ _ 95 9 rfl 3 strK Try.underlying95 _ bm L.length _ rfl (H.out.2) _ _ rfl hk ?_; intro w2 ho hm) | fail)
    rw [map_drop] at ho
    have T := DirM.turn (w' := w2) (w := w.drewN n1) H.out ho hm.grown
    go_ret
    exact ⟨by rw [ht]; rfl, T.1, (Chg.refl _ w).drewN n1 |>.trans T.2⟩
  · have ht : (lookL L s).isSome = false := by simpa using ht
    rw [ht] at g
    have G := Lib.hid g
    clear g
    have e : delL L s = L := by
      unfold delL
      unfold lookL at ht
      rw [Option.isSome_map, List.isSome_find?] at ht
      rw [List.filter_eq_self]
      intro p hp
      rw [List.any_eq_false] at ht
      have := ht p hp
      simpa using this
    go_enter Try.func35, Try.ntmps35
    go_wp2_with (first | (go_at_call 32; refine G.out.mono ?_; rintro e w1 ⟨rfl, n1, rfl⟩) | fail)
    go_ret
    exact ⟨by rw [ht]; rfl, by rw [e]; exact H.out, (Chg.refl _ w).drewN _⟩
def putE (L : List Ent) (s : ByteArray) (n : Int) : Int := if localE s.data.toList ≠ 0 then localE s.data.toList else if n < 1 ∨ n > 2147483647 then 22 else if (lookL L s).isSome = false ∧ 2048 ≤ L.length then 28 else 0
def PutPost (b bm : Nat) (L : List Ent) (s : ByteArray) (n : Int) (w : World) (e : Ending) (w' : World) : Prop :=
  e = .returned (.int .i64 (putE L s n)) ∧ DirM w' b bm (if putE L s n = 0 then putL L s n.toNat else L) ∧ Chg (· = bm) w w'
theorem put_no {b bm : Nat} {L : List Ent} {s : ByteArray} {n : Int} {w w1 : World} {e : Ending} (he : e = .returned (.int .i64 (putE L s n))) (hd : DirM w1 b bm L) (hb : Below w.heap.size w w1) (h : putE L s n ≠ 0) : PutPost b bm L s n w e w1 :=
  ⟨he, by rw [if_neg h]; exact hd, Chg.of_below hb (fun i h1 h2 => by omega)⟩
theorem put_ok {b bm : Nat} {L : List Ent} {s : ByteArray} {n : Int} {w w1 w2 : World} {e : Ending} {m : Nat} (he : e = .returned (.int .i64 (putE L s n))) (hd : DirM w1 b bm L) (hb : Below w.heap.size w w1) (h : putE L s n = 0)
    (ho : w2.ownsMap Try.prog 9 (plainElem (H := Unit) Try.prog 3) bm m (DataW.put (.map (L.map entD)) (.string s.data.toList) (.lit (.int .i64 n)))) (hg : w1.grownBy w2 (some bm)) (hn : 0 ≤ n) : PutPost b bm L s n w e w2 := by
  obtain ⟨k, rfl⟩ : ∃ k : Nat, n = k := ⟨n.toNat, by omega⟩
  rw [map_put] at ho
  have T := hd.turn ho hg
  exact ⟨he, by rw [if_pos h]; exact T.1, (Chg.of_below hb (fun i h1 h2 => by omega)).trans T.2⟩
set_option maxRecDepth 100000 in
theorem dirPut (b bm : Nat) (L : List Ent) (s : ByteArray) (n : Int) (w : World) (h : DirM w b bm L) (hs : s.size < 4294967281) (hn1 : -9223372036854775808 ≤ n) (hn2 : n ≤ 9223372036854775807) (hL : L.length ≤ 2048) : Calls Try.prog 26 #[.pointer (some ⟨b, 0, none⟩), .string s, .int .i64 n] w (PutPost b bm L s n w) := by
  have hl := h.1.lt
  have hk : keyOf Try.prog 9 (.string s) = some (.string s.data.toList) := WideMaps.keyOf_string_mk Try.underlying9 (by unfold maxLen; omega)
  have ha := map_at L s 0
  have hh := map_has L s
  have F := Lib.hid (dirFine s w hs)
  have H := Lib.hid h
  generalize hE : localE s.data.toList = E at F
  have HE := Lib.hid hE
  clear h hE
  have hPE := Lib.hid (show putE L s n = if E ≠ 0 then E else if n < 1 ∨ n > 2147483647 then 22 else if (lookL L s).isSome = false ∧ 2048 ≤ L.length then 28 else 0 by unfold putE; rw [HE.out])
  generalize (lookL L s).isSome = q at hh hPE
  by_cases hE0 : E = 0
  · subst hE0
    have h00 : ((0:Int) != 0) = false := rfl
    go_enter Try.func26, Try.ntmps26
    go_wp2_with (first | (go_at_call 36; refine F.out.mono ?_; rintro e w1 ⟨rfl, hb1⟩; (have D1 := Lib.hid (H.out.below hb1)); (have B1 := Lib.hid hb1); (have c1 : w1.cell? ⟨b, 0, none⟩ = some (.map (some bm)) := D1.out.1.cell (o := 0) rfl); (have hl1 := D1.out.1.lt); (have hlen := fun ty => dm_len D1.out ty); (obtain ⟨w2, hrun, ho, hg⟩ := (D1.out.2).update strK Try.underlying95 (by unfold maxLen; omega) hk (plainElem_int (H := Unit) Try.underlying3 (a := n) (q := .i64) (WalkArith.wf_i64 (by omega)))); (have HO := Lib.hid ho); (have HG := Lib.hid hg); clear hb1 ho hg) | (at_lookup; refine wpList_lookup_own_ok_int _ rfl _ _ 95 rfl 9 3 .i64 strK Try.underlying95 Try.underlying3 (zeroE _) bm L.length _ rfl (D1.out.2) _ _ rfl hk ?_; intro c hat hwc) | fail)
    all_goals go_ret
    all_goals first
      | (have hp : putE L s n = 22 := by
          rw [hPE.out, if_neg (by simp), if_pos (by omega)]
         exact put_no (by rw [hp]; rfl) D1.out B1.out (by rw [hp]; decide))
      | (have hp : putE L s n = 28 := by
          rw [hPE.out, if_neg (by simp), if_neg (by omega), if_pos (by refine ⟨by first | rfl | assumption | exact Bool.eq_false_iff.2 (by assumption), by omega⟩)]
         exact put_no (by rw [hp]; rfl) D1.out B1.out (by rw [hp]; decide))
      | (have hp : putE L s n = 0 := by
          rw [hPE.out, if_neg (by simp), if_neg (by omega), if_neg (by rintro ⟨k1, k2⟩; first | omega | (subst k1; simp at *; done) | (cases k1; done))]
         exact put_ok (by rw [hp]; rfl) D1.out B1.out hp HO.out HG.out (by omega))
  · have hx : (E != 0) = true := by simp [hE0]
    go_enter Try.func26, Try.ntmps26
    go_wp2_with (first | (go_at_call 36; refine F.out.mono ?_; rintro e w1 ⟨rfl, hb1⟩; (have D1 := Lib.hid (H.out.below hb1)); (have B1 := Lib.hid hb1); clear hb1) | fail)
    go_ret
    have hp : putE L s n = E := by rw [hPE.out, if_pos hE0]
    exact put_no (by rw [hp]; rfl) D1.out B1.out (by rw [hp]; exact hE0)
end Go.Proofs.Ytfcddpbpfckjfaa

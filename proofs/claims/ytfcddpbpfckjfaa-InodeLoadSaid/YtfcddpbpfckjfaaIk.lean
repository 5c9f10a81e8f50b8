/- An inode is written: the change ends. -/
import Derived.Test.YtfcddpbpfckjfaaChecked
import Derived.WalkKit
import Derived.Outline
import Derived.WalkSpells
import Derived.WalkLawsBesides
import Derived.Deep.QuietTactic
import Derived.Deep.RegionWith
import Derived.Deep.DeepMust
import Derived.BigQuiet
import Derived.Test.YtfcddpbpfckjfaaMem
import Derived.RegionTactic
import Derived.ChangeAlike
import Derived.StillTailTactics
import Derived.BigRegion
import Derived.Deep.LoopGhost
import Derived.Deep.RegionHeld3
import Derived.Deep.OwnRows
import Derived.Test.YtfcddpbpfckjfaaIj
namespace Go.Proofs.Ytfcddpbpfckjfaa
open Go.RowKit
set_option linter.unusedVariables false
set_option linter.unusedSimpArgs false
theorem inoDrop0 {w : World} {p : Value} {tb zb : Nat} (h : TabAt w tb zb) : Calls Try.prog 113 #[p, .pointer (some ⟨tb, 0, none⟩)] w fun e w' => e = .returned (.tuple #[]) ∧ w = w' := by
  have c0 : w.cell? ⟨tb, 0, none⟩ = some (.int .i64 0) := Blk.cell h.1 (o := 0) rfl
  clear h
  go_enter Try.func113, Try.ntmps113
  go_wp2
  go_end0
  exact ⟨rfl, rfl⟩
theorem WorkAt.mk2 {w w' : World} {wb s x0 x1 x2 x3 x4 x5 x6 x7 t1 z1 t2 z2 t3 z3 rb rc : Nat} {cv mv taken back taken' back' : Value} {s' y1 : Nat} (h : WorkAt w wb s x0 x1 x2 x3 x4 x5 x6 x7 cv mv t1 z1 t2 z2 t3 z3 rb rc taken back)
    (hb : Blk w' wb (workC s' x0 y1 x2 x3 x4 x5 x6 x7 0 0 cv mv (.pointer (some ⟨t1, 0, none⟩)) (.pointer (some ⟨t2, 0, none⟩)) (.slice (some ⟨rb, 0, none⟩) 1 rc) taken' back') 128) {S : Nat → Prop} (hc : Chg S w w') (hs : ∀ k, S k → NoB w k ∧ k ≠ t1 ∧ k ≠ t2 ∧ k ≠ t3 ∧ k ≠ rb) :
    WorkAt w' wb s' x0 y1 x2 x3 x4 x5 x6 x7 cv mv t1 z1 t2 z2 t3 z3 rb rc taken' back' := by
  obtain ⟨cs, hr⟩ := h.row.2.1
  have hr' := hc.blk hr (fun e => (hs _ e).2.2.2.2 rfl)
  refine ⟨hb, h.one.stayN hc (fun k hk => ⟨(hs k hk).1, (hs k hk).2.1⟩), h.two.stayN hc (fun k hk => ⟨(hs k hk).1, (hs k hk).2.2.1⟩), h.tre.stayN hc (fun k hk => ⟨(hs k hk).1, (hs k hk).2.2.2.1⟩), ⟨?_, ⟨cs, hr'⟩, h.row.2.2⟩, h.apart⟩
  have h0 := h.row.1
  have e1 : w.heap[rb]? = _ := hr
  have e2 : w'.heap[rb]? = _ := hr'
  simp only [World.cell?, e1] at h0
  simp only [World.cell?, e2]
  exact h0
def EndPost (wb s x0 x1 x2 x3 x4 x5 x6 x7 t1 z1 t2 z2 t3 z3 rb rc : Nat) (cv mv taken back : Value) (w : World) (e : Ending) (w' : World) : Prop :=
  e = .returned (.int .i64 0) ∧ Blk w' wb (workC s x0 x1 x2 x3 x4 x5 x6 x7 0 0 cv mv (.pointer (some ⟨t1, 0, none⟩)) (.pointer (some ⟨t2, 0, none⟩)) (.slice (some ⟨rb, 0, none⟩) 1 rc) taken back) 128 ∧ Chg (· = wb) w w'
theorem own_two (w : World) (a b : Value) (T : TypeId) : ((w.alloc (.cells #[a, b] T)).drew).ownsRow w.heap.size T 1 (.slice (some ⟨w.heap.size, 0, none⟩) 2 2) 2 [a, b] :=
  ⟨rfl, .inr ⟨_, 2, #[a, b], rfl, Nat.le_refl _, Blk.new w #[a, b] T, Nat.le_refl _, by unfold maxLen; omega, rfl, rfl⟩⟩
set_option maxHeartbeats 2000000 in
set_option maxRecDepth 100000 in
theorem inoEnd {w : World} {wb x0 x1 x2 x3 x4 x5 x6 x7 t1 z1 t2 z2 t3 z3 rb rc : Nat} {ca ma ka ba : Option Addr} {kn kc bn bc : Nat} (h : WorkAt w wb 703 x0 x1 x2 x3 x4 x5 x6 x7 (.pointer ca) (.pointer ma) t1 z1 t2 z2 t3 z3 rb rc (.slice ka kn kc) (.slice ba bn bc)) (hne : wb ≠ t1 ∧ wb ≠ t2 ∧ wb ≠ t3 ∧ wb ≠ rb) :
    Calls Try.prog 89 #[.pointer (some ⟨wb, 0, none⟩)] w (EndPost wb 703 x0 x1 x2 x3 x4 x5 x6 x7 t1 z1 t2 z2 t3 z3 rb rc (.pointer ca) (.pointer ma) (.slice ka kn kc) (.slice ba bn bc) w) := by
  have c0 : w.cell? ⟨wb, 0, none⟩ = some (.int .i64 703) := h.blk.cell (o := 0) rfl
  have c15 : w.cell? ⟨wb, 15, none⟩ = some (.slice (some ⟨rb, 0, none⟩) 1 rc) := h.blk.cell (o := 15) rfl
  have KN : Hid (∀ w, Calls Try.prog 59 #[.int .i64 703] w fun e w' => e = .returned (.int .i64 2) ∧ w = w') := Lib.hid (fun w => inoBlocks 703 w (by omega) (by omega))
  have H := Lib.hid h
  have hpl := workPlain h.blk
  obtain ⟨hr0, _, hr1, hr2⟩ := h.row
  have r1 : (1 : Int) ≤ rc := by omega
  clear h
  go_enter Try.func89, Try.ntmps89
  go_wp2_with fail
  refine (KN.out _).mono ?_
  rintro e w1 ⟨rfl, rfl⟩
  have t30 : w.cell? ⟨t3, 0, none⟩ = some (.int .i64 0) := Blk.cell H.out.tre.1 (o := 0) rfl
  go_wp2
  go_loopw [4, 5, 20] (fun _ _ iv wr => (iv = .int .i64 0 ∨ iv = .int .i64 1) ∧ wr = w) (fun _ _ iv _ => 1 - (intOf iv).toNat)
  case atStart => exact ⟨.inl rfl, rfl⟩
  case round =>
    obtain ⟨rfl | rfl, rfl⟩ := hrel
    · go_wp2
      go_roundw
      case rel => exact ⟨.inr (by go_num), trivial⟩
      case measure => simp [intOf]
    · have d14 : wr.cell? ⟨wb, 14, none⟩ = some (.pointer (some ⟨t2, 0, none⟩)) := H.out.blk.cell (o := 14) rfl
      have d10 : wr.cell? ⟨wb, 10, none⟩ = some (u32v 0) := H.out.blk.cell (o := 10) rfl
      have f10 := H.out.blk.free 10
      have hwl := H.out.blk.lt
      have K2 := Lib.hid (inoDrop0 (p := .pointer (some ⟨wb, 0, none⟩)) H.out.two)
      go_wp2_with fail
      refine K2.out.mono ?_
      rintro e w1 ⟨rfl, rfl⟩
      have hW1 : Blk (wr.setCell ⟨wb, 10, none⟩ (.int .u32 0)) wb (workC 703 x0 x1 x2 x3 x4 x5 x6 x7 0 0 (.pointer ca) (.pointer ma) (.pointer (some ⟨t1, 0, none⟩)) (.pointer (some ⟨t2, 0, none⟩)) (.slice (some ⟨rb, 0, none⟩) 1 rc) (.slice ka kn kc) (.slice ba bn bc)) 128 := H.out.blk.set 10 _
      have hc1 : Chg (· = wb) wr (wr.setCell ⟨wb, 10, none⟩ (.int .u32 0)) := Chg.set (S := (· = wb)) (Chg.refl _ _) (p := ⟨wb, 10, none⟩) (fun _ => rfl) _
      have H1 := Lib.hid (H.out.mk2 hW1 hc1 (fun k hk => by subst hk; exact ⟨hpl.noB, hne⟩))
      have C1 := Lib.hid hc1
      have K1 := Lib.hid (inoDrop0 (p := .pointer (some ⟨wb, 0, none⟩)) H1.out.one)
      have d13 : wr.cell? ⟨wb, 13, none⟩ = some (.pointer (some ⟨t1, 0, none⟩)) := H.out.blk.cell (o := 13) rfl
      clear hW1 hc1 K2
      go_wp2_with fail
      refine K1.out.mono ?_
      rintro e w1 ⟨rfl, rfl⟩
      have hW2 : Blk ((wr.setCell ⟨wb, 10, none⟩ (.int .u32 0)).setCell ⟨wb, 9, none⟩ (.int .u32 0)) wb (workC 703 x0 x1 x2 x3 x4 x5 x6 x7 0 0 (.pointer ca) (.pointer ma) (.pointer (some ⟨t1, 0, none⟩)) (.pointer (some ⟨t2, 0, none⟩)) (.slice (some ⟨rb, 0, none⟩) 1 rc) (.slice ka kn kc) (.slice ba bn bc)) 128 := H1.out.blk.set 9 _
      have hc2 : Chg (· = wb) (wr.setCell ⟨wb, 10, none⟩ (.int .u32 0)) ((wr.setCell ⟨wb, 10, none⟩ (.int .u32 0)).setCell ⟨wb, 9, none⟩ (.int .u32 0)) := Chg.set (S := (· = wb)) (Chg.refl _ _) (p := ⟨wb, 9, none⟩) (fun _ => rfl) _
      have hp1 := workPlain H1.out.blk
      have H2 := Lib.hid (H1.out.mk2 hW2 hc2 (fun k hk => by subst hk; exact ⟨hp1.noB, hne⟩))
      have C2 := Lib.hid (C1.out.trans hc2)
      have d9 : wr.cell? ⟨wb, 9, none⟩ = some (u32v 0) := H.out.blk.cell (o := 9) rfl
      have f9 := H.out.blk.free 9
      clear hW2 hc2 K1
      go_wp2_with fail
      generalize (wr.setCell ⟨wb, 10, none⟩ (.int .u32 0)).setCell ⟨wb, 9, none⟩ (.int .u32 0) = w2 at *
      clear H1 C1 d9 f9 d10 f10 d13 d14 hp1 hwl c0 c15 hr0 t30
      have d13 : w2.cell? ⟨wb, 13, none⟩ = some (.pointer (some ⟨t1, 0, none⟩)) := H2.out.blk.cell (o := 13) rfl
      have d14 : w2.cell? ⟨wb, 14, none⟩ = some (.pointer (some ⟨t2, 0, none⟩)) := H2.out.blk.cell (o := 14) rfl
      have d15 : w2.cell? ⟨wb, 15, none⟩ = some (.slice (some ⟨rb, 0, none⟩) 1 rc) := H2.out.blk.cell (o := 15) rfl
      have bA : Below w2.heap.size w2 ((w2.alloc (.cells #[.pointer (some ⟨t1, 0, none⟩), .pointer (some ⟨t2, 0, none⟩)] 125)).drew) := ((Below.refl _ _).alloc (Nat.le_refl _) _).drew
      have HBA := Lib.hid bA
      refine wp_region_held_drew (S := fun w' => w'.cell? ⟨wb, 13, none⟩ = some (.pointer (some ⟨t1, 0, none⟩)) ∧ w'.cell? ⟨wb, 14, none⟩ = some (.pointer (some ⟨t2, 0, none⟩)) ∧ w'.cell? ⟨wb, 15, none⟩ = some (.slice (some ⟨rb, 0, none⟩) 1 rc)) (by kernel_rfl) ⟨d13, d14, d15⟩ (fun hHeld => ?_)
      refine wpAnyH_take (i := 0) (v := ?_) rfl (by kernel_rfl) (by kernel_rfl) (by kernel_rfl) (fun _ _ _ h => h) (Or.inl ⟨by kernel_rfl, ?_⟩) (by assumption) ?_
      rotate_left 1
      · (intro w hSw; (try dsimp only at hSw); go_simp; (try (with_reducible rfl)))
      (try simp only [List.getElem_toArray, List.getElem_cons_succ, List.getElem_cons_zero, Act.put, List.setIfInBounds_toArray, List.set_cons_zero, List.set_cons_succ])
      refine wpAnyH_take (i := 1) (v := ?_) rfl (by kernel_rfl) (by kernel_rfl) (by kernel_rfl) (fun _ _ _ h => h) (Or.inl ⟨by kernel_rfl, ?_⟩) (by assumption) ?_
      rotate_left 1
      · (intro w hSw; (try dsimp only at hSw); go_simp; (try (with_reducible rfl)))
      (try simp only [List.getElem_toArray, List.getElem_cons_succ, List.getElem_cons_zero, Act.put, List.setIfInBounds_toArray, List.set_cons_zero, List.set_cons_succ])
      refine wpAnyH_take (i := 2) (v := ?_) rfl (by kernel_rfl) (by kernel_rfl) (by kernel_rfl) (fun _ _ _ h => h) (Or.inl ⟨by kernel_rfl, ?_⟩) (by assumption) ?_
      rotate_left 1
      · (intro w hSw; (try dsimp only at hSw); go_simp; (try (with_reducible rfl)))
      (try simp only [List.getElem_toArray, List.getElem_cons_succ, List.getElem_cons_zero, Act.put, List.setIfInBounds_toArray, List.set_cons_zero, List.set_cons_succ])
      refine wpAnyH_take (i := 3) (v := ?_) rfl (by kernel_rfl) (by kernel_rfl) (by kernel_rfl) (fun _ _ _ h => h) (Or.inl ⟨by kernel_rfl, ?_⟩) (by assumption) ?_
      rotate_left 1
      · (intro w hSw; (try dsimp only at hSw); go_simp; (try (with_reducible rfl)))
      (try simp only [List.getElem_toArray, List.getElem_cons_succ, List.getElem_cons_zero, Act.put, List.setIfInBounds_toArray, List.set_cons_zero, List.set_cons_succ])
      refine wpAnyH_take (i := 4) (v := ?_) rfl (by kernel_rfl) (by kernel_rfl) (by kernel_rfl) (fun _ _ _ h => h) (Or.inl ⟨by kernel_rfl, ?_⟩) (by assumption) ?_
      rotate_left 1
      · (intro w hSw; (try dsimp only at hSw); go_simp; (try (with_reducible rfl)))
      (try simp only [List.getElem_toArray, List.getElem_cons_succ, List.getElem_cons_zero, Act.put, List.setIfInBounds_toArray, List.set_cons_zero, List.set_cons_succ])
      refine wpAnyH_take (i := 5) (v := ?_) rfl (by kernel_rfl) (by kernel_rfl) (by kernel_rfl) (fun _ _ _ h => h) (Or.inl ⟨by kernel_rfl, ?_⟩) (by assumption) ?_
      rotate_left 1
      · (intro w hSw; (try dsimp only at hSw); go_simp; (try (with_reducible rfl)))
      (try simp only [List.getElem_toArray, List.getElem_cons_succ, List.getElem_cons_zero, Act.put, List.setIfInBounds_toArray, List.set_cons_zero, List.set_cons_succ])
      refine wpAnyH_take (i := 6) (v := ?_) rfl (by kernel_rfl) (by kernel_rfl) (by kernel_rfl) (fun _ _ _ h => h) (Or.inl ⟨by kernel_rfl, ?_⟩) (by assumption) ?_
      rotate_left 1
      · (intro w hSw; (try dsimp only at hSw); go_simp; (try (with_reducible rfl)))
      (try simp only [List.getElem_toArray, List.getElem_cons_succ, List.getElem_cons_zero, Act.put, List.setIfInBounds_toArray, List.set_cons_zero, List.set_cons_succ])
      refine wpAnyH_take (i := 7) (v := ?_) rfl (by kernel_rfl) (by kernel_rfl) (by kernel_rfl) (fun _ _ _ h => h) (Or.inl ⟨by kernel_rfl, ?_⟩) (by assumption) ?_
      rotate_left 1
      · (intro w hSw; (try dsimp only at hSw); go_simp; (try (with_reducible rfl)))
      (try simp only [List.getElem_toArray, List.getElem_cons_succ, List.getElem_cons_zero, Act.put, List.setIfInBounds_toArray, List.set_cons_zero, List.set_cons_succ])
      refine wpAnyH_take (i := 9) (v := ?_) rfl (by kernel_rfl) (by kernel_rfl) (by kernel_rfl) (fun _ _ _ h => h) (Or.inl ⟨by kernel_rfl, ?_⟩) (by assumption) ?_
      rotate_left 1
      · (intro w hSw; (try dsimp only at hSw); go_simp; (try (with_reducible rfl)))
      (try simp only [List.getElem_toArray, List.getElem_cons_succ, List.getElem_cons_zero, Act.put, List.setIfInBounds_toArray, List.set_cons_zero, List.set_cons_succ])
      refine wpAnyH_take (i := 10) (v := ?_) rfl (by kernel_rfl) (by kernel_rfl) (by kernel_rfl) (fun _ _ _ h => h) (Or.inl ⟨by kernel_rfl, ?_⟩) (by assumption) ?_
      rotate_left 1
      · (intro w hSw; (try dsimp only at hSw); go_simp; (try (with_reducible rfl)))
      (try simp only [List.getElem_toArray, List.getElem_cons_succ, List.getElem_cons_zero, Act.put, List.setIfInBounds_toArray, List.set_cons_zero, List.set_cons_succ])
      refine wpAnyH_take (i := 11) (v := ?_) rfl (by kernel_rfl) (by kernel_rfl) (by kernel_rfl) (fun _ _ _ h => h) (Or.inl ⟨by kernel_rfl, ?_⟩) (by assumption) ?_
      rotate_left 1
      · (intro w hSw; (try dsimp only at hSw); go_simp; (try (with_reducible rfl)))
      (try simp only [List.getElem_toArray, List.getElem_cons_succ, List.getElem_cons_zero, Act.put, List.setIfInBounds_toArray, List.set_cons_zero, List.set_cons_succ])
      refine wpAnyH_take (i := 12) (v := ?_) rfl (by kernel_rfl) (by kernel_rfl) (by kernel_rfl) (fun _ _ _ h => h) (Or.inl ⟨by kernel_rfl, ?_⟩) (by assumption) ?_
      rotate_left 1
      · (intro w hSw; (try dsimp only at hSw); go_simp; (try (with_reducible rfl)))
      (try simp only [List.getElem_toArray, List.getElem_cons_succ, List.getElem_cons_zero, Act.put, List.setIfInBounds_toArray, List.set_cons_zero, List.set_cons_succ])
      refine wpAnyH_take (i := 15) (v := ?_) rfl (by kernel_rfl) (by kernel_rfl) (by kernel_rfl) (fun _ _ _ h => h) (Or.inl ⟨by kernel_rfl, ?_⟩) (by assumption) ?_
      rotate_left 1
      · (intro w hSw; (try dsimp only at hSw); go_simp; (try (with_reducible rfl)))
      (try simp only [List.getElem_toArray, List.getElem_cons_succ, List.getElem_cons_zero, Act.put, List.setIfInBounds_toArray, List.set_cons_zero, List.set_cons_succ])
      refine wpAnyH_ready (rs := [8]) (by kernel_rfl) (by simp) ?_
      refine AllReadyH.cons rfl (fun K hK => ?_) AllReadyH.nil
      go_simp
      go_wp2_with (fail)
      refine hK.out _ _ ?_ (fun hHeld => ?_)
      · (try dsimp only)
        exact ⟨below_cell HBA.out _ _ d13, below_cell HBA.out _ _ d14, below_cell HBA.out _ _ d15⟩
      clear hK K
      (try simp only [List.getElem_toArray, List.getElem_cons_succ, List.getElem_cons_zero, Act.put, List.setIfInBounds_toArray, List.set_cons_zero, List.set_cons_succ])
      have hr0 := below_cell HBA.out _ _ H2.out.row.1
      have O2 := own_two w2 (.pointer (some ⟨t1, 0, none⟩)) (.pointer (some ⟨t2, 0, none⟩)) 125
      obtain ⟨i0, hi, hz0, hz1, hz2⟩ := info_parts tabInfo
      refine wpAnyH_ready (rs := [13]) (by kernel_rfl) (by simp) ?_
      refine AllReadyH.cons rfl (fun K hK => ?_) AllReadyH.nil
      refine wanted_go rfl ?_
      refine wp_append_own _ (.tmp 81) (.tmp 85) 126 rfl w2.heap.size 125 i0 _ 1 8 Try.underlying126 hi hz0 hz1 hz2 rfl (Nat.zero_lt_succ 0) (.slice (some ⟨w2.heap.size, 0, none⟩) 2 2) 2 [.pointer (some ⟨t1, 0, none⟩), .pointer (some ⟨t2, 0, none⟩)] rfl O2 ⟨rb, 0, none⟩ 1 rc [.pointer (some ⟨t3, 0, none⟩)] rfl rfl ?_ ?_ ?_ ?_ ?_ ?_
      · intro j u hu
        rcases j with _ | j
        · simp at hu
          subst hu
          exact hr0
        · simp at hu
      · simp [Value.oneCell']
      · unfold maxLen; omega
      · omega
      · exact HBA.out.size
      intro v4 w4 ho4 hg4 _
      obtain ⟨gb, gc, rfl⟩ := own_addrT ho4 (by omega)
      obtain ⟨hgb, hgl, hg1, hg2, cur, hgw, hg3, hg5⟩ := own_cells ho4
      have q0 : w4.cell? ⟨gb, 0, none⟩ = some (.pointer (some ⟨t1, 0, none⟩)) := hgw.cell (o := 0) (by
        have := congrArg (fun l : List Value => l[0]?) hg5
        simpa using this)
      have q1 : w4.cell? ⟨gb, 1, none⟩ = some (.pointer (some ⟨t2, 0, none⟩)) := hgw.cell (o := 1) (by
        have := congrArg (fun l : List Value => l[1]?) hg5
        simpa using this)
      have q2 : w4.cell? ⟨gb, 2, none⟩ = some (.pointer (some ⟨t3, 0, none⟩)) := hgw.cell (o := 2) (by
        have := congrArg (fun l : List Value => l[2]?) hg5
        simpa using this)
      have b4 : Below w2.heap.size w2 w4 := HBA.out.grown hg4 HBA.out.size (fun q hq => by simp only [Value.ownBlock, Option.some.injEq] at hq; omega)
      have HB4 := Lib.hid b4
      have Q0 := Lib.hid q0
      have Q1 := Lib.hid q1
      have Q2 := Lib.hid q2
      have u1 : w4.cell? ⟨t1, 2, none⟩ = some (.bool false) := below_cell b4 _ _ (Blk.cell H2.out.one.1 (o := 2) rfl)
      have u2 : w4.cell? ⟨t2, 2, none⟩ = some (.bool false) := below_cell b4 _ _ (Blk.cell H2.out.two.1 (o := 2) rfl)
      have u3 : w4.cell? ⟨t3, 2, none⟩ = some (.bool false) := below_cell b4 _ _ (Blk.cell H2.out.tre.1 (o := 2) rfl)
      have v13 := below_cell b4 _ _ d13
      have v14 := below_cell b4 _ _ d14
      have v15 := below_cell b4 _ _ d15
      clear ho4 hg4 hgw hg5 q0 q1 q2 b4 hHeld
      refine hK.out _ _ ?_ (fun hHeld => ?_)
      · (try dsimp only); exact ⟨v13, v14, v15⟩
      clear hK K
      (try simp only [List.getElem_toArray, List.getElem_cons_succ, List.getElem_cons_zero, Act.put, List.setIfInBounds_toArray, List.set_cons_zero, List.set_cons_succ])
      refine wpAnyH_take (i := 14) (v := ?_) rfl (by kernel_rfl) (by kernel_rfl) (by kernel_rfl) (fun _ _ _ h => h) (Or.inl ⟨by kernel_rfl, ?_⟩) (by assumption) ?_
      rotate_left 1
      · (intro w hSw; (try dsimp only at hSw); go_simp; (try (with_reducible rfl)))
      (try simp only [List.getElem_toArray, List.getElem_cons_succ, List.getElem_cons_zero, Act.put, List.setIfInBounds_toArray, List.set_cons_zero, List.set_cons_succ])
      refine wpAnyH_done (by kernel_rfl) ?_ _
      clear hHeld v13 v14 v15 d13 d14 d15
      have g3 : (3 : Int) ≤ gc := by omega
      go_wp2
      go_loopw [7, 8, 88] (fun _ _ iv wr => ∃ i : Nat, i ≤ 3 ∧ iv = .int .i64 i ∧ wr = w4) (fun _ _ iv _ => 3 - (intOf iv).toNat)
      case atStart => exact ⟨0, by omega, rfl, rfl⟩
      case round =>
        obtain ⟨i, hi3, rfl, rfl⟩ := hrel
        by_cases hlt : i < 3
        · have p0 := Q0.out
          have p1 := Q1.out
          have p2 := Q2.out
          rcases (show i = 0 ∨ i = 1 ∨ i = 2 by omega) with rfl | rfl | rfl
          all_goals
            go_wp2
            go_roundw
            case rel => first | exact ⟨1, by omega, by go_num, trivial⟩ | exact ⟨2, by omega, by go_num, trivial⟩ | exact ⟨3, by omega, by go_num, trivial⟩
            case measure => simp [intOf]
        · obtain rfl : i = 3 := by omega
          go_wp2
          go_ret
          exact ⟨rfl, blkBelow HB4.out H2.out.blk H2.out.blk.lt, C2.out.trans (Chg.of_below HB4.out (fun i h1 h2 => absurd h1 (Nat.not_lt.2 h2)))⟩
end Go.Proofs.Ytfcddpbpfckjfaa

/- An inode is written: bytes are put. -/
import Derived.Test.YtfcddpbpfckjfaaChecked
import Derived.WalkKit
import Derived.Outline
import Derived.WalkSpells
import Derived.WalkLawsBesides
import Derived.Deep.QuietTactic
import Derived.Deep.RegionWith
import Derived.Deep.DeepMust
import Derived.BigQuiet
import Derived.Test.YtfcddpbpfckjfaaMem
import Derived.RegionTactic
import Derived.ChangeAlike
import Derived.StillTailTactics
import Derived.BigRegion
import Derived.Deep.LoopGhost
import Derived.Deep.RegionHeld3
import Derived.Deep.OwnRows
import Derived.Laws.CopyOwn
import Derived.Test.YtfcddpbpfckjfaaIi
namespace Go.Proofs.Ytfcddpbpfckjfaa
open Go.RowKit
set_option linter.unusedVariables false
set_option linter.unusedSimpArgs false
def abcL : List Int := [97, 98, 99]
/-- What a block holds behind the write. -/
def abcB : List Int := List.replicate 188 0 ++ (abcL ++ List.replicate 321 0)
theorem abcB_len : abcB.length = 512 := by decide +kernel
theorem abc_splice {cur : List Value} (h : cur.take 512 = (List.replicate 512 (0 : Int)).map u8v) : (splice cur 188 (abcL.map u8v)).take 512 = abcB.map u8v := by
  have hl : 512 ≤ cur.length := by
    have := congrArg List.length h
    rw [List.length_take, List.length_map, List.length_replicate] at this
    omega
  have hc : (abcL.map u8v).length = 3 := rfl
  unfold splice abcB
  rw [hc, List.map_append, List.map_append, List.map_replicate, List.map_replicate]
  rw [List.map_replicate] at h
  have e1 : cur.take 188 = List.replicate 188 (u8v 0) := by
    have := congrArg (List.take 188) h
    rw [List.take_take, List.take_replicate] at this
    simpa using this
  rw [e1, List.take_append, List.length_replicate, List.take_of_length_le (by rw [List.length_replicate]; omega), List.take_append, hc, List.take_of_length_le (show (abcL.map u8v).length ≤ 512 - 188 from by rw [hc]; omega)]
  congr 2
  have := congrArg (List.drop 191) h
  rw [List.drop_take, List.drop_replicate] at this
  exact this
theorem abc_rdv {w : World} {pb pc : Nat} {cur : List Value} (hb : Blk w pb cur.toArray 5) (h : cur.take 512 = abcB.map u8v) (hl : 512 ≤ pc) (hm : pc ≤ 9223372036854775807) : Rdv u8v w (.slice (some ⟨pb, 0, none⟩) 512 pc) abcB := by
  refine ⟨_, pc, by rw [abcB_len], by rw [abcB_len]; exact hl, by unfold maxLen; omega, .inr ⟨pb, 0, rfl, fun i hi => ?_⟩⟩
  rw [abcB_len] at hi
  have e := congrArg (fun l : List Value => l[i]?) h
  simp only [List.getElem?_take, if_pos hi, List.getElem?_map] at e
  have hi2 : i < abcB.length := by rw [abcB_len]; exact hi
  rw [List.getElem?_eq_getElem hi2, Option.map_some] at e
  have := hb.cell (o := i) (by rw [List.getElem?_toArray]; exact e)
  rw [Nat.zero_add, this, List.getD_eq_getElem?_getD, List.getElem?_eq_getElem hi2]
  rfl
theorem u8Size : (Try.prog.info? 5).map (·.size) = some 1 := by kernel_rfl
def PutPost (xb wb mu mp n s x0 x2 x3 x4 x5 x6 x7 x8 x9 vb b g cb mb : Nat) (ls : List (List Int)) (oa wa ra : Option Addr) (rn rc : Nat) (w : World) (e : Ending) (w' : World) : Prop :=
  ∃ hb tk tc : Nat, e = .returned (.int .i64 0) ∧ w.heap.size ≤ hb ∧ Blk w' wb (workC s x0 1 x2 x3 x4 x5 x6 x7 x8 x9 (.pointer (some ⟨cb, 0, none⟩)) (.pointer (some ⟨mp, 0, none⟩)) (.pointer oa) (.pointer wa) (.slice ra rn rc) (.slice (some ⟨tk, 0, none⟩) 1 tc) (.slice none 0 0)) 128 ∧ MapAt w' mp mu (us2 n) ∧
    DiskA w' vb b g cb mb hb ls abcB 3 1 3 true ∧ Chg (fun k => k = wb ∨ k = mu ∨ k = cb ∨ k = mb) w w'
set_option maxHeartbeats 1000000 in
set_option maxRecDepth 100000 in
theorem inoPut {w : World} {xb wb mu mp n s x0 x2 x3 x4 x5 x6 x7 x8 x9 vb b g cb mb : Nat} {ls : List (List Int)} {oa wa ra : Option Addr} {rn rc : Nat} {dv : Value} (hx : Blk w xb #[.pointer (some ⟨wb, 0, none⟩), .int .i64 700, dv] 131) (hd : Rdv u8v w dv abcL)
    (h : Blk w wb (workC s x0 0 x2 x3 x4 x5 x6 x7 x8 x9 (.pointer (some ⟨cb, 0, none⟩)) (.pointer (some ⟨mp, 0, none⟩)) (.pointer oa) (.pointer wa) (.slice ra rn rc) (.slice none 0 0) (.slice none 0 0)) 128)
    (hM : MapAt w mp mu (us1 n)) (hn : 1 ≤ n) (hne : mu ≠ mp) (hwm : wb ≠ mp ∧ wb ≠ mu) (hD : DiskE w vb b g cb mb ls) (hww : wb ≠ cb ∧ wb ≠ mb ∧ wb ≠ vb ∧ wb ≠ g) (hcg : cb ≠ vb ∧ cb ≠ g ∧ mb ≠ vb ∧ mb ≠ g) (hmu : mu ≠ cb ∧ mu ≠ mb ∧ mu ≠ vb ∧ mu ≠ g ∧ mp ≠ cb ∧ mp ≠ mb) (hxb : xb ≠ wb ∧ xb ≠ mu ∧ xb ≠ cb ∧ xb ≠ mb) :
    Calls Try.prog 71 #[.pointer (some ⟨xb, 0, none⟩), .int .i64 1] w (PutPost xb wb mu mp n s x0 x2 x3 x4 x5 x6 x7 x8 x9 vb b g cb mb ls oa wa ra rn rc w) := by
  have KF := Lib.hid (inoFill h hM hn hne hwm hD hww hcg hmu)
  have c0 : w.cell? ⟨xb, 0, none⟩ = some (.pointer (some ⟨wb, 0, none⟩)) := hx.cell (o := 0) rfl
  obtain ⟨da, dn, dc, rfl⟩ := hd.shape
  obtain ⟨hdn, _, _, hda⟩ := hd.cap
  obtain rfl : dn = 3 := hdn
  obtain ⟨qb, qo, rfl⟩ := hda (by decide)
  clear hda
  have HX := Lib.hid hx
  have HR := Lib.hid hd
  have pw := workPlain h
  have pm := hM.plain.2
  have pc := hD.cch.plainC
  have pb := hD.cch.noM
  have HMB := Lib.hid hD.cch.2
  have lw := h.lt
  have lx := hx.lt
  have lm := Blk.lt hM.1
  have lmu := Blk.lt hM.2.1
  have lc := Blk.lt hD.cch.1
  have lv := Blk.lt hD.vol.1
  have lg : g < w.heap.size := by obtain ⟨vs, h1, _⟩ := hD.vol.2; exact h1.lt
  clear hx hd h hM hD
  go_enter Try.func71, Try.ntmps71
  go_wp2_with fail
  refine KF.out.mono ?_
  rintro e w1 ⟨hb, tk, tc, rfl, hhb, hW1, hM1, hD1, hg1⟩
  have X1 := Lib.hid (hg1.blk HX.out (by rintro (e | e | e | e); exact hxb.1 e; exact hxb.2.1 e; exact hxb.2.2.1 e; exact hxb.2.2.2 e))
  have R1 := Lib.hid (HR.out.stayN hg1 (fun k hk => by rcases hk with rfl | rfl | rfl | rfl; exact pw.noB; exact pm.noB; exact pc.noB; exact pb))
  have KB := Lib.hid (inoBlock1 hW1 hD1 List.length_replicate ⟨by omega, by omega⟩ ⟨by omega, by omega⟩)
  have W1 := Lib.hid hW1
  have M1 := Lib.hid hM1
  have D1 := Lib.hid hD1
  have G1 := Lib.hid hg1
  have d0 : w1.cell? ⟨xb, 0, none⟩ = some (.pointer (some ⟨wb, 0, none⟩)) := X1.out.cell (o := 0) rfl
  have hhb1 : hb < w1.heap.size := by obtain ⟨bv, h1, _⟩ := hD1.held; exact h1.lt
  clear hW1 hM1 hD1 hg1 c0 KF
  go_wp2_with fail
  refine KB.out.mono ?_
  rintro e w2 ⟨v, rfl, ho2, hC2, hH2, hg2⟩
  obtain ⟨pb, pc, rfl⟩ := own_addrT ho2 (by rw [List.length_replicate]; omega)
  rw [List.length_replicate] at ho2
  obtain ⟨hp1, hp2, hp3, hp4, cur, hp5, hp6, hp7⟩ := own_cells ho2
  have hz2 := hg2.size
  have n1 : pb ≠ cb ∧ pb ≠ hb := by
    have := Blk.lt D1.out.cch.1
    omega
  have X2 := Lib.hid (hg2.blk X1.out (by rintro (e | e); exact hxb.2.2.1 e; omega))
  have R2 := Lib.hid (R1.out.stayN hg2 (fun k hk => by rcases hk with rfl | rfl; exact D1.out.cch.plainC.noB; exact D1.out.held.plain.noB))
  have d1 : w2.cell? ⟨xb, 1, none⟩ = some (.int .i64 700) := X2.out.cell (o := 1) rfl
  have d2 : w2.cell? ⟨xb, 2, none⟩ = some (.slice (some ⟨qb, qo, none⟩) 3 dc) := X2.out.cell (o := 2) rfl
  have P2 := Lib.hid hp5
  have P7 := Lib.hid (show cur.toList.take 512 = (List.replicate 512 (0 : Int)).map u8v from hp7)
  have hmm : mb < w.heap.size := by
    have h0 := World.ownsMap.lt (show MapC _ _ _ from HMB.out)
    exact h0
  obtain ⟨bv2, hb2, hr2⟩ := hH2
  obtain ⟨ba, bn, bc, rfl⟩ := hr2.shape
  have H2 := Lib.hid hb2
  have C2 := Lib.hid hC2
  have E2 := Lib.hid hg2
  clear ho2 hC2 hb2 hr2 hg2 hp5 hp7 KB d0
  rw [show zB.length = 512 from List.length_replicate]
  go_wp2
  have q1 : IntKind.i64.wrap (188 : Int) = 188 := rfl
  have q2 : ¬ 188 = pc := by omega
  have q4 : ¬ pc = 188 := by omega
  have q3 : (512 : Int) ≤ pc := by omega
  refine wp_region_held_drew (S := fun w' => w'.cell? ⟨xb, 1, none⟩ = some (.int .i64 700) ∧ w'.cell? ⟨xb, 2, none⟩ = some (.slice (some ⟨qb, qo, none⟩) 3 dc)) (by kernel_rfl) ⟨d1, d2⟩ (fun hHeld => ?_)
  refine wpAnyH_take (i := 0) (v := ?_) rfl (by kernel_rfl) (by kernel_rfl) (by kernel_rfl) (fun _ _ _ h => h) (Or.inl ⟨by kernel_rfl, ?_⟩) (by assumption) ?_
  rotate_left 1
  · (intro w hSw; (try dsimp only at hSw); go_simp; (try (with_reducible rfl)))
  (try simp only [List.getElem_toArray, List.getElem_cons_succ, List.getElem_cons_zero, Act.put, List.setIfInBounds_toArray, List.set_cons_zero, List.set_cons_succ])
  refine wpAnyH_take (i := 1) (v := ?_) rfl (by kernel_rfl) (by kernel_rfl) (by kernel_rfl) (fun _ _ _ h => h) (Or.inl ⟨by kernel_rfl, ?_⟩) (by assumption) ?_
  rotate_left 1
  · (intro w hSw; (try dsimp only at hSw); go_simp; (try (with_reducible rfl)))
  (try simp only [List.getElem_toArray, List.getElem_cons_succ, List.getElem_cons_zero, Act.put, List.setIfInBounds_toArray, List.set_cons_zero, List.set_cons_succ])
  refine wpAnyH_take (i := 2) (v := ?_) rfl (by kernel_rfl) (by kernel_rfl) (by kernel_rfl) (fun _ _ _ h => h) (Or.inl ⟨by kernel_rfl, ?_⟩) (by assumption) ?_
  rotate_left 1
  · (intro w hSw; (try dsimp only at hSw); go_simp; (try (with_reducible rfl)))
  (try simp only [List.getElem_toArray, List.getElem_cons_succ, List.getElem_cons_zero, Act.put, List.setIfInBounds_toArray, List.set_cons_zero, List.set_cons_succ])
  refine wpAnyH_take (i := 3) (v := ?_) rfl (by kernel_rfl) (by kernel_rfl) (by kernel_rfl) (fun _ _ _ h => h) (Or.inl ⟨by kernel_rfl, ?_⟩) (by assumption) ?_
  rotate_left 1
  · (intro w hSw; (try dsimp only at hSw); go_simp; (try (with_reducible rfl)))
  (try simp only [List.getElem_toArray, List.getElem_cons_succ, List.getElem_cons_zero, Act.put, List.setIfInBounds_toArray, List.set_cons_zero, List.set_cons_succ])
  refine wpAnyH_take (i := 4) (v := ?_) rfl (by kernel_rfl) (by kernel_rfl) (by kernel_rfl) (fun _ _ _ h => h) (Or.inl ⟨by kernel_rfl, ?_⟩) (by assumption) ?_
  rotate_left 1
  · (intro w hSw; (try dsimp only at hSw); go_simp; (try (with_reducible rfl)))
  (try simp only [List.getElem_toArray, List.getElem_cons_succ, List.getElem_cons_zero, Act.put, List.setIfInBounds_toArray, List.set_cons_zero, List.set_cons_succ])
  refine wpAnyH_take (i := 5) (v := ?_) rfl (by kernel_rfl) (by kernel_rfl) (by kernel_rfl) (fun _ _ _ h => h) (Or.inl ⟨by kernel_rfl, ?_⟩) (by assumption) ?_
  rotate_left 1
  · (intro w hSw; (try dsimp only at hSw); go_simp; (try (with_reducible rfl)))
  (try simp only [List.getElem_toArray, List.getElem_cons_succ, List.getElem_cons_zero, Act.put, List.setIfInBounds_toArray, List.set_cons_zero, List.set_cons_succ])
  refine wpAnyH_take (i := 6) (v := ?_) rfl (by kernel_rfl) (by kernel_rfl) (by kernel_rfl) (fun _ _ _ h => h) (Or.inl ⟨by kernel_rfl, ?_⟩) (by assumption) ?_
  rotate_left 1
  · (intro w hSw; (try dsimp only at hSw); go_simp; (try (with_reducible rfl)))
  (try simp only [List.getElem_toArray, List.getElem_cons_succ, List.getElem_cons_zero, Act.put, List.setIfInBounds_toArray, List.set_cons_zero, List.set_cons_succ])
  refine wpAnyH_take (i := 7) (v := ?_) rfl (by kernel_rfl) (by kernel_rfl) (by kernel_rfl) (fun _ _ _ h => h) (Or.inl ⟨by kernel_rfl, ?_⟩) (by assumption) ?_
  rotate_left 1
  · (intro w hSw; (try dsimp only at hSw); go_simp; (try (with_reducible rfl)))
  (try simp only [List.getElem_toArray, List.getElem_cons_succ, List.getElem_cons_zero, Act.put, List.setIfInBounds_toArray, List.set_cons_zero, List.set_cons_succ])
  refine wpAnyH_take (i := 8) (v := ?_) rfl (by kernel_rfl) (by kernel_rfl) (by kernel_rfl) (fun _ _ _ h => h) (Or.inl ⟨by kernel_rfl, ?_⟩) (by assumption) ?_
  rotate_left 1
  · (intro w hSw; (try dsimp only at hSw); go_simp; (try (with_reducible rfl)))
  (try simp only [List.getElem_toArray, List.getElem_cons_succ, List.getElem_cons_zero, Act.put, List.setIfInBounds_toArray, List.set_cons_zero, List.set_cons_succ])
  refine wpAnyH_take (i := 9) (v := ?_) rfl (by kernel_rfl) (by kernel_rfl) (by kernel_rfl) (fun _ _ _ h => h) (Or.inl ⟨by kernel_rfl, ?_⟩) (by assumption) ?_
  rotate_left 1
  · (intro w hSw; (try dsimp only at hSw); go_simp; (try (with_reducible rfl)))
  (try simp only [List.getElem_toArray, List.getElem_cons_succ, List.getElem_cons_zero, Act.put, List.setIfInBounds_toArray, List.set_cons_zero, List.set_cons_succ])
  refine wpAnyH_take (i := 10) (v := ?_) rfl (by kernel_rfl) (by kernel_rfl) (by kernel_rfl) (fun _ _ _ h => h) (Or.inl ⟨by kernel_rfl, ?_⟩) (by assumption) ?_
  rotate_left 1
  · (intro w hSw; (try dsimp only at hSw); go_simp; (try (with_reducible rfl)))
  (try simp only [List.getElem_toArray, List.getElem_cons_succ, List.getElem_cons_zero, Act.put, List.setIfInBounds_toArray, List.set_cons_zero, List.set_cons_succ])
  refine wpAnyH_take (i := 11) (v := ?_) rfl (by kernel_rfl) (by kernel_rfl) (by kernel_rfl) (fun _ _ _ h => h) (Or.inl ⟨by kernel_rfl, ?_⟩) (by assumption) ?_
  rotate_left 1
  · (intro w hSw; (try dsimp only at hSw); go_simp; (try (with_reducible rfl)))
  (try simp only [List.getElem_toArray, List.getElem_cons_succ, List.getElem_cons_zero, Act.put, List.setIfInBounds_toArray, List.set_cons_zero, List.set_cons_succ])
  refine wpAnyH_ready (rs := [12]) (by kernel_rfl) (by simp) ?_
  refine AllReadyH.cons rfl (fun K hK => ?_) AllReadyH.nil
  refine step_copy_splice rfl (.tmp 45) (.tmp 49) 48 48 rfl 5 Try.underlying48 u8Size (some ⟨pb, 188, none⟩) (some ⟨qb, qo, none⟩) 324 (pc - 188) 3 dc rfl rfl pb 188 cur.toList 5 (by have h0 : w2.heap[pb]? = _ := P2.out; rw [Array.toArray_toList]; exact h0) (abcL.map u8v) rfl (fun _ => ⟨rfl, _, rfl, rdv_news (R2.out.below (Drw.below ⟨1, rfl⟩ : Below w2.heap.size w2 w2.drew))⟩) (by show 188 + 3 ≤ cur.toList.length; have e : cur.toList.length = pc := hp6; omega) (fun v hv => by obtain ⟨q, _, rfl⟩ := List.mem_map.1 hv; rfl) w1.heap.size w2.drew (Below.refl _ _) hp1 ?_
  intro w3 hg3 hb3
  have hb3' : Below w1.heap.size w2 w3 := (Below.drew (Below.refl _ _) : Below w1.heap.size w2 w2.drew).trans hb3
  have hc3 : Chg (cS3 cb hb) w1 w3 := E2.out.trans' (S' := fun k => w1.heap.size ≤ k) (Chg.of_below hb3' (fun i h1 h2 => h2)) (fun i h1 h2 => absurd h1 (Nat.not_lt.2 h2))
  have hc23 : Chg (fun k => w1.heap.size ≤ k) w2 w3 := Chg.of_below hb3' (fun i h1 h2 => h2)
  have hcb1 : cb < w1.heap.size := Blk.lt D1.out.cch.1
  have X3 := Lib.hid (hc3.blk X1.out (by rintro (e | e); exact hxb.2.2.1 e; omega))
  have W3 := Lib.hid (hc3.blk W1.out (by rintro (e | e); exact hww.1 e; omega))
  have M3 := Lib.hid (M1.out.stay hc3 (by rintro (e | e); exact hmu.2.2.2.2.1 e; omega) (by rintro (e | e); exact hmu.1 e; omega))
  have V3 := Lib.hid (D1.out.vol.stayN hc3 (fun k hk => by
    rcases hk with rfl | rfl
    · exact ⟨D1.out.cch.plainC.noB, hcg.1, hcg.2.1⟩
    · exact ⟨D1.out.held.plain.noB, by omega, by omega⟩))
  have hmm1 : mb < w1.heap.size := by
    have h0 := World.ownsMap.lt (show MapC w1 mb _ from D1.out.cch.2)
    exact h0
  have C3 := Lib.hid (C2.out.stay hc23 (by omega) (by omega))
  have H3 := Lib.hid (hc23.blk H2.out (by omega))
  have A3 := Lib.hid (abc_rdv (w := w3) (pb := pb) (pc := pc) hg3.out (abc_splice P7.out) hp3 hp4)
  have G3 := Lib.hid (G1.out.trans' hc3 (fun i h1 h2 => by rcases h2 with rfl | rfl; exact .inr (.inr (.inl rfl)); omega))
  have z3 := hc3.size
  have DL := Lib.hid (And.intro D1.out.len D1.out.blk)
  clear hg3 hb3 hb3' hc3 hc23 X1 W1 M1 D1 R1 G1 X2 R2 P2 P7 C2 H2 E2
  go_simp
  refine hK.out _ _ ?_ (fun hHeld => ?_)
  · (try dsimp only); exact ⟨X3.out.cell (o := 1) rfl, X3.out.cell (o := 2) rfl⟩
  clear hK K hHeld
  (try simp only [List.getElem_toArray, List.getElem_cons_succ, List.getElem_cons_zero, Act.put, List.setIfInBounds_toArray, List.set_cons_zero, List.set_cons_succ])
  refine wpAnyH_done (by kernel_rfl) ?_ _
  have bd : Below w3.heap.size w3 w3.drew := (Below.refl _ _).drew
  have hk1 : 1 < ls.length := by have := DL.out.1; omega
  have KP := Lib.hid (bcPut1 (w := w3.drew) (C3.out.below bd) (blkBelow bd H3.out H3.out.lt) (V3.out.below bd) (A3.out.below bd) abcB_len DL.out.1.1 hk1 ⟨by omega, by omega⟩)
  have KA := Lib.hid (inoAt1 (w := w3.drew) (blkBelow bd W3.out W3.out.lt) (by omega))
  have e1 : w3.cell? ⟨xb, 0, none⟩ = some (.pointer (some ⟨wb, 0, none⟩)) := X3.out.cell (o := 0) rfl
  have e2 : w3.cell? ⟨wb, 11, none⟩ = some (.pointer (some ⟨cb, 0, none⟩)) := W3.out.cell (o := 11) rfl
  clear d1 d2 q1 q2 q3 q4
  go_wp2
  refine wp_region_held_drew (S := fun w' => w'.cell? ⟨xb, 0, none⟩ = some (.pointer (some ⟨wb, 0, none⟩)) ∧ w'.cell? ⟨wb, 11, none⟩ = some (.pointer (some ⟨cb, 0, none⟩))) (by kernel_rfl) ⟨e1, e2⟩ (fun hHeld => ?_)
  refine wpAnyH_take (i := 0) (v := ?_) rfl (by kernel_rfl) (by kernel_rfl) (by kernel_rfl) (fun _ _ _ h => h) (Or.inl ⟨by kernel_rfl, ?_⟩) (by assumption) ?_
  rotate_left 1
  · (intro w hSw; (try dsimp only at hSw); go_simp; (try (with_reducible rfl)))
  (try simp only [List.getElem_toArray, List.getElem_cons_succ, List.getElem_cons_zero, Act.put, List.setIfInBounds_toArray, List.set_cons_zero, List.set_cons_succ])
  refine wpAnyH_take (i := 1) (v := ?_) rfl (by kernel_rfl) (by kernel_rfl) (by kernel_rfl) (fun _ _ _ h => h) (Or.inl ⟨by kernel_rfl, ?_⟩) (by assumption) ?_
  rotate_left 1
  · (intro w hSw; (try dsimp only at hSw); go_simp; (try (with_reducible rfl)))
  (try simp only [List.getElem_toArray, List.getElem_cons_succ, List.getElem_cons_zero, Act.put, List.setIfInBounds_toArray, List.set_cons_zero, List.set_cons_succ])
  refine wpAnyH_take (i := 2) (v := ?_) rfl (by kernel_rfl) (by kernel_rfl) (by kernel_rfl) (fun _ _ _ h => h) (Or.inl ⟨by kernel_rfl, ?_⟩) (by assumption) ?_
  rotate_left 1
  · (intro w hSw; (try dsimp only at hSw); go_simp; (try (with_reducible rfl)))
  (try simp only [List.getElem_toArray, List.getElem_cons_succ, List.getElem_cons_zero, Act.put, List.setIfInBounds_toArray, List.set_cons_zero, List.set_cons_succ])
  refine wpAnyH_take (i := 3) (v := ?_) rfl (by kernel_rfl) (by kernel_rfl) (by kernel_rfl) (fun _ _ _ h => h) (Or.inl ⟨by kernel_rfl, ?_⟩) (by assumption) ?_
  rotate_left 1
  · (intro w hSw; (try dsimp only at hSw); go_simp; (try (with_reducible rfl)))
  (try simp only [List.getElem_toArray, List.getElem_cons_succ, List.getElem_cons_zero, Act.put, List.setIfInBounds_toArray, List.set_cons_zero, List.set_cons_succ])
  refine wpAnyH_take (i := 4) (v := ?_) rfl (by kernel_rfl) (by kernel_rfl) (by kernel_rfl) (fun _ _ _ h => h) (Or.inl ⟨by kernel_rfl, ?_⟩) (by assumption) ?_
  rotate_left 1
  · (intro w hSw; (try dsimp only at hSw); go_simp; (try (with_reducible rfl)))
  (try simp only [List.getElem_toArray, List.getElem_cons_succ, List.getElem_cons_zero, Act.put, List.setIfInBounds_toArray, List.set_cons_zero, List.set_cons_succ])
  refine wpAnyH_take (i := 5) (v := ?_) rfl (by kernel_rfl) (by kernel_rfl) (by kernel_rfl) (fun _ _ _ h => h) (Or.inl ⟨by kernel_rfl, ?_⟩) (by assumption) ?_
  rotate_left 1
  · (intro w hSw; (try dsimp only at hSw); go_simp; (try (with_reducible rfl)))
  (try simp only [List.getElem_toArray, List.getElem_cons_succ, List.getElem_cons_zero, Act.put, List.setIfInBounds_toArray, List.set_cons_zero, List.set_cons_succ])
  refine wpAnyH_take (i := 6) (v := ?_) rfl (by kernel_rfl) (by kernel_rfl) (by kernel_rfl) (fun _ _ _ h => h) (Or.inl ⟨by kernel_rfl, ?_⟩) (by assumption) ?_
  rotate_left 1
  · (intro w hSw; (try dsimp only at hSw); go_simp; (try (with_reducible rfl)))
  (try simp only [List.getElem_toArray, List.getElem_cons_succ, List.getElem_cons_zero, Act.put, List.setIfInBounds_toArray, List.set_cons_zero, List.set_cons_succ])
  refine wpAnyH_take (i := 7) (v := ?_) rfl (by kernel_rfl) (by kernel_rfl) (by kernel_rfl) (fun _ _ _ h => h) (Or.inl ⟨by kernel_rfl, ?_⟩) (by assumption) ?_
  rotate_left 1
  · (intro w hSw; (try dsimp only at hSw); go_simp; (try (with_reducible rfl)))
  (try simp only [List.getElem_toArray, List.getElem_cons_succ, List.getElem_cons_zero, Act.put, List.setIfInBounds_toArray, List.set_cons_zero, List.set_cons_succ])
  refine wpAnyH_take (i := 8) (v := ?_) rfl (by kernel_rfl) (by kernel_rfl) (by kernel_rfl) (fun _ _ _ h => h) (Or.inl ⟨by kernel_rfl, ?_⟩) (by assumption) ?_
  rotate_left 1
  · (intro w hSw; (try dsimp only at hSw); go_simp; (try (with_reducible rfl)))
  (try simp only [List.getElem_toArray, List.getElem_cons_succ, List.getElem_cons_zero, Act.put, List.setIfInBounds_toArray, List.set_cons_zero, List.set_cons_succ])
  refine wpAnyH_take (i := 9) (v := ?_) rfl (by kernel_rfl) (by kernel_rfl) (by kernel_rfl) (fun _ _ _ h => h) (Or.inl ⟨by kernel_rfl, ?_⟩) (by assumption) ?_
  rotate_left 1
  · (intro w hSw; (try dsimp only at hSw); go_simp; (try (with_reducible rfl)))
  (try simp only [List.getElem_toArray, List.getElem_cons_succ, List.getElem_cons_zero, Act.put, List.setIfInBounds_toArray, List.set_cons_zero, List.set_cons_succ])
  refine wpAnyH_take (i := 10) (v := ?_) rfl (by kernel_rfl) (by kernel_rfl) (by kernel_rfl) (fun _ _ _ h => h) (Or.inl ⟨by kernel_rfl, ?_⟩) (by assumption) ?_
  rotate_left 1
  · (intro w hSw; (try dsimp only at hSw); go_simp; (try (with_reducible rfl)))
  (try simp only [List.getElem_toArray, List.getElem_cons_succ, List.getElem_cons_zero, Act.put, List.setIfInBounds_toArray, List.set_cons_zero, List.set_cons_succ])
  refine wpAnyH_take (i := 11) (v := ?_) rfl (by kernel_rfl) (by kernel_rfl) (by kernel_rfl) (fun _ _ _ h => h) (Or.inl ⟨by kernel_rfl, ?_⟩) (by assumption) ?_
  rotate_left 1
  · (intro w hSw; (try dsimp only at hSw); go_simp; (try (with_reducible rfl)))
  (try simp only [List.getElem_toArray, List.getElem_cons_succ, List.getElem_cons_zero, Act.put, List.setIfInBounds_toArray, List.set_cons_zero, List.set_cons_succ])
  refine wpAnyH_take (i := 13) (v := ?_) rfl (by kernel_rfl) (by kernel_rfl) (by kernel_rfl) (fun _ _ _ h => h) (Or.inl ⟨by kernel_rfl, ?_⟩) (by assumption) ?_
  rotate_left 1
  · (intro w hSw; (try dsimp only at hSw); go_simp; (try (with_reducible rfl)))
  (try simp only [List.getElem_toArray, List.getElem_cons_succ, List.getElem_cons_zero, Act.put, List.setIfInBounds_toArray, List.set_cons_zero, List.set_cons_succ])
  refine wpAnyH_ready (rs := [12]) (by kernel_rfl) (by simp) ?_
  refine AllReadyH.cons rfl (fun K hK => ?_) AllReadyH.nil
  go_simp
  go_wp2_with (go_at_call 72; (with_reducible refine KA.out.mono ?_); rintro e w8 ⟨rfl, rfl⟩)
  refine hK.out _ _ ?_ (fun hHeld => ?_)
  · (try dsimp only)
    exact ⟨e1, e2⟩
  clear hK K
  (try simp only [List.getElem_toArray, List.getElem_cons_succ, List.getElem_cons_zero, Act.put, List.setIfInBounds_toArray, List.set_cons_zero, List.set_cons_succ])
  refine wpAnyH_ready (rs := [14]) (by kernel_rfl) (by simp) ?_
  refine AllReadyH.cons rfl (fun K hK => ?_) AllReadyH.nil
  go_simp
  go_wp2_with fail
  refine KP.out.mono ?_
  rintro e w9 ⟨rfl, hC9, hH9, hg9⟩
  have hC9' : Chg (cS3 cb hb) w3 w9 := (Chg.of_below bd (fun i h1 h2 => absurd h1 (Nat.not_lt.2 h2))).trans hg9
  have X9 := hC9'.blk X3.out (by rintro (e | e); exact hxb.2.2.1 e; omega)
  have W9 := Lib.hid (hC9'.blk W3.out (by rintro (e | e); exact hww.1 e; omega))
  have M9 := Lib.hid (M3.out.stay hC9' (by rintro (e | e); exact hmu.2.2.2.2.1 e; omega) (by rintro (e | e); exact hmu.1 e; omega))
  have hpb3 : Plain w3 hb := ⟨_, _, H3.out, fun i n e => by rcases i with _ | _ | _ | _ | _ | i <;> simp at e⟩
  have V9 := Lib.hid (V3.out.stayN hC9' (fun k hk => by
    rcases hk with rfl | rfl
    · exact ⟨C3.out.plainC.noB, hcg.1, hcg.2.1⟩
    · exact ⟨hpb3.noB, by omega, by omega⟩))
  have F9 : Hid (DiskA w9 vb b g cb mb hb ls abcB 3 1 3 true) := Lib.hid ⟨hC9, hH9, V9.out, DL.out.1, DL.out.2⟩
  have G9 := Lib.hid (G3.out.trans' hC9' (fun i h1 h2 => by rcases h2 with rfl | rfl; exact .inr (.inr (.inl rfl)); omega))
  have g1 : w9.cell? ⟨xb, 0, none⟩ = some (.pointer (some ⟨wb, 0, none⟩)) := X9.cell (o := 0) rfl
  have g2 : w9.cell? ⟨wb, 11, none⟩ = some (.pointer (some ⟨cb, 0, none⟩)) := W9.out.cell (o := 11) rfl
  clear hC9 hH9 hg9 hC9' X9
  refine hK.out _ _ ?_ (fun hHeld => ?_)
  · (try dsimp only); exact ⟨g1, g2⟩
  clear hK K
  (try simp only [List.getElem_toArray, List.getElem_cons_succ, List.getElem_cons_zero, Act.put, List.setIfInBounds_toArray, List.set_cons_zero, List.set_cons_succ])
  refine wpAnyH_take (i := 15) (v := ?_) rfl (by kernel_rfl) (by kernel_rfl) (by kernel_rfl) (fun _ _ _ h => h) (Or.inl ⟨by kernel_rfl, ?_⟩) (by assumption) ?_
  rotate_left 1
  · (intro w hSw; (try dsimp only at hSw); go_simp; (try (with_reducible rfl)))
  (try simp only [List.getElem_toArray, List.getElem_cons_succ, List.getElem_cons_zero, Act.put, List.setIfInBounds_toArray, List.set_cons_zero, List.set_cons_succ])
  refine wpAnyH_done (by kernel_rfl) ?_ _
  go_wp2
  go_ret
  exact ⟨hb, tk, tc, rfl, hhb, W9.out, M9.out, F9.out, G9.out⟩
end Go.Proofs.Ytfcddpbpfckjfaa

/- The law CodecRead: its walk. -/
import Derived.Test.YthbalmoafpggdaaChecked
import Derived.WalkKit
import Derived.Outline
import Derived.WalkSpells
import Derived.WalkLawsBesides
import Derived.Deep.QuietTactic
import Derived.Deep.RegionWith
import Derived.Deep.DeepMust
import Derived.BigQuiet
import Derived.Test.YthbalmoafpggdaaMem
import Derived.RegionTactic
import Derived.ChangeAlike
import Derived.StillTailTactics
import Derived.Deep.LoopGhost
import Derived.Test.YthbalmoafpggdaaTk2
import Derived.Test.YthbalmoafpggdaaCdL
import Derived.Test.YthbalmoafpggdaaSho
import Derived.Test.YthbalmoafpggdaaFr
namespace Go.Proofs.Ythbalmoafpggdaa
open Go.RowKit
set_option linter.unusedVariables false
set_option linter.unusedSimpArgs false
def takesS (ks : List Int) (s : RS) : RS := ks.foldl (fun s k => takeS k s) s
theorem takesS_snoc (ks : List Int) (k : Nat) (h : k < ks.length) (s : RS) : takesS (ks.take (k + 1)) s = takeS (ks.getD k 0) (takesS (ks.take k) s) := by
  unfold takesS
  rw [List.take_succ_eq_append_getElem h, List.foldl_append, List.getD_eq_getElem?_getD, List.getElem?_eq_getElem h]
  rfl
set_option maxHeartbeats 4000000 in
set_option maxRecDepth 100000 in
theorem codecRead_walk (x y : Value) (l ks : List Int) (w : World) (hx : Rdv u8v w x l) (hl : Byt l) (hy : Rdv i64c w y ks) : Calls Try.prog 4 #[x, y] w (CdTrue w) := by
  obtain ⟨i0, hi, hz0, hz1, hz2⟩ := info_parts Try.info5
  obtain ⟨xa, xn, xc, rfl⟩ := hx.shape
  obtain ⟨rfl, h1, h2, _⟩ := hx.cap
  unfold maxLen at h2
  obtain ⟨ya, yn, yc, rfl⟩ := hy.shape
  obtain ⟨rfl, y1, y2, _⟩ := hy.cap
  unfold maxLen at y2
  have KS := Lib.hid (fun w' => shortC3 xa l xc 200 w' (by omega) h1 h2)
  have HX := Lib.hid hx
  have HY := Lib.hid hy
  have HLB : Hid (Byt (l.take 200)) := Lib.hid fun q hq => hl q (List.mem_of_mem_take hq)
  have hll : (l.take 200).length ≤ 200 := by simp; omega
  clear hx hy hl
  go_enter Try.func4, Try.ntmps4
  go_wp2_with fail
  refine (cdBegun w).mono ?_
  rintro e w1 ⟨rfl, b1⟩
  have B1' := Lib.hid b1
  clear b1
  go_wp2_with fail
  refine (KS.out w1).mono ?_
  rintro e w1' ⟨⟨v1, rfl, hv1⟩, rfl⟩
  have R1 := hv1 w1 (HX.out.below B1'.out)
  have KR := Lib.hid (rNew v1 (l.take 200) w1 R1 HLB.out (by omega))
  have R1 := Lib.hid R1
  clear hv1
  generalize l.take 200 = L at *
  go_wp2_with fail
  refine KR.out.mono ?_
  rintro e w2 ⟨r1, B1, v2, rfl, hr1, hB1, hBl, h2', hb2⟩
  have H2 := Lib.hid h2'
  have B2' := Lib.hid (cb_under B1'.out hb2)
  have R2 := Lib.hid (R1.out.below hb2)
  have hs12 := hb2.size
  have hr1l := h2'.lt
  clear h2' hb2 KR
  obtain ⟨v1a, v1n, v1c, rfl⟩ := R2.out.shape
  have B2s := B2'.out.size
  have B1s := B1'.out.size
  go_wp2_with (at_builtin; refine wpList_append_rd rfl (.const (.slice none 0 0)) _ 24 rfl w2.heap.size 5 i0 (.int .u8 0) 1 Try.underlying24 hi hz0 hz1 hz2 rfl (.slice none 0 0) 0 [] rfl (World.ownsRow_nil _ _ _ _) (.slice v1a v1n v1c) u8v L rfl R2.out (fun _ => rfl) ?c1 ?c2 ?c3 ?_)
  case c1 => unfold maxLen; omega
  case c2 => omega
  case c3 => omega
  intro v3 w3 o3 g3 _
  have hb3 : Below w2.heap.size w2 w3 := (Below.refl _ w2).grown g3 (Nat.le_refl _) (fun k hk => by simp [Value.ownBlock] at hk)
  have R3 : Rdv u8v w3 v3 L := Rdv.of_owns (enc := u8v) (xs := L) (by simpa using o3)
  have hin : v3 = .slice none 0 0 ∨ ∃ g n c, w2.heap.size ≤ g ∧ g < w3.heap.size ∧ v3 = .slice (some ⟨g, 0, none⟩) n c := by
    rcases o3.2 with ⟨h, _⟩ | ⟨g, c, cur, h, hg, hh, _⟩
    · exact .inl h
    · exact .inr ⟨g, _, c, hg, lt_of_block hh, h⟩
  have HIN := Lib.hid hin
  have H3 := Lib.hid (H2.out.below hb3)
  have B3' := Lib.hid (cb_under B2'.out hb3)
  have hs23 := hb3.size
  have R3 := Lib.hid R3
  obtain ⟨v3a, v3c, rfl, _⟩ := own_shape o3
  (try simp only [Nat.zero_add] at *)
  clear o3 g3 hb3 hin
  have a4 : Below w3.heap.size w3 (w3.alloc (.cells #[.slice v3a L.length v3c, .bool false] 40)) := (Below.refl _ _).alloc (Nat.le_refl _) _
  have B4' := Lib.hid (cb_under B3'.out a4)
  have hT : ∃ B2, Two (w3.alloc (.cells #[.slice v3a L.length v3c, .bool false] 40)) r1 B1 w3.heap.size B2 (some L) ∧ w.heap.size ≤ r1 := by
    have BK : Blk (w3.alloc (.cells #[.slice v3a L.length v3c, .bool false] 40)) w3.heap.size #[.slice v3a L.length v3c, .bool false] 40 := Blk.new w3 _ _
    rcases HIN.out with h | ⟨g, n, c, hg, hgl, h⟩
    · exact ⟨w3.heap.size, ⟨⟨_, H3.out.below a4⟩, ⟨_, ⟨BK, R3.out.below a4, .inl h, (fun ⟨_, _, _, e⟩ => by rw [h, Value.slice.injEq] at e; cases e.1), HLB.out, by show L.length ≤ _; omega⟩⟩, by omega, by omega, by omega, by simp; omega, by simp⟩, by omega⟩
    · exact ⟨g, ⟨⟨_, H3.out.below a4⟩, ⟨_, ⟨BK, R3.out.below a4, .inr ⟨_, _, _, h⟩, (fun _ => by omega), HLB.out, by show L.length ≤ _; omega⟩⟩, by omega, by omega, by omega, by simp; omega, by simp; omega⟩, by omega⟩
  obtain ⟨B2, hT, hwr⟩ := hT
  have HT := Lib.hid hT
  have B3s := B3'.out.size
  clear hT a4
  go_wp2_with fail
  go_loopw [8] (fun i wr => ∃ k : Nat, k ≤ ks.length ∧ k ≤ 20 ∧ i = .int .i64 k ∧ Two wr r1 B1 w3.heap.size B2 (takesS (ks.take k) (some L)) ∧ Below w.heap.size w wr) (fun i _ => 20 - (intOf i).toNat)
  case atStart => exact ⟨0, Nat.zero_le _, by omega, rfl, HT.out, B4'.out⟩
  case round =>
    obtain ⟨k, hk, hk20, rfl, hT, hB⟩ := hrel
    have HB := Lib.hid hB
    have HT := Lib.hid hT
    by_cases hlt : k < ks.length ∧ k < 20
    · obtain ⟨hlt1, hlt2⟩ := hlt
      obtain ⟨bl, ol, rfl, hcell⟩ := rdv_at (HY.out.below hB) k hlt1
      have HS := Lib.hid (takesS_snoc ks k hlt1 (some L))
      generalize ks.getD k 0 = q at *
      have KT := Lib.hid (lawTake q r1 B1 _ B2 _ wr hT)
      clear hT hB
      go_wp2_with fail
      refine KT.out.mono ?_
      rintro e w5 ⟨rfl, hT5, hC5⟩
      have T5 := Lib.hid hT5
      have B5 := Lib.hid (Chg.below_trans HB.out hC5 HB.out.size (fun i hi hs => by rcases hs with hs | hs <;> omega))
      clear hT5 hC5
      go_wp2
      go_roundw
      case rel => exact ⟨k + 1, by omega, by omega, by go_num, by rw [HS.out]; exact T5.out, B5.out⟩
      case measure => simp [intOf]; omega
    · obtain ⟨u1, hu1⟩ := hT.rd
      obtain ⟨u2, hu2⟩ := hT.rf
      have KD := Lib.hid (rDone r1 B1 u1 _ wr hu1)
      have KD2 := Lib.hid (fDone w3.heap.size B2 u2 _ wr hu2)
      have hq : ((doneS (takesS (ks.take k) (some L)) == 0) == decide (takesS (ks.take k) (some L) = some [])) = true := by
        unfold doneS
        by_cases he : takesS (ks.take k) (some L) = some []
        · rw [if_pos he, decide_eq_true he]; rfl
        · rw [if_neg he, decide_eq_false he]; rfl
      generalize doneS (takesS (ks.take k) (some L)) = d1 at *
      generalize decide (takesS (ks.take k) (some L) = some []) = d2 at *
      clear hT hB hu1 hu2
      have hstop : ks.length ≤ k ∨ (k < ks.length ∧ 20 ≤ k) := by omega
      clear hlt
      rcases hstop with hst | ⟨hst, hst2⟩
      all_goals
        go_wp2_with (first | (go_at_call 22; (with_reducible refine KD.out.mono ?_); rintro e w5 ⟨rfl, rfl⟩) | (go_at_call 23; (with_reducible refine KD2.out.mono ?_); rintro e w5 ⟨rfl, rfl⟩))
        go_ret
        exact ⟨rfl, HB.out⟩
theorem bytR {w : World} {a : Option Addr} {len cap : Nat} {zs : List Int} (h : IsRow .u8 w a len cap zs) : Byt (zs.take len) := fun q hq => by
  have := bounds_u8 (h.wf q hq)
  omega
end Go.Proofs.Ythbalmoafpggdaa

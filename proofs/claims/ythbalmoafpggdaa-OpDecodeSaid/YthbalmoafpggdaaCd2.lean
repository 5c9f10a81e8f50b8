/- Contracts of package codec: the writer, continued. -/
import Derived.Test.YthbalmoafpggdaaChecked
import Derived.WalkKit
import Derived.Outline
import Derived.WalkSpells
import Derived.WalkLawsBesides
import Derived.Deep.QuietTactic
import Derived.Deep.RegionWith
import Derived.Deep.DeepMust
import Derived.BigQuiet
import Derived.Test.YthbalmoafpggdaaMem
import Derived.RegionTactic
import Derived.ChangeAlike
import Derived.StillTailTactics
import Derived.Deep.LoopGhost
import Derived.Lib.ConvBytes
import Derived.Test.YthbalmoafpggdaaCd
namespace Go.Proofs.Ythbalmoafpggdaa
open Go.RowKit
set_option linter.unusedVariables false
set_option linter.unusedSimpArgs false
/-- A slice's block is none of the writer's. -/
def Apt (x : Value) (p : Nat) (v : Value) : Prop := ∀ b o n c, x = .slice (some ⟨b, o, none⟩) n c → 0 < n → b ≠ p ∧ v.ownBlock ≠ some b
theorem Apt.nxt {x : Value} {p : Nat} {v v' : Value} {w : World} (h : Apt x p v) (hn : Nxt w v v') (hx : ∀ b o n c, x = .slice (some ⟨b, o, none⟩) n c → 0 < n → b < w.heap.size) : Apt x p v' := by
  intro b o n c e h0
  have h1 := h b o n c e h0
  refine ⟨h1.1, fun e2 => ?_⟩
  rcases hn with hn | hn
  · exact h1.2 (hn ▸ e2)
  · have := hn b e2; have := hx b o n c e h0; omega
theorem Rdv.apt {enc : Int → Value} {w w' : World} {x : Value} {xs : List Int} {p : Nat} {v : Value} (h : Rdv enc w x xs) (g : Chg (WS p v) w w') (ha : Apt x p v) : Rdv enc w' x xs := by
  by_cases h0 : xs = []
  · obtain ⟨a, c, e, h1, h2, _⟩ := h
    exact ⟨a, c, e, h1, h2, .inl h0⟩
  · have hp : 0 < xs.length := List.length_pos_iff.2 h0
    refine h.chg g fun b o n c e hs => ?_
    have hn : 0 < n := by
      obtain ⟨a, c', e', _⟩ := h
      rw [e', Value.slice.injEq] at e
      omega
    rcases hs with hs | hs
    · exact (ha b o n c e hn).1 hs
    · exact (ha b o n c e hn).2 hs
theorem wadd_bad (l : List Int) (o : Option (List Int)) : wadd l true o = l := rfl
set_option maxHeartbeats 2000000 in
set_option maxRecDepth 100000 in
theorem wBytes (p : Nat) (v : Value) (l : List Int) (bad : Bool) (x : Value) (xs : List Int) (w : World) (h : Wr w p v l bad) (hx : Rdv u8v w x xs) (ha : Apt x p v) (hlt : ∀ b o n c, x = .slice (some ⟨b, o, none⟩) n c → 0 < n → b < w.heap.size) (hl : l.length ≤ 800000000000) : Calls Try.prog 15 #[.pointer (some ⟨p, 0, none⟩), x] w (WPost p v (wadd l bad (bytesW xs)) (wbad bad (bytesW xs)) w) := by
  obtain ⟨i0, hi, hz0, hz1, hz2⟩ := info_parts Try.info5
  obtain ⟨xa, xn, xc, rfl⟩ := hx.shape
  obtain ⟨rfl, h1, h2, h3⟩ := hx.cap
  unfold maxLen at h2
  by_cases hlen : xs.length ≤ 65536
  · have KM := Lib.hid (wMay p v l bad true w h)
    have hle : decide ((xs.length : Int) ≤ 65536) = true := decide_eq_true (by omega)
    have hb : bytesW xs = some (numL xs.length ++ xs) := by unfold bytesW; rw [if_pos hlen]
    have HB := Lib.hid hb
    have HX := Lib.hid hx
    clear h h3 hb hx
    cases bad
    · go_enter Try.func15, Try.ntmps15
      go_wp2_with fail
      refine KM.out.mono ?_
      rintro e w1 ⟨rfl, hw1, g1⟩
      have KN := Lib.hid (wNumGood p v l xs.length w1 (by simpa using hw1) (by omega) (by omega))
      have G1 : Hid (Chg (WS p v) w w1) := Lib.hid (g1.mono fun _ _ e => .inl e)
      clear hw1 g1
      go_wp2_with fail
      refine KN.out.mono ?_
      rintro e w2 ⟨rfl, v2, hw2, n2, g2⟩
      have hx2 := Lib.hid (HX.out.apt (G1.out.trans g2) ha)
      have hll : (l ++ numL xs.length).length ≤ 800000000010 := by have := numL_len xs.length; simp; omega
      have N2 := Lib.hid n2
      have G2 := Lib.hid (WS.trans G1.out (Nxt.refl _ _) g2)
      have N2' := Lib.hid ((Nxt.refl w v).trans n2 G1.out.size)
      clear n2 g2
      obtain ⟨L, hL⟩ : ∃ L, L = l ++ numL xs.length := ⟨_, rfl⟩
      rw [← hL] at hll hw2
      have HL := Lib.hid hL
      clear hL
      obtain ⟨va, vc, rfl, hv1, hv2, _⟩ := own_shape hw2.own
      have pc0 : w2.cell? ⟨p, 0, none⟩ = some (.slice va L.length vc) := hw2.blk.cell (o := 0) rfl
      have pf0 := hw2.blk.free 0
      have pz := hw2.lt
      have hown := hw2.own
      have HW := Lib.hid hw2
      clear hw2
      go_wp2_with (at_builtin; refine wpList_append_rd rfl _ _ 24 rfl 0 5 i0 (.int .u8 0) 1 Try.underlying24 hi hz0 hz1 hz2 rfl _ _ _ rfl hown (.slice xa xs.length xc) u8v xs rfl hx2.out (fun _ => rfl) ?c1 ?c2 ?c3 ?_)
      case c1 => unfold maxLen; omega
      case c2 => omega
      case c3 => omega
      intro v3 w3 o3 g3 b3
      obtain ⟨q1, q2, q3⟩ := wr_append (s := xs) HW.out (Chg.refl _ _) o3 g3 b3
      have HW3 := Lib.hid q1
      have HN3 := Lib.hid q2
      have HC3 := Lib.hid q3
      obtain ⟨v3a, v3c, rfl, _⟩ := own_shape o3
      have B3 : Blk w3 p #[.slice va L.length vc, .bool false] 95 := HW.out.blk.of_eq (g3.block p HW.out.lt (fun e => HW.out.ne e.symm))
      have pg : w3.cell? ⟨p, 0, none⟩ = some (.slice va L.length vc) := B3.cell (o := 0) rfl
      have pgf : w3.frozen? ⟨p, 0, none⟩ = false := B3.free 0
      clear o3 g3 b3 q1 q2 q3 pc0 pf0 hown B3
      go_wp2
      go_end0
      refine ⟨rfl, ?_⟩
      rw [HB.out]
      exact ⟨_, HW3.out.cast (by rw [HL.out]; simp [wadd]), N2'.out.trans HN3.out G2.out.size, WS.trans G2.out N2'.out HC3.out⟩
    · go_enter Try.func15, Try.ntmps15
      go_wp2_with fail
      refine KM.out.mono ?_
      rintro e w1 ⟨rfl, hw1, g1⟩
      have H1 := Lib.hid (may_step hw1 g1)
      clear hw1 g1
      go_wp2
      (first | go_end0 | refine bodyPost_ret (results_none rfl _ _ _) rfl ?_)
      exact ⟨rfl, H1.out⟩
  · have KM := Lib.hid (wMay p v l bad false w h)
    have hle : decide ((xs.length : Int) ≤ 65536) = false := decide_eq_false (by omega)
    have hb : bytesW xs = none := by unfold bytesW; rw [if_neg hlen]
    have HB := Lib.hid hb
    clear h h3 hb hx hlen
    cases bad
    all_goals
      go_enter Try.func15, Try.ntmps15
      go_wp2_with fail
      refine KM.out.mono ?_
      rintro e w1 ⟨rfl, hw1, g1⟩
      have H1 := Lib.hid (may_step hw1 g1)
      clear hw1 g1
      go_wp2
      (first | go_end0 | refine bodyPost_ret (results_none rfl _ _ _) rfl ?_)
      exact ⟨rfl, by rw [HB.out]; simpa [wadd, wbad] using H1.out⟩
theorem wTruth (p : Nat) (v : Value) (l : List Int) (bad q : Bool) (w : World) (h : Wr w p v l bad) (hl : l.length ≤ 900000000000) : Calls Try.prog 74 #[.pointer (some ⟨p, 0, none⟩), .bool q] w (WPost p v (wadd l bad (some (truthW q))) (wbad bad (some (truthW q))) w) := by
  have K0 := wNum p v l bad 0 w h (by omega) hl
  have K1 := wNum p v l bad 1 w h (by omega) hl
  rw [show numW 0 = some [0] from rfl] at K0
  rw [show numW 1 = some [1] from rfl] at K1
  have K0 := Lib.hid K0
  have K1 := Lib.hid K1
  clear h
  cases q
  · go_enter Try.func74, Try.ntmps74
    go_wp2_with fail
    refine K0.out.mono ?_
    rintro e w1 ⟨rfl, hw1⟩
    have HW := Lib.hid hw1
    clear hw1
    go_wp2
    (first | go_end0 | refine bodyPost_ret (results_none rfl _ _ _) rfl ?_)
    exact ⟨rfl, HW.out⟩
  · go_enter Try.func74, Try.ntmps74
    go_wp2_with fail
    refine K1.out.mono ?_
    rintro e w1 ⟨rfl, hw1⟩
    have HW := Lib.hid hw1
    clear hw1
    go_wp2
    (first | go_end0 | refine bodyPost_ret (results_none rfl _ _ _) rfl ?_)
    exact ⟨rfl, HW.out⟩
theorem wStamp (t n : Int) (w : World) : Calls Try.prog 107 #[.agg #[.int .i64 t, .int .i64 n]] w fun e w' => e = .returned (.bool (idOk t n)) ∧ Below w.heap.size w w' := by
  by_cases h0 : 0 ≤ t
  · by_cases h1 : t ≤ 1152921504606846976
    · by_cases h2 : 0 ≤ n
      all_goals
        go_enter Try.func107, Try.ntmps107
        go_wp2
        go_ret
        exact ⟨ret_b (by first | (simp [idOk]; done) | (simp [idOk]; omega)), (Below.refl _ _).alloc (Nat.le_refl _) _⟩
    · have h1' : 1152921504606846976 < t := by omega
      go_enter Try.func107, Try.ntmps107
      go_wp2
      go_ret
      exact ⟨ret_b (by first | (simp [idOk]; done) | (simp [idOk]; omega)), (Below.refl _ _).alloc (Nat.le_refl _) _⟩
  · have h0' : t < 0 := by omega
    go_enter Try.func107, Try.ntmps107
    go_wp2
    go_ret
    exact ⟨ret_b (by first | (simp [idOk]; done) | (simp [idOk]; omega)), (Below.refl _ _).alloc (Nat.le_refl _) _⟩
abbrev i64c : Int → Value := .int .i64
theorem numsL_snoc (xs : List Int) (k : Nat) (h : k < xs.length) : numsL (xs.take (k + 1)) = numsL (xs.take k) ++ numL (xs.getD k 0).toNat := by
  unfold numsL
  rw [List.take_succ_eq_append_getElem h, List.flatMap_append]
  simp only [List.flatMap_cons, List.flatMap_nil, List.append_nil]
  rw [List.getD_eq_getElem?_getD, List.getElem?_eq_getElem h]
  rfl
set_option maxHeartbeats 2000000 in
set_option maxRecDepth 100000 in
theorem wNums (p : Nat) (v : Value) (l : List Int) (x : Value) (xs : List Int) (w : World) (h : Wr w p v l false) (hx : Rdv i64c w x xs) (ha : Apt x p v) (hlt : ∀ b o n c, x = .slice (some ⟨b, o, none⟩) n c → 0 < n → b < w.heap.size) (hl : l.length ≤ 800000000000) (hn : xs.length ≤ 100) (hok : ∀ q ∈ xs, 0 ≤ q ∧ q ≤ 4611686018427387904) :
    Calls Try.prog 103 #[.func (.func 11) #[.pointer (some ⟨p, 0, none⟩)] #[], x] w (WPost p v (l ++ numsL xs) false w) := by
  obtain ⟨xa, xn, xc, rfl⟩ := hx.shape
  obtain ⟨rfl, h1, h2, h3⟩ := hx.cap
  unfold maxLen at h2
  have HX := Lib.hid hx
  have H := Lib.hid h
  have HOK := Lib.hid hok
  clear hx h3 h hok
  go_enter Try.func103, Try.ntmps103
  go_wp2_with fail
  go_loopw [8] (fun i wr => ∃ k : Nat, k ≤ xs.length ∧ i = .int .i64 k ∧ ∃ v', Wr wr p v' (l ++ numsL (xs.take k)) false ∧ Nxt w v v' ∧ Chg (WS p v) w wr) (fun i _ => xs.length - (intOf i).toNat)
  case atStart => exact ⟨0, Nat.zero_le _, rfl, v, by simpa [numsL] using H.out, Nxt.refl _ _, Chg.refl _ _⟩
  case round =>
    obtain ⟨k, hk, rfl, v', hW, hN, hC⟩ := hrel
    have HW := Lib.hid hW
    have HN := Lib.hid hN
    have HC := Lib.hid hC
    have hll : (l ++ numsL (xs.take k)).length ≤ 800000001000 := by have := numsL_len (xs.take k); simp at *; omega
    by_cases hklt : k < xs.length
    · obtain ⟨bl, ol, rfl, hcell⟩ : ∃ bl ol, xa = some ⟨bl, ol, none⟩ ∧ wr.cell? ⟨bl, ol + k, none⟩ = some (.int .i64 (xs.getD k 0)) := by
        obtain ⟨a', c', e, _, _, h3⟩ := HX.out.apt hC ha
        rw [Value.slice.injEq] at e
        obtain ⟨rfl, _, _⟩ := e
        rcases h3 with rfl | ⟨b, o, rfl, h3⟩
        · simp at hklt
        · exact ⟨b, o, rfl, h3 k hklt⟩
      have hq := HOK.out (xs.getD k 0) (by rw [List.getD_eq_getElem?_getD, List.getElem?_eq_getElem hklt]; exact List.getElem_mem hklt)
      have HS := Lib.hid (numsL_snoc xs k hklt)
      obtain ⟨q, hqe⟩ := Int.eq_ofNat_of_zero_le hq.1
      rw [hqe] at hcell hq
      have HQ := Lib.hid hqe
      have KN := Lib.hid (wNumGood p v' _ q wr hW (by omega) (by omega))
      clear hW hN hC hqe
      go_wp2_with fail
      refine KN.out.mono ?_
      rintro e w2 ⟨rfl, v2, hw2, n2, g2⟩
      have HW2 := Lib.hid hw2
      have N2 := Lib.hid (HN.out.trans n2 HC.out.size)
      have G2 := Lib.hid (WS.trans HC.out HN.out g2)
      clear hw2 n2 g2
      go_wp2
      go_roundw
      case rel => exact ⟨k + 1, by omega, by go_num, v2, HW2.out.cast (by rw [HS.out, HQ.out, Int.toNat_natCast, List.append_assoc]), N2.out, G2.out⟩
      case measure => simp [intOf]; omega
    · obtain rfl : k = xs.length := by omega
      clear hW hN hC
      go_wp2
      (first | go_end0 | refine bodyPost_ret (results_none rfl _ _ _) rfl ?_)
      exact ⟨rfl, v', HW.out.cast (by rw [List.take_length]), HN.out, HC.out⟩
end Go.Proofs.Ythbalmoafpggdaa

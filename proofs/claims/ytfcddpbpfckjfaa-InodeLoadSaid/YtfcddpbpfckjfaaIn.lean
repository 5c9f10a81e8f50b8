/- A cache and a map; some bytes are kept: begun. -/
import Derived.Test.YtfcddpbpfckjfaaChecked
import Derived.WalkKit
import Derived.Outline
import Derived.WalkSpells
import Derived.WalkLawsBesides
import Derived.Deep.QuietTactic
import Derived.Deep.RegionWith
import Derived.Deep.DeepMust
import Derived.BigQuiet
import Derived.Test.YtfcddpbpfckjfaaMem
import Derived.RegionTactic
import Derived.ChangeAlike
import Derived.StillTailTactics
import Derived.BigRegion
import Derived.Deep.LoopGhost
import Derived.Deep.RegionHeld3
import Derived.Deep.OwnRows
import Derived.Test.YtfcddpbpfckjfaaIm
namespace Go.Proofs.Ytfcddpbpfckjfaa
open Go.RowKit
set_option linter.unusedVariables false
set_option linter.unusedSimpArgs false
structure DiskOk (w : World) (B vb b g cb mb mp mu n : Nat) (ls : List (List Int)) : Prop where
  dis : DiskE w vb b g cb mb ls
  map : MapAt w mp mu (us1 n)
  hcg : cb ≠ vb ∧ cb ≠ g ∧ mb ≠ vb ∧ mb ≠ g
  hmu : mu ≠ cb ∧ mu ≠ mb ∧ mu ≠ vb ∧ mu ≠ g ∧ mp ≠ cb ∧ mp ≠ mb
  hne : mu ≠ mp
  ge : B ≤ vb ∧ B ≤ g ∧ B ≤ cb ∧ B ≤ mb ∧ B ≤ mp ∧ B ≤ mu
def DiskPost (n : Nat) (w : World) (e : Ending) (w' : World) : Prop :=
  ∃ vb b g cb mb mp mu : Nat, e = .returned (.tuple #[.pointer (some ⟨cb, 0, none⟩), .pointer (some ⟨mp, 0, none⟩)]) ∧ DiskOk w' w.heap.size vb b g cb mb mp mu n (List.replicate (n + 1) zB) ∧ Below w.heap.size w w'
set_option maxHeartbeats 1000000 in
set_option maxRecDepth 100000 in
theorem inoDisk (n : Nat) (w : World) (h0 : 1 ≤ n) (h1 : n ≤ 900) : Calls Try.prog 44 #[.int .i64 ((n + 1 : Nat) : Int)] w (DiskPost n w) := by
  have KV := Lib.hid (volNew (n + 1) w (by omega) (by omega))
  have HN := Lib.hid h0
  have HN1 := Lib.hid h1
  obtain ⟨m, hm⟩ : ∃ m : Nat, n + 1 = m := ⟨_, rfl⟩
  have hm2 : 2 ≤ m := by omega
  have hm3 : m ≤ 1000 := by omega
  rw [hm] at KV
  rw [hm]
  go_enter Try.func44, Try.ntmps44
  go_wp2_with fail
  refine KV.out.mono ?_
  rintro e w1 ⟨vb, b, g, rfl, hvb, hg, hV, hb1⟩
  have V1 := Lib.hid hV
  have B1 := Lib.hid hb1
  have lv := Blk.lt hV.1
  have lg : g < w1.heap.size := by obtain ⟨vs, h1, _⟩ := hV.2; exact h1.lt
  have z1 := hb1.size
  clear hV hb1 KV
  go_wp2_with fail
  refine (bcNew vb w1).mono ?_
  rintro e w2 ⟨cb, mb, rfl, hcb, hmb, hC, hb2⟩
  have C2 := Lib.hid hC
  have V2 := Lib.hid (V1.out.below hb2)
  have B2 := Lib.hid (B1.out.trans (hb2.mono z1))
  have lc := Blk.lt hC.1
  have lm : mb < w2.heap.size := World.ownsMap.lt (show MapC w2 mb none from hC.2)
  have z2 := hb2.size
  clear hC hb2 V1 B1
  go_wp2_with fail
  refine (bmNew_ok m w2 (by omega)).mono ?_
  rintro e w3 ⟨mp, mu, rfl, hmp, hmu, hne, hM, hb3⟩
  have hM1 : MapAt w3 mp mu (false :: List.replicate n false) := by rw [← hm, List.replicate_succ] at hM; exact hM
  have KS := bmSet mp mu _ 0 w3 hM1 hne
  have i0 : inB (false :: List.replicate n false) 0 = true := by simp [inB]
  rw [i0, if_neg (by decide), if_neg (by simp), if_pos ⟨rfl, by simp⟩] at KS
  have KS2 := Lib.hid (show Calls Try.prog 64 #[.pointer (some ⟨mp, 0, none⟩), .int .i64 0] w3 (BmPost 0 mp mu (us1 n) w3) from KS)
  have C3 := Lib.hid (C2.out.below hb3)
  have V3 := Lib.hid (V2.out.below hb3)
  have B3 := Lib.hid (B2.out.trans (hb3.mono (by omega)))
  have P3 := Lib.hid hM1.plain
  clear hM hM1 KS hb3 C2 V2 B2 i0
  go_wp2_with fail
  refine KS2.out.mono ?_
  rintro e w4 ⟨rfl, hM4, hg4⟩
  have M4 := Lib.hid hM4
  have C4 := Lib.hid (C3.out.stay hg4 (by omega) (by omega))
  have V4 := Lib.hid (V3.out.stay hg4 (fun k hk => by subst hk; exact ⟨P3.out.2, by omega⟩))
  have B4 := Lib.hid (hg4.below_trans B3.out (by have := B3.out.size; omega) (fun i h1 h2 => by omega))
  clear hM4 hg4 KS2
  go_wp2
  go_ret2
  exact ⟨vb, b, g, cb, mb, mp, mu, rfl, ⟨⟨C4.out, by rw [hm]; exact V4.out, by rw [List.length_replicate]; omega, fun x hx => by rw [(List.mem_replicate.1 hx).2, List.length_replicate]⟩, M4.out, by omega, by omega, hne, by omega⟩, B4.out⟩
end Go.Proofs.Ytfcddpbpfckjfaa

/- The law OpName. -/
import Derived.Test.YthbalmoafpggdaaChecked
import Derived.WalkKit
import Derived.Outline
import Derived.WalkSpells
import Derived.WalkLawsBesides
import Derived.Deep.QuietTactic
import Derived.Deep.RegionWith
import Derived.Deep.DeepMust
import Derived.BigQuiet
import Derived.Test.YthbalmoafpggdaaMem
import Derived.RegionTactic
import Derived.ChangeAlike
import Derived.StillTailTactics
import Derived.Laws.Strings3
import Derived.Test.YthbalmoafpggdaaOpB
namespace Go.Proofs.Ythbalmoafpggdaa
open Go.RowKit
set_option linter.unusedVariables false
set_option linter.unusedSimpArgs false
set_option maxHeartbeats 2000000 in
set_option maxRecDepth 100000 in
theorem opName_walk (s : ByteArray) (w : World) : Calls Try.prog 10 #[.string s] w (OTrue w) := by
  have KA := Lib.hid (fun (t : ByteArray) (h : t.size ≤ 100) w' => opsName t w' (by omega))
  have KB := Lib.hid (fun (t : ByteArray) (h : t.size ≤ 100) w' => refName t w' (by omega))
  by_cases h : 100 < s.size
  · have h1 : (100 : Int) < s.size := by omega
    have h2 : (100 : Int) ≤ s.size := by omega
    have hz : (s.extract 0 100).size ≤ 100 := by rw [ByteArray.size_extract]; omega
    go_enter Try.func10, Try.ntmps10
    go_wp2_with fail
    refine (opBegun _).mono ?_
    rintro e w1 ⟨rfl, hb1⟩
    have HB1 := Lib.hid hb1
    clear hb1
    go_wp2_with fail
    refine (KA.out _ hz _).mono ?_
    rintro e w2 ⟨rfl, hb2⟩
    have HB2 := Lib.hid (HB1.out.trans (hb2.mono HB1.out.size))
    clear hb2
    go_wp2_with fail
    refine (KB.out _ hz _).mono ?_
    rintro e w3 ⟨rfl, hb3⟩
    have HB3 := Lib.hid (HB2.out.trans (hb3.mono HB2.out.size))
    clear hb3
    go_wp2
    go_ret
    exact ⟨ret_b (by simp), HB3.out⟩
  · have h1 : ¬ ((100 : Int) < s.size) := by omega
    have hz : s.size ≤ 100 := by omega
    go_enter Try.func10, Try.ntmps10
    go_wp2_with fail
    refine (opBegun _).mono ?_
    rintro e w1 ⟨rfl, hb1⟩
    have HB1 := Lib.hid hb1
    clear hb1
    go_wp2_with fail
    refine (KA.out _ hz _).mono ?_
    rintro e w2 ⟨rfl, hb2⟩
    have HB2 := Lib.hid (HB1.out.trans (hb2.mono HB1.out.size))
    clear hb2
    go_wp2_with fail
    refine (KB.out _ hz _).mono ?_
    rintro e w3 ⟨rfl, hb3⟩
    have HB3 := Lib.hid (HB2.out.trans (hb3.mono HB2.out.size))
    clear hb3
    go_wp2
    go_ret
    exact ⟨ret_b (by simp), HB3.out⟩
end Go.Proofs.Ythbalmoafpggdaa

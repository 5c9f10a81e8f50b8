/- The names that package api gives stand for the numbers that the document gives them; no condition. -/
import Derived.Test.YtgpfkdlnmifiiaaPNamesx1
namespace Go.Proofs.Ytgpfkdlnmifiiaa.Pure
open Go.RowKit Go.Proofs.Ytgpfkdlnmifiiaa.PNames Go.Proofs.YtgpfkdlnmifiiaaW.PrintWords Go.Proofs.YtgpfkdlnmifiiaaW.PrintLast

/-- YOURS: ∃ k, lagoonlaw0_Names.f k  = some true
What it reaches (each with k first where it has rounds; `.mono`: more rounds tell the same; `.l0`, ..: its loops, with `.mono_l`): lagoonlaw0_num.f, lagoonlaw0_Names.f -/
theorem Names : lagoonlaw0_Names.Pure := by
  exact ⟨200, by kernel_rfl⟩

end Go.Proofs.Ytgpfkdlnmifiiaa.Pure

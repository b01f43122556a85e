/- The closed facts of the row of FoldNil. No condition. -/
import Derived.Test.YtggdgjifhikmiaaGreatDoorRows
import Derived.JoinedCond
namespace Go.Proofs.YtggdgjifhikmiaaGreatDoor
theorem nilFInPlace : (Rows.foldNilRow.inPlace == Tryz.prog.inPlace 5) = true := by kernel_rfl
theorem nilFUnf : (Rows.foldNilRow.unfollowed == Tryz.prog.unfollowed 5) = true := by kernel_rfl
theorem nilFRec : (Rows.foldNilRow.recurses == Tryz.prog.recurses 5) = true := by kernel_rfl
theorem nilFNamed : (Rows.foldNilRow.named == Tryz.prog.varsNamed 5) = true := by kernel_rfl
theorem nilFacts : joinedFacts Tryz.prog 5 Tryz.f5 Rows.foldNilSpec Rows.foldNilRow = true := by
  unfold joinedFacts
  rw [nilFInPlace, nilFUnf, nilFRec, nilFNamed]
  kernel_rfl
end Go.Proofs.YtggdgjifhikmiaaGreatDoor

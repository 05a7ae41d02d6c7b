/-
  The closed facts of the two rows: which functions and variables the laws come to.
-/
import Derived.Test.YtjoaldaldcpfeaaGreatDoorRows
import Derived.JoinedOf
namespace Go.Proofs.YtjoaldaldcpfeaaGreatDoor
theorem cl3_0 : (Rows.clusterChecksRow.inPlace == Tryz.prog.inPlace 3) = true := by kernel_rfl
theorem cl3_1 : (Rows.clusterChecksRow.unfollowed == Tryz.prog.unfollowed 3) = true := by kernel_rfl
theorem cl3_2 : (Rows.clusterChecksRow.recurses == Tryz.prog.recurses 3) = true := by kernel_rfl
theorem cl3_3 : (Rows.clusterChecksRow.named == Tryz.prog.varsNamed 3) = true := by kernel_rfl
theorem cl3 : joinedFacts Tryz.prog 3 Tryz.f3 Rows.clusterChecksSpec Rows.clusterChecksRow = true := by
  unfold joinedFacts
  rw [cl3_0, cl3_1, cl3_2, cl3_3]
  kernel_rfl
theorem cl4_0 : (Rows.clusterRoutesRow.inPlace == Tryz.prog.inPlace 4) = true := by kernel_rfl
theorem cl4_1 : (Rows.clusterRoutesRow.unfollowed == Tryz.prog.unfollowed 4) = true := by kernel_rfl
theorem cl4_2 : (Rows.clusterRoutesRow.recurses == Tryz.prog.recurses 4) = true := by kernel_rfl
theorem cl4_3 : (Rows.clusterRoutesRow.named == Tryz.prog.varsNamed 4) = true := by kernel_rfl
theorem cl4 : joinedFacts Tryz.prog 4 Tryz.f4 Rows.clusterRoutesSpec Rows.clusterRoutesRow = true := by
  unfold joinedFacts
  rw [cl4_0, cl4_1, cl4_2, cl4_3]
  kernel_rfl
end Go.Proofs.YtjoaldaldcpfeaaGreatDoor

/- CasTurned: the closed facts of its row. -/
import Derived.Test.YtdndpmlapcbjaaaGreatRows
import Derived.ProofKit
import Derived.JoinedCond
namespace Go.Proofs.YtdndpmlapcbjaaaGreat
open Go
theorem jLaidT : laidOutB Tryz.pinned.checked.prog = true := by kernel_rfl
theorem jRowedT : mapsRowed Tryz.pinned.checked.prog = true := by kernel_rfl
theorem jPlace3 : (Rows.casTurnedRow.inPlace == Tryz.pinned.checked.prog.inPlace 3) = true := by kernel_rfl
theorem jUnf3 : (Rows.casTurnedRow.unfollowed == Tryz.pinned.checked.prog.unfollowed 3) = true := by kernel_rfl
theorem jRec3 : (Rows.casTurnedRow.recurses == Tryz.pinned.checked.prog.recurses 3) = true := by kernel_rfl
theorem jNamed3 : (Rows.casTurnedRow.named == Tryz.pinned.checked.prog.varsNamed 3) = true := by kernel_rfl
theorem joined3 : joinedFacts Tryz.pinned.checked.prog 3 Tryz.f3 Rows.casTurnedSpec Rows.casTurnedRow = true := by
  unfold joinedFacts
  rw [jLaidT, jRowedT, jPlace3, jUnf3, jRec3, jNamed3]
  kernel_rfl
end Go.Proofs.YtdndpmlapcbjaaaGreat

/- CasNobody: the closed facts of its row. -/
import Derived.Test.YtdndpmlapcbjaaaGreatRows
import Derived.ProofKit
import Derived.JoinedCond
namespace Go.Proofs.YtdndpmlapcbjaaaGreat
open Go
theorem jLaid : laidOutB Tryz.pinned.checked.prog = true := by kernel_rfl
theorem jRowed : mapsRowed Tryz.pinned.checked.prog = true := by kernel_rfl
theorem jPlace5 : (Rows.casNobodyRow.inPlace == Tryz.pinned.checked.prog.inPlace 5) = true := by kernel_rfl
theorem jUnf5 : (Rows.casNobodyRow.unfollowed == Tryz.pinned.checked.prog.unfollowed 5) = true := by kernel_rfl
theorem jRec5 : (Rows.casNobodyRow.recurses == Tryz.pinned.checked.prog.recurses 5) = true := by kernel_rfl
theorem jNamed5 : (Rows.casNobodyRow.named == Tryz.pinned.checked.prog.varsNamed 5) = true := by kernel_rfl
theorem joined5 : joinedFacts Tryz.pinned.checked.prog 5 Tryz.f5 Rows.casNobodySpec Rows.casNobodyRow = true := by
  unfold joinedFacts
  rw [jLaid, jRowed, jPlace5, jUnf5, jRec5, jNamed5]
  kernel_rfl
end Go.Proofs.YtdndpmlapcbjaaaGreat

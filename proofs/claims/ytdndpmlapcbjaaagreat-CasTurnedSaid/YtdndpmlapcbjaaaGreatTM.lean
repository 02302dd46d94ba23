/- CasTurned answers true for every input, and leaves all that there was as it was; no condition. -/
import Derived.Test.YtdndpmlapcbjaaaGreatTK
import Derived.Test.YtdndpmlapcbjaaaGreatTL
namespace Go.Proofs.YtdndpmlapcbjaaaGreat
open Go Go.ChangeShapes Go.WideShapes Go.ChangeAt Go.RowKit
theorem inst3 : Tryz.f3.isInstance Tryz.pinned.checked.prog Rows.casTurnedRow.origin Rows.casTurnedRow.targs := of_decide_eq_true (by kernel_rfl)
theorem wrap3 : Tryz.f3.isWrapper Tryz.pinned.checked.prog Rows.casTurnedRow.wrapper Rows.casTurnedRow.mainSum := by
  unfold Func.isWrapper
  rw [if_neg (by decide +kernel)]; exact ⟨rfl, rfl⟩
theorem casTurned_holds : Rows.CasTurnedSaid :=
  OpenClaim.holds_of_wide 3 Tryz.f3 rfl rfl rfl rfl rfl rfl rfl ⟨rfl, rfl, rfl, rfl, rfl⟩ rfl rfl rfl rfl rfl nam3 Tryz.func3 joined3 inst3 wrap3
    (fun os started H enc _ => casTurned_lifted os started H enc)
#print axioms casTurned_holds
end Go.Proofs.YtdndpmlapcbjaaaGreat

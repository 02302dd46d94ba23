/- CasNobody answers true for every number of digits and every key, and leaves all that there was as it was; no condition. -/
import Derived.Test.YtdndpmlapcbjaaaGreatXJ
import Derived.Test.YtdndpmlapcbjaaaGreatXK
namespace Go.Proofs.YtdndpmlapcbjaaaGreat
open Go Go.ChangeShapes Go.WideShapes Go.ChangeAt Go.RowKit
theorem inst5 : Tryz.f5.isInstance Tryz.pinned.checked.prog Rows.casNobodyRow.origin Rows.casNobodyRow.targs := of_decide_eq_true (by kernel_rfl)
theorem wrap5 : Tryz.f5.isWrapper Tryz.pinned.checked.prog Rows.casNobodyRow.wrapper Rows.casNobodyRow.mainSum := by
  unfold Func.isWrapper
  rw [if_neg (by decide +kernel)]; exact ⟨rfl, rfl⟩
theorem casNobody_holds : Rows.CasNobodySaid :=
  OpenClaim.holds_of_wide 5 Tryz.f5 rfl rfl rfl rfl rfl rfl rfl ⟨rfl, rfl, rfl, rfl, rfl⟩ rfl rfl rfl rfl rfl nam5 Tryz.func5 joined5 inst5 wrap5
    (fun os started H enc _ => casNobody_lifted os started H enc)
#print axioms casNobody_holds
end Go.Proofs.YtdndpmlapcbjaaaGreat

/- CasNobody answers true for every number of digits and every key, and leaves all that there was as it was; no condition. -/
import Derived.Test.YtdndpmlapcbjaaaGreatXI
import Derived.Test.YtdndpmlapcbjaaaGreatXH
namespace Go.Proofs.YtdndpmlapcbjaaaGreat
open Go Go.ChangeShapes Go.WideShapes Go.ChangeAt Go.RowKit
set_option linter.unusedVariables false

theorem calls5 (w : World) (dg : Int) (s : Sl) (key : List UInt8) (hb : BS (wm w) s key) : Calls Tryz.prog 5 #[.int .i64 dg, Sl.v s] w fun e w' => e = .returned (.bool true) ∧ Below w.heap.size w w' := by
  have kb := knb_fz hb
  refine calls_of_spec ((call5_ (F := fz (wm w)) (K := fun r M' => r = true ∧ Sub (wm w) M') (X := fun _ _ => False) (at_fz (wm w)) fun M' h' => ⟨rfl, fz_sub h'⟩).mono ?_ (fun _ _ h => h))
  rintro v M' ⟨r, g1, g2, g3⟩
  exact ⟨by rw [g1, g2], g3⟩

theorem par5 : ∀ t ∈ Tryz.f5.params.toList, Tryz.prog.readableRec t = true ∧ t < Tryz.prog.types.size := by
  rw [Tryz.params5]
  intro t ht
  simp at ht
  rcases ht with rfl | rfl
  · exact ⟨by kernel_rfl, of_decide_eq_true (by kernel_rfl)⟩
  · exact ⟨by kernel_rfl, of_decide_eq_true (by kernel_rfl)⟩
set_option maxRecDepth 100000 in
theorem casNobody_lifted (os : Os) (started : os.Started) (H : Type) (enc : TypeId × Value → H) :
    ReturnsInHanded {} Tryz.checked os 5 .any (Rows.casNobodySpec.pre6 enc Tryz.prog Tryz.f5 Rows.casNobodyRow.domain false) (Rows.casNobodySpec.post enc Tryz.prog Tryz.f5 false true false false) := by
  refine returnsInHanded_of_change (C := Tryz.checked) own_ started (by kernel_rfl) Tryz.func5
    (ChangeSpec.witness6 (enc := enc) (C := Tryz.checked) false ⟨#[], #[.int .i64 0, .slice none 0 0], []⟩ 8 (by kernel_rfl) (by kernel_rfl) (by kernel_rfl) (by kernel_rfl)) ?_
  intro W base args ds gs before hval0 hW _ _
  have hval : ∀ (j : Nat) t v, Tryz.f5.params[j]? = some t → args[j]? = some v → Value.okWide Tryz.prog W .any base t v := hval0
  clear hval0
  have hW' := hW
  obtain ⟨p, q, hA0, hV, rfl, hfz, hnd⟩ := hW
  have hA : DataW.TrodAll enc Tryz.prog W 0 (fun _ => true) true Tryz.f5.params.toList args.toList ds p := hA0
  clear hA0
  rw [Tryz.params5] at hA hval
  obtain ⟨v0, v1, d0, d1, p0, p1, rfl, rfl, rfl, h0, h1⟩ := trodAll_two hA
  obtain ⟨rfl, rfl⟩ := trodVars_none hV
  obtain ⟨a0, rfl, rfl, rfl, w0⟩ := open_int Tryz.underlying3 (hval 0 3 v0 rfl rfl) h0
  obtain ⟨s, key, rfl, hb⟩ := bytes_in Tryz.underlying32 Tryz.underlying5 (by kernel_rfl) (hval 1 32 v1 rfl rfl) h1
  refine (calls5 W a0 s key hb).mono fun e W' ⟨he, hB⟩ => ?_
  subst he
  exact ⟨_, rfl, post_true laidOut_ hW' rfl hB Tryz.underlying4 rfl rfl par5⟩

theorem nam5 : Tryz.pinned.checked.prog.funcNamed Rows.casNobodyRow.func = some 5 := by kernel_rfl
end Go.Proofs.YtdndpmlapcbjaaaGreat

/- Parts of the proof: Rows: what is handed in as things to do. CasTurned answers true for every row of things to do, every place and every mask, and leaves all that there was as it was; no condition. -/
import Derived.Test.YtdndpmlapcbjaaaGreatTI
import Derived.Test.YtdndpmlapcbjaaaGreatTH
import Derived.Deep.Strs
import Derived.OpenShut
import Derived.Test.YtdndpmlapcbjaaaGreatTJ
namespace Go.Proofs.YtdndpmlapcbjaaaGreat
open Go Go.ChangeShapes Go.WideShapes Go.ChangeAt Go.RowKit Go.Deep
set_option linter.unusedVariables false
set_option linter.unusedSimpArgs false

instance : Inhabited OpM := ⟨⟨0, ⟨none, 0, 0⟩, [], ⟨none, 0, 0⟩, []⟩⟩
theorem cel_wm {w : World} {b off : Nat} {v : Value} (h : w.cell? ⟨b, off, none⟩ = some v) : cel (wm w) (b, off) = some v := by
  simp only [World.cell?] at h
  simp only [cel, wm]
  split at h
  · rename_i c hcc
    rw [hcc]
    simpa using h
  · cases h
/-- What the types are. -/
structure OpTy (P : Program) (tl t ta tu tb te : TypeId) (f0 f1 f2 : Field) : Prop where
  ul : P.underlying tl = some (.slice t)
  ut : P.underlying t = some (.struct #[f0, f1, f2])
  ua : P.underlying ta = some (.array 2 tu)
  uu : P.underlying tu = some (.int .u64)
  ub : P.underlying tb = some (.slice te)
  ue : P.underlying te = some (.int .u8)
  ce : P.cellsOf te = 1
  cu : P.cellsOf tu = 1
  cb : P.cellsOf tb = 1
  ct : P.cellsOf t = 3
  ca : P.cellsOf ta = 2
  g0 : f0.type = tu ∧ f0.offset = 0
  g1 : f1.type = tb ∧ f1.offset = 1
  g2 : f2.type = tb ∧ f2.offset = 2
section
variable {P : Program} {tl t ta tu tb te : TypeId} {f0 f1 f2 : Field} (T : OpTy P tl t ta tu tb te f0 f1 f2)
include T
theorem op_cells {H : Type} {enc : TypeId × Value → H} {W : World} {fuel : Nat} {cs : List Value} {x : DataW H × List MemPlace} (h : DataW.trod enc P W 0 (fun _ => true) true fuel t cs = some x) :
    ∃ o : OpM, cs = [.int .u64 o.kind, Sl.v o.ks, Sl.v o.as_] ∧ BS (wm W) o.ks o.k ∧ BS (wm W) o.as_ o.a := by
  obtain ⟨y0, y1, y2, n, _, hl, t0, t1, t2⟩ := trod_struct3 T.ut h
  rw [T.ct] at hl
  match cs, hl with
  | [v0, v1, v2], _ =>
    rw [T.g0.1, T.g0.2] at t0
    rw [T.g1.1, T.g1.2] at t1
    rw [T.g2.1, T.g2.2] at t2
    simp only [T.cu, T.cb, List.drop_zero, List.drop_succ_cons, List.take_succ_cons, List.take_zero] at t0 t1 t2
    obtain ⟨k, hk, _, _⟩ := DataW.trod_int T.uu t0
    obtain ⟨s1, l1, e1, b1⟩ := bytes_cells T.ub T.ue T.ce t1
    obtain ⟨s2, l2, e2, b2⟩ := bytes_cells T.ub T.ue T.ce t2
    simp at hk
    exact ⟨⟨k, s1, l1, s2, l2⟩, by rw [hk, e1, e2], b1, b2⟩
theorem ops_in {H : Type} {enc : TypeId × Value → H} {W : World} {base : Nat} {v : Value} {d : DataW H} {p : List MemPlace} (hval : Value.okWide P W .any base tl v) (h : DataW.Trod enc P W 0 (fun _ => true) true tl v d p) :
    ∃ (s : Sl) (l : List OpM), v = Sl.v s ∧ OpsIn (wm W) s l := by
  obtain ⟨fuel, hf⟩ := h
  obtain ⟨a0, len0, cap0, rfl⟩ := okWide_slice T.ul hval
  rcases open_slice T.ul hf with ⟨hcs, _⟩ | ⟨a, len, cap, m, n, D, Pl, hcs, _, hl, hm, hmm, _, hx⟩
  · simp [Value.cells] at hcs
    obtain ⟨rfl, rfl, rfl⟩ := hcs
    exact ⟨⟨none, 0, 0⟩, [], rfl, rfl, rfl, Nat.le_refl _, by decide, fun o ho => by cases ho⟩
  · simp [Value.cells] at hcs
    obtain ⟨rfl, rfl, rfl⟩ := hcs
    simp only [if_true] at hmm
    subst hmm
    have hcap' : m ≤ 9223372036854775807 := by
      have : maxLen = 9223372036854775807 := by decide
      omega
    by_cases h0 : m = 0
    · subst h0
      have hl0 : len0 = 0 := by omega
      subst hl0
      obtain ⟨p, hp⟩ := dec_onto a
      refine ⟨⟨some p, 0, 0⟩, [], by simp only [Sl.v, adr_zero, hp], ?_, rfl, Nat.le_refl _, Nat.zero_le _, fun o ho => by cases ho⟩
      intro j w hw
      cases hw
    · rw [T.ct] at hx
      have each : ∀ i, i < m → ∃ o : OpM, (∀ r v, [Value.int .u64 o.kind, Sl.v o.ks, Sl.v o.as_][r]? = some v → W.cell? ((a.add (i * 3)).add r) = some v) ∧ BS (wm W) o.ks o.k ∧ BS (wm W) o.as_ o.a := by
        intro i hi
        obtain ⟨cs', h1, h2⟩ := hx i hi
        obtain ⟨o, ho, b1, b2⟩ := op_cells T h2
        obtain ⟨_, hlen, hcell⟩ := World.cells?_some h1
        refine ⟨o, fun r v hr => ?_, b1, b2⟩
        rw [← ho] at hr
        rw [hcell r (by have := (List.getElem?_eq_some_iff.1 hr).1; omega), hr]
      have hc0 := (each 0 (by omega)).choose_spec.1 0 _ rfl
      obtain ⟨b, off, spot⟩ := a
      have hspot : spot = none := by simpa [Addr.add] using World.cell?_spot hc0
      subst hspot
      obtain ⟨q, hq⟩ := choose_lt each
      refine ⟨⟨some (b, off), len0, m⟩, (List.range len0).map q, by simp only [Sl.v, adr_c _ h0], ?_, by simp, hl, hcap', ?_⟩
      · intro j v hv
        have hj : j < 3 * len0 := by
          have := (List.getElem?_eq_some_iff.1 hv).1
          rw [ocells_len] at this
          simpa using this
        have hi : j / 3 < len0 := by omega
        obtain ⟨e0, e1, e2⟩ := ocells_at (l := (List.range len0).map q) (i := j / 3) (o := q (j / 3)) (by simp [hi])
        have hjr : j = j / 3 * 3 + j % 3 := by omega
        have hc := (hq (j / 3) (by omega)).1
        have hr : j % 3 = 0 ∨ j % 3 = 1 ∨ j % 3 = 2 := by omega
        have key : ∀ r w, (ocells ((List.range len0).map q))[j / 3 * 3 + r]? = some w → [Value.int .u64 (q (j / 3)).kind, Sl.v (q (j / 3)).ks, Sl.v (q (j / 3)).as_][r]? = some w → j % 3 = r → cel (wm W) (b, off + j) = some v := by
          intro r w g1 g2 g3
          rw [hjr, g3, g1] at hv
          cases hv
          have := hc r _ g2
          rw [add_pa, add_pa] at this
          have e : off + j = off + j / 3 * 3 + r := by omega
          rw [e]
          exact cel_wm this
        rcases hr with h | h | h
        · exact key 0 _ e0 rfl h
        · exact key 1 _ e1 rfl h
        · exact key 2 _ e2 rfl h
      · intro o ho
        obtain ⟨i, hi, rfl⟩ := List.mem_map.1 ho
        exact (hq i (by have := List.mem_range.1 hi; omega)).2
theorem pair_in {H : Type} {enc : TypeId × Value → H} {W : World} {base : Nat} {v : Value} {d : DataW H} {p : List MemPlace} (hval : Value.okWide P W .any base ta v) (h : DataW.Trod enc P W 0 (fun _ => true) true ta v d p) :
    ∃ w0 w1 : Int, v = .agg #[.int .u64 w0, .int .u64 w1] ∧ 0 ≤ w0 ∧ 0 ≤ w1 := by
  obtain ⟨fuel, hf⟩ := h
  unfold Value.okWide at hval
  rw [T.ua] at hval
  obtain ⟨cs, rfl, hsz, _⟩ := hval
  rw [T.ca] at hsz
  obtain ⟨xs, n, _, _, _, hlen, hfe⟩ := DataW.trod_array T.ua hf
  obtain ⟨c0, c1, rfl⟩ : ∃ c0 c1, cs = #[c0, c1] := by
    obtain ⟨l⟩ := cs
    match l, hsz with
    | [c0, c1], _ => exact ⟨c0, c1, rfl⟩
  match xs, hlen with
  | [x0, x1], _ =>
    have g0 := hfe 0 (by decide)
    have g1 := hfe 1 (by decide)
    simp [Value.cells, T.cu] at g0 g1
    obtain ⟨k0, h0, _, z0⟩ := DataW.trod_int T.uu g0
    obtain ⟨k1, h1, _, z1⟩ := DataW.trod_int T.uu g1
    simp at h0 h1
    refine ⟨k0, k1, by rw [h0, h1], ?_, ?_⟩
    · have : 0 ≤ k0 ∧ k0 ≤ 18446744073709551615 := by simpa [Lit.wf, IntKind.min, IntKind.max, IntKind.signed, IntKind.bits] using z0
      exact this.1
    · have : 0 ≤ k1 ∧ k1 ≤ 18446744073709551615 := by simpa [Lit.wf, IntKind.min, IntKind.max, IntKind.signed, IntKind.bits] using z1
      exact this.1
end
theorem byte_u8 {a : Int} (h : (Lit.int .u8 a).wf = true) : ∃ m : UInt8, a = (m.toNat : Int) := by
  have hr : 0 ≤ a ∧ a ≤ 255 := by simpa [Lit.wf, IntKind.min, IntKind.max, IntKind.signed, IntKind.bits] using h
  refine ⟨u8 a, ?_⟩
  have h1 : (((u8 a).toNat : Nat) : Int) = IntKind.wrap .u8 a := (u8_val _).symm
  rw [h1]
  simp [IntKind.wrap, IntKind.bits, IntKind.signed]; omega
theorem opTy : OpTy Tryz.prog 22 34 24 23 32 5 ⟨"Kind", 23, 0, false, "", "", 0⟩ ⟨"Key", 32, 1, false, "", "", 8⟩ ⟨"Art", 32, 2, false, "", "", 32⟩ where
  ul := Tryz.underlying22
  ut := Tryz.underlying34
  ua := Tryz.underlying24
  uu := Tryz.underlying23
  ub := Tryz.underlying32
  ue := Tryz.underlying5
  ce := by kernel_rfl
  cu := by kernel_rfl
  cb := by kernel_rfl
  ct := by kernel_rfl
  ca := by kernel_rfl
  g0 := ⟨rfl, rfl⟩
  g1 := ⟨rfl, rfl⟩
  g2 := ⟨rfl, rfl⟩
end Go.Proofs.YtdndpmlapcbjaaaGreat

namespace Go.Proofs.YtdndpmlapcbjaaaGreat
open Go Go.ChangeShapes Go.WideShapes Go.ChangeAt Go.RowKit
set_option linter.unusedVariables false

theorem calls3 (w : World) (s : Sl) (l : List OpM) (w0 w1 : Int) (m : UInt8) (h : OpsIn (wm w) s l) (h0 : 0 ≤ w0) (h1 : 0 ≤ w1) :
    Calls Tryz.prog 3 #[Sl.v s, .agg #[.int .u64 w0, .int .u64 w1], .int .u8 m.toNat] w fun e w' => e = .returned (.bool true) ∧ Below w.heap.size w w' := by
  refine calls_of_spec ((call3_ (F := fz (wm w)) (K := fun r M' => r = true ∧ Sub (wm w) M') (X := fun _ _ => False) (at_fz (wm w)) (fun M' hM => h.sub (fz_sub hM)) h0 h1 fun M' h' => ⟨rfl, fz_sub h'⟩).mono ?_ (fun _ _ h => h))
  rintro v M' ⟨r, g1, g2, g3⟩
  exact ⟨by rw [g1, g2], g3⟩

theorem par3 : ∀ t ∈ Tryz.f3.params.toList, Tryz.prog.readableRec t = true ∧ t < Tryz.prog.types.size := by
  rw [Tryz.params3]
  intro t ht
  simp at ht
  rcases ht with rfl | rfl | rfl
  · exact ⟨by kernel_rfl, of_decide_eq_true (by kernel_rfl)⟩
  · exact ⟨by kernel_rfl, of_decide_eq_true (by kernel_rfl)⟩
  · exact ⟨by kernel_rfl, of_decide_eq_true (by kernel_rfl)⟩
set_option maxRecDepth 100000 in
theorem casTurned_lifted (os : Os) (started : os.Started) (H : Type) (enc : TypeId × Value → H) :
    ReturnsInHanded {} Tryz.checked os 3 .any (Rows.casTurnedSpec.pre6 enc Tryz.prog Tryz.f3 Rows.casTurnedRow.domain false) (Rows.casTurnedSpec.post enc Tryz.prog Tryz.f3 false true false false) := by
  refine returnsInHanded_of_change (C := Tryz.checked) own_ started (by kernel_rfl) Tryz.func3
    (ChangeSpec.witness6 (enc := enc) (C := Tryz.checked) false ⟨#[], #[.slice none 0 0, .agg #[.int .u64 0, .int .u64 0], .int .u8 0], []⟩ 8 (by kernel_rfl) (by kernel_rfl) (by kernel_rfl) (by kernel_rfl)) ?_
  intro W base args ds gs before hval0 hW _ _
  have hval : ∀ (j : Nat) t v, Tryz.f3.params[j]? = some t → args[j]? = some v → Value.okWide Tryz.prog W .any base t v := hval0
  clear hval0
  have hW' := hW
  obtain ⟨p, q, hA0, hV, rfl, hfz, hnd⟩ := hW
  have hA : DataW.TrodAll enc Tryz.prog W 0 (fun _ => true) true Tryz.f3.params.toList args.toList ds p := hA0
  clear hA0
  rw [Tryz.params3] at hA hval
  obtain ⟨v0, v1, v2, d0, d1, d2, p0, p1, p2, rfl, rfl, rfl, h0, h1, h2⟩ := trodAll_three hA
  obtain ⟨rfl, rfl⟩ := trodVars_none hV
  obtain ⟨s, l, rfl, ho⟩ := ops_in opTy (hval 0 22 v0 rfl rfl) h0
  obtain ⟨w0, w1, rfl, z0, z1⟩ := pair_in opTy (hval 1 24 v1 rfl rfl) h1
  obtain ⟨a, rfl, rfl, rfl, hwf⟩ := open_int Tryz.underlying5 (hval 2 5 v2 rfl rfl) h2
  obtain ⟨m, rfl⟩ := byte_u8 hwf
  refine (calls3 W s l w0 w1 m ho z0 z1).mono fun e W' ⟨he, hB⟩ => ?_
  subst he
  exact ⟨_, rfl, post_true laidOut_ hW' rfl hB Tryz.underlying4 rfl rfl par3⟩

theorem nam3 : Tryz.pinned.checked.prog.funcNamed Rows.casTurnedRow.func = some 3 := by kernel_rfl
end Go.Proofs.YtdndpmlapcbjaaaGreat

/- Rows, part a: from a call's contract to a row. -/
import Derived.Test.YtdndpmlapcbjaaaGreatRows
import Derived.Test.YtdndpmlapcbjaaaGreatXH
import Derived.WalkKit
import Derived.ProofKit
import Derived.OpenShut
import Derived.JoinedCond
import Derived.Carry
namespace Go.Proofs.YtdndpmlapcbjaaaGreat
open Go Go.ChangeShapes Go.WideShapes Go.ChangeAt Go.RowKit
set_option linter.unusedVariables false
set_option linter.unusedSimpArgs false

/-- What a world holds. -/
def wm (w : World) : Mem := fun b => w.heap[b]?
theorem sat_wm (w : World) : Sat w (wm w) := fun _ _ h => h
/-- A call that answers true, and leaves all that there was. -/
theorem calls_of_spec {f : Nat} {args : Array Value} {w : World} (h : Spec Tryz.prog f args (wm w) (fun v M' => v = .bool true ∧ Sub (wm w) M') (fun _ _ => False)) :
    Calls Tryz.prog f args w fun e w' => e = .returned (.bool true) ∧ Below w.heap.size w w' := by
  refine (h w (sat_wm w)).mono fun e w' hl => ?_
  cases e with
  | returned v =>
    obtain ⟨M', g1, g2, g3, g4⟩ := hl
    refine ⟨by rw [g3], g2.os, g2.tape, g2.output, g2.size, fun k hk => ?_⟩
    have hk2 : w.heap[k]? = some w.heap[k] := Array.getElem?_eq_getElem hk
    rw [hk2]
    exact g1 k _ (g4 k _ hk2)
  | panicked ch => obtain ⟨_, _, _, h⟩ := hl; exact h.elim
  | outgrown => exact hl.elim

theorem laidOut_ : laidOutB Tryz.prog = true := by kernel_rfl
theorem own_ : ownKnob Tryz.prog.godebug = none := by kernel_rfl

section
variable {P : Program} {H : Type} {enc : TypeId × Value → H}
theorem trodAll_stays (laidOut_ : laidOutB P = true) {W W' : World} {sp : Nat → Bool} (hb : Below W.heap.size W W') : ∀ {ts : List TypeId} {vs : List Value} {ds : List (DataW H)} {ps : List MemPlace}, DataW.TrodAll enc P W 0 (fun _ => true) true ts vs ds ps →
    (∀ t ∈ ts, P.readableRec t = true ∧ t < P.types.size) → (∀ x ∈ ps, x.block < W.heap.size) → (∀ x ∈ ps, sp x.block = true) → DataW.TrodAll enc P W' 0 sp true ts vs ds ps
  | [], [], [], _, h, _, _, _ => h
  | t :: ts, v :: vs, d :: ds, _, h, ht, hlt, hsp => by
    obtain ⟨p, q, h1, h2, rfl⟩ := h
    obtain ⟨r1, r2⟩ := ht t (List.mem_cons_self ..)
    exact ⟨p, q, WideElems.Trod_stays laidOut_ r1 r2 h1 (fun x hx => hb.same (hlt x (List.mem_append_left _ hx))) (fun x hx => hsp x (List.mem_append_left _ hx)),
      trodAll_stays laidOut_ hb h2 (fun t ht' => ht t (List.mem_cons_of_mem _ ht')) (fun x hx => hlt x (List.mem_append_right _ hx)) (fun x hx => hsp x (List.mem_append_right _ hx)), rfl⟩
  | [], _ :: _, _, _, h, _, _, _ => by simp [DataW.TrodAll] at h
  | [], [], _ :: _, _, h, _, _, _ => by simp [DataW.TrodAll] at h
  | _ :: _, [], _, _, h, _, _, _ => by simp [DataW.TrodAll] at h
  | _ :: _, _ :: _, [], _, h, _, _, _ => by simp [DataW.TrodAll] at h

/-- What a row asks behind a call that answers true and leaves all that there was. -/
theorem post_true (laidOut_ : laidOutB P = true) {f : Func} {s : ChangeSpec} {apart fresh handsOn again : Bool} {W W' : World} {args : Array Value} {ds gs : List (DataW H)} {before : List MemPlace} {tb : TypeId}
    (hW : DataW.Whole enc P f.params.toList s.vars apart W args.toList ds gs before) (hvars : s.vars = []) (hB : Below W.heap.size W W') (htb : P.underlying tb = some .bool) (hr : f.resultTypes = #[tb])
    (hs : (s.fn H (ds ++ gs)) = { results := [.lit (.bool true)], args := ds }) (ht : ∀ t ∈ f.params.toList, P.readableRec t = true ∧ t < P.types.size) :
    s.post enc P f apart fresh handsOn again W args (.bool true) W' := by
  have hlt : ∀ p ∈ before, p.block < W.heap.size := fun p hp => hW.lt p hp
  have hW' := hW
  obtain ⟨p, q, hA, hV, rfl, hz, hn⟩ := hW
  rw [hvars] at hV
  obtain ⟨rfl, rfl⟩ := trodVars_none hV
  simp only [List.append_nil] at hlt hW' hz hn hs
  have hres : ∀ (b : Nat) (sp : Nat → Bool) (hd : Bool), DataW.TrodAll enc P W' b sp hd f.resultTypes.toList ((Value.bool true).resultList f.resultTypes.size) [.lit (.bool true)] [] := by
    intro b sp hd
    rw [hr]
    exact trodAll_cons_mk (shut_bool htb true) trodAll_mk0
  have hargs : ∀ sp : Nat → Bool, (∀ x ∈ p, sp x.block = true) → DataW.TrodAll enc P W' 0 sp true f.params.toList args.toList ds p := fun sp hsp => trodAll_stays laidOut_ hB hA ht hlt hsp
  have hold : ∀ x ∈ p, (fun b => decide (b < W.heap.size)) x.block = true := fun x hx => by simpa using hlt x hx
  have e1 : (s.fn H (ds ++ [])).results = [.lit (.bool true)] := by rw [List.append_nil, hs]
  have e2 : (s.fn H (ds ++ [])).args = ds := by rw [List.append_nil, hs]
  have e3 : (s.fn H (ds ++ [])).vars = [] := by rw [List.append_nil, hs]
  have v0 : ∀ sp : Nat → Bool, DataW.TrodVars enc P W' sp s.vars [] [] := fun sp => by rw [hvars]; rfl
  refine ⟨ds, [], p, [], p, [], hW', by rw [e1]; exact hres _ _ _, by rw [e2]; exact hargs _ hold, by rw [e3]; exact v0 _, hB.frame _, fun _ => ?_⟩
  refine ⟨?_, _, _, ([] ++ p) ++ [], ⟨[] ++ p, [], trodAll_append (hargs _ (fun _ _ => rfl)) (hres _ _ _), v0 _, rfl, ?_, ?_⟩, ?_⟩
  · exact ok_one hr rfl (okWide_bool_mk htb true)
  · intro b off hp
    have hp' : MemPlace.cell b off ∈ p := by simpa using hp
    rw [hB.frozen (hlt _ hp')]
    exact hz b off hp'
  · intro ha
    simpa using hn ha
  · intro x hx _
    simpa using hx
end
/-- A slice of bytes, as it is handed in. -/
theorem bytes_in {P : Program} {H : Type} {enc : TypeId × Value → H} {W : World} {base : Nat} {t e : TypeId} {v : Value} {d : DataW H} {p : List MemPlace} (ht : P.underlying t = some (.slice e)) (he : P.underlying e = some (.int .u8)) (hc : P.cellsOf e = 1)
    (hval : Value.okWide P W .any base t v) (h : DataW.Trod enc P W 0 (fun _ => true) true t v d p) : ∃ (s : Sl) (l : List UInt8), v = Sl.v s ∧ BS (wm W) s l := by
  obtain ⟨fuel, hf⟩ := h
  obtain ⟨a0, len0, cap0, rfl⟩ := okWide_slice ht hval
  rcases open_ints ht he hc hf with ⟨hcs, hx⟩ | ⟨a, len, cap, zs, hcs, _, hl, hm, hz, hx, hcell, hwz⟩
  · simp [Value.cells] at hcs
    obtain ⟨rfl, rfl, rfl⟩ := hcs
    exact ⟨⟨none, 0, 0⟩, [], rfl, BS.nil _⟩
  · simp [Value.cells] at hcs
    obtain ⟨rfl, rfl, rfl⟩ := hcs
    simp only [if_true] at hz
    simp only [Value.okWide, ht, Cell.okWide, Cell.ok] at hval
    obtain ⟨_, hcap, _, hspot, _⟩ := hval
    obtain ⟨b, off, spot⟩ := a
    simp only at hspot
    subst hspot
    have hcap' : cap0 ≤ 9223372036854775807 := by
      have : IntKind.i64.max = 9223372036854775807 := rfl
      rw [this] at hcap; omega
    refine ⟨⟨some (b, off), len0, cap0⟩, (zs.take len0).map u8, rfl, ?_, by simp; omega, hl, hcap'⟩
    intro j v hv
    have hj : j < len0 := by
      have := (List.getElem?_eq_some_iff.1 hv).1
      simp [cb] at this; omega
    have hjz : j < zs.length := by omega
    have hc1 := hcell j hjz
    rw [add_plain] at hc1
    have hw := hwz _ (List.getElem_mem hjz)
    have hrange : 0 ≤ zs[j] ∧ zs[j] ≤ 255 := by simpa [Lit.wf, IntKind.min, IntKind.max, IntKind.signed, IntKind.bits] using hw
    have e1 : zs.getD j 0 = zs[j] := by simp [List.getD, hjz]
    have e2 : ((u8 zs[j]).toNat : Int) = zs[j] := by
      have h1 : (((u8 zs[j]).toNat : Nat) : Int) = IntKind.wrap .u8 zs[j] := (u8_val _).symm
      have h2 : IntKind.wrap .u8 zs[j] = zs[j] := by
        simp [IntKind.wrap, IntKind.bits, IntKind.signed]; omega
      rw [h1, h2]
    have e3 : v = .int .u8 zs[j] := by
      simp [cb, hj, hjz] at hv
      rw [← hv, e2]
    rw [e3]
    rw [e1] at hc1
    unfold World.cell? at hc1
    simp only [cel, wm]
    cases hh : W.heap[b]? with
    | none => rw [hh] at hc1; simp at hc1
    | some o =>
      rw [hh] at hc1
      cases o <;> simp at hc1 ⊢
      exact hc1
end Go.Proofs.YtdndpmlapcbjaaaGreat

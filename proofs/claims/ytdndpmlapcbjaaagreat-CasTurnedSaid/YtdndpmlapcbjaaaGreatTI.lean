/- Parts of the proof: Sort, part a: the library's sort laid at []byte (the plain text of what the shelf's command writes). Rows, part a: from a call's contract to a row. Sort, part b: bytes.Compare in whatever world; an order. -/
import Derived.Test.YtdndpmlapcbjaaaGreatRows
import Derived.Shelf.SlSortCmp.Whole1
import Derived.Test.YtdndpmlapcbjaaaGreatTH
import Derived.WalkKit
import Derived.ProofKit
import Derived.OpenShut
import Derived.JoinedCond
import Derived.Carry
import Derived.Lib.BytesEntry
import Derived.Lib.Bytealg
namespace Go.Proofs
open Go.Shelf Go.RowKit Go.Lib Go.Sort
def YtdndpmlapcbjaaaGreat.sortB_ren : Go.Shelf.Ren := ⟨fun | 6 => 70 | 15 => 137 | 14 => 136 | 28 => 220 | 29 => 221 | 20 => 212 | 21 => 213 | 22 => 214 | 23 => 215 | 24 => 216 | 25 => 217 | 26 => 218 | 27 => 219 | 46 => 286 | 47 => 287 | 48 => 288 | 49 => 289 | 50 => 290 | 57 => 339 | n => n, fun | 22 => 55 | 24 => 32 | 25 => 144 | 3 => 3 | 39 => 23 | 0 => 0 | 53 => 301 | 55 => 307 | 4 => 4 | 46 => 312 | 45 => 311 | 50 => 228 | 5 => 5 | 9 => 9 | 66 => 381 | 70 => 236 | 76 => 415 | 77 => 416 | n => n, fun | n => n⟩
theorem YtdndpmlapcbjaaaGreat.sortB : Go.Proofs.SlLaysF.n6 Tryz.prog YtdndpmlapcbjaaaGreat.sortB_ren := {
  mixed := by kernel_rfl,
  f6 := ⟨Tryz.f70.name, by decide, Tryz.func70.trans (congrArg some (by kernel_rfl))⟩,
  f14 := ⟨Tryz.f136.name, by decide, Tryz.func136.trans (congrArg some (by kernel_rfl))⟩,
  f15 := Tryz.func137.trans (congrArg some (by kernel_rfl)),
  f20 := ⟨Tryz.f212.name, by decide, Tryz.func212.trans (congrArg some (by kernel_rfl))⟩,
  f21 := ⟨Tryz.f213.name, by decide, Tryz.func213.trans (congrArg some (by kernel_rfl))⟩,
  f22 := ⟨Tryz.f214.name, by decide, Tryz.func214.trans (congrArg some (by kernel_rfl))⟩,
  f23 := ⟨Tryz.f215.name, by decide, Tryz.func215.trans (congrArg some (by kernel_rfl))⟩,
  f24 := ⟨Tryz.f216.name, by decide, Tryz.func216.trans (congrArg some (by kernel_rfl))⟩,
  f25 := ⟨Tryz.f217.name, by decide, Tryz.func217.trans (congrArg some (by kernel_rfl))⟩,
  f26 := ⟨Tryz.f218.name, by decide, Tryz.func218.trans (congrArg some (by kernel_rfl))⟩,
  f27 := ⟨Tryz.f219.name, by decide, Tryz.func219.trans (congrArg some (by kernel_rfl))⟩,
  f28 := Tryz.func220.trans (congrArg some (by kernel_rfl)),
  f29 := Tryz.func221.trans (congrArg some (by kernel_rfl)),
  f46 := ⟨Tryz.f286.name, by decide, Tryz.func286.trans (congrArg some (by kernel_rfl))⟩,
  f47 := Tryz.func287.trans (congrArg some (by kernel_rfl)),
  f48 := Tryz.func288.trans (congrArg some (by kernel_rfl)),
  f49 := ⟨Tryz.f289.name, by decide, Tryz.func289.trans (congrArg some (by kernel_rfl))⟩,
  f50 := ⟨Tryz.f290.name, by decide, Tryz.func290.trans (congrArg some (by kernel_rfl))⟩,
  f57 := ⟨Tryz.f339.name, by decide, Tryz.func339.trans (congrArg some (by kernel_rfl))⟩,
  t0 := Tryz.underlying0,
  a0 := Tryz.isAgg0,
  z0 := Tryz.sizeOf0,
  v0 := Tryz.zeroValue0,
  t3 := Tryz.underlying3,
  a3 := Tryz.isAgg3,
  z3 := Tryz.sizeOf3,
  v3 := Tryz.zeroValue3,
  t4 := Tryz.underlying4,
  a4 := Tryz.isAgg4,
  z4 := Tryz.sizeOf4,
  v4 := Tryz.zeroValue4,
  t5 := Tryz.underlying5,
  a5 := Tryz.isAgg5,
  z5 := Tryz.sizeOf5,
  v5 := Tryz.zeroValue5,
  t9 := Tryz.underlying9,
  a9 := Tryz.isAgg9,
  z9 := Tryz.sizeOf9,
  v9 := Tryz.zeroValue9,
  t22 := Tryz.underlying55,
  a22 := Tryz.isAgg55,
  z22 := Tryz.sizeOf55,
  v22 := Tryz.zeroValue55,
  a24 := Tryz.isAgg32,
  z24 := Tryz.sizeOf32,
  t25 := Tryz.underlying144,
  a25 := Tryz.isAgg144,
  z25 := Tryz.sizeOf144,
  v25 := Tryz.zeroValue144,
  t39 := Tryz.underlying23,
  a39 := Tryz.isAgg23,
  z39 := Tryz.sizeOf23,
  v39 := Tryz.zeroValue23,
  t45 := Tryz.underlying311,
  a45 := Tryz.isAgg311,
  z45 := Tryz.sizeOf311,
  v45 := Tryz.zeroValue311,
  t46 := Tryz.underlying312,
  a46 := Tryz.isAgg312,
  z46 := Tryz.sizeOf312,
  v46 := Tryz.zeroValue312,
  t50 := Tryz.underlying228,
  a50 := Tryz.isAgg228,
  z50 := Tryz.sizeOf228,
  v50 := Tryz.zeroValue228,
  t53 := Tryz.underlying301,
  a53 := Tryz.isAgg301,
  z53 := Tryz.sizeOf301,
  v53 := Tryz.zeroValue301,
  t55 := Tryz.underlying307,
  a55 := Tryz.isAgg307,
  z55 := Tryz.sizeOf307,
  v55 := Tryz.zeroValue307,
  t66 := Tryz.underlying381,
  a66 := Tryz.isAgg381,
  z66 := Tryz.sizeOf381,
  v66 := Tryz.zeroValue381,
  t70 := Tryz.underlying236,
  a70 := Tryz.isAgg236,
  z70 := Tryz.sizeOf236,
  v70 := Tryz.zeroValue236,
  t76 := Tryz.underlying415,
  a76 := Tryz.isAgg415,
  z76 := Tryz.sizeOf415,
  v76 := Tryz.zeroValue415,
  t77 := Tryz.underlying416,
  a77 := Tryz.isAgg416,
  z77 := Tryz.sizeOf416,
  v77 := Tryz.zeroValue416 }
end Go.Proofs

namespace Go.Proofs.YtdndpmlapcbjaaaGreat
open Go Go.ChangeShapes Go.WideShapes Go.ChangeAt Go.RowKit
set_option linter.unusedVariables false
set_option linter.unusedSimpArgs false

/-- What a world holds. -/
def wm (w : World) : Mem := fun b => w.heap[b]?
theorem sat_wm (w : World) : Sat w (wm w) := fun _ _ h => h
/-- A call that answers true, and leaves all that there was. -/
theorem calls_of_spec {f : Nat} {args : Array Value} {w : World} (h : Spec Tryz.prog f args (wm w) (fun v M' => v = .bool true ∧ Sub (wm w) M') (fun _ _ => False)) :
    Calls Tryz.prog f args w fun e w' => e = .returned (.bool true) ∧ Below w.heap.size w w' := by
  refine (h w (sat_wm w)).mono fun e w' hl => ?_
  cases e with
  | returned v =>
    obtain ⟨M', g1, g2, g3, g4⟩ := hl
    refine ⟨by rw [g3], g2.os, g2.tape, g2.output, g2.size, fun k hk => ?_⟩
    have hk2 : w.heap[k]? = some w.heap[k] := Array.getElem?_eq_getElem hk
    rw [hk2]
    exact g1 k _ (g4 k _ hk2)
  | panicked ch => obtain ⟨_, _, _, h⟩ := hl; exact h.elim
  | outgrown => exact hl.elim

theorem laidOut_ : laidOutB Tryz.prog = true := by kernel_rfl
theorem own_ : ownKnob Tryz.prog.godebug = none := by kernel_rfl

section
variable {P : Program} {H : Type} {enc : TypeId × Value → H}
theorem trodAll_stays (laidOut_ : laidOutB P = true) {W W' : World} {sp : Nat → Bool} (hb : Below W.heap.size W W') : ∀ {ts : List TypeId} {vs : List Value} {ds : List (DataW H)} {ps : List MemPlace}, DataW.TrodAll enc P W 0 (fun _ => true) true ts vs ds ps →
    (∀ t ∈ ts, P.readableRec t = true ∧ t < P.types.size) → (∀ x ∈ ps, x.block < W.heap.size) → (∀ x ∈ ps, sp x.block = true) → DataW.TrodAll enc P W' 0 sp true ts vs ds ps
  | [], [], [], _, h, _, _, _ => h
  | t :: ts, v :: vs, d :: ds, _, h, ht, hlt, hsp => by
    obtain ⟨p, q, h1, h2, rfl⟩ := h
    obtain ⟨r1, r2⟩ := ht t (List.mem_cons_self ..)
    exact ⟨p, q, WideElems.Trod_stays laidOut_ r1 r2 h1 (fun x hx => hb.same (hlt x (List.mem_append_left _ hx))) (fun x hx => hsp x (List.mem_append_left _ hx)),
      trodAll_stays laidOut_ hb h2 (fun t ht' => ht t (List.mem_cons_of_mem _ ht')) (fun x hx => hlt x (List.mem_append_right _ hx)) (fun x hx => hsp x (List.mem_append_right _ hx)), rfl⟩
  | [], _ :: _, _, _, h, _, _, _ => by simp [DataW.TrodAll] at h
  | [], [], _ :: _, _, h, _, _, _ => by simp [DataW.TrodAll] at h
  | _ :: _, [], _, _, h, _, _, _ => by simp [DataW.TrodAll] at h
  | _ :: _, _ :: _, [], _, h, _, _, _ => by simp [DataW.TrodAll] at h

/-- What a row asks behind a call that answers true and leaves all that there was. -/
theorem post_true (laidOut_ : laidOutB P = true) {f : Func} {s : ChangeSpec} {apart fresh handsOn again : Bool} {W W' : World} {args : Array Value} {ds gs : List (DataW H)} {before : List MemPlace} {tb : TypeId}
    (hW : DataW.Whole enc P f.params.toList s.vars apart W args.toList ds gs before) (hvars : s.vars = []) (hB : Below W.heap.size W W') (htb : P.underlying tb = some .bool) (hr : f.resultTypes = #[tb])
    (hs : (s.fn H (ds ++ gs)) = { results := [.lit (.bool true)], args := ds }) (ht : ∀ t ∈ f.params.toList, P.readableRec t = true ∧ t < P.types.size) :
    s.post enc P f apart fresh handsOn again W args (.bool true) W' := by
  have hlt : ∀ p ∈ before, p.block < W.heap.size := fun p hp => hW.lt p hp
  have hW' := hW
  obtain ⟨p, q, hA, hV, rfl, hz, hn⟩ := hW
  rw [hvars] at hV
  obtain ⟨rfl, rfl⟩ := trodVars_none hV
  simp only [List.append_nil] at hlt hW' hz hn hs
  have hres : ∀ (b : Nat) (sp : Nat → Bool) (hd : Bool), DataW.TrodAll enc P W' b sp hd f.resultTypes.toList ((Value.bool true).resultList f.resultTypes.size) [.lit (.bool true)] [] := by
    intro b sp hd
    rw [hr]
    exact trodAll_cons_mk (shut_bool htb true) trodAll_mk0
  have hargs : ∀ sp : Nat → Bool, (∀ x ∈ p, sp x.block = true) → DataW.TrodAll enc P W' 0 sp true f.params.toList args.toList ds p := fun sp hsp => trodAll_stays laidOut_ hB hA ht hlt hsp
  have hold : ∀ x ∈ p, (fun b => decide (b < W.heap.size)) x.block = true := fun x hx => by simpa using hlt x hx
  have e1 : (s.fn H (ds ++ [])).results = [.lit (.bool true)] := by rw [List.append_nil, hs]
  have e2 : (s.fn H (ds ++ [])).args = ds := by rw [List.append_nil, hs]
  have e3 : (s.fn H (ds ++ [])).vars = [] := by rw [List.append_nil, hs]
  have v0 : ∀ sp : Nat → Bool, DataW.TrodVars enc P W' sp s.vars [] [] := fun sp => by rw [hvars]; rfl
  refine ⟨ds, [], p, [], p, [], hW', by rw [e1]; exact hres _ _ _, by rw [e2]; exact hargs _ hold, by rw [e3]; exact v0 _, hB.frame _, fun _ => ?_⟩
  refine ⟨?_, _, _, ([] ++ p) ++ [], ⟨[] ++ p, [], trodAll_append (hargs _ (fun _ _ => rfl)) (hres _ _ _), v0 _, rfl, ?_, ?_⟩, ?_⟩
  · exact ok_one hr rfl (okWide_bool_mk htb true)
  · intro b off hp
    have hp' : MemPlace.cell b off ∈ p := by simpa using hp
    rw [hB.frozen (hlt _ hp')]
    exact hz b off hp'
  · intro ha
    simpa using hn ha
  · intro x hx _
    simpa using hx
end
/-- A slice of bytes, as it is read: an empty one of no room may bear whatever address. -/
theorem bytes_cells {P : Program} {H : Type} {enc : TypeId × Value → H} {W : World} {t e : TypeId} {fuel : Nat} {v : Value} {x : DataW H × List MemPlace} (ht : P.underlying t = some (.slice e)) (he : P.underlying e = some (.int .u8)) (hc : P.cellsOf e = 1)
    (hf : DataW.trod enc P W 0 (fun _ => true) true fuel t [v] = some x) : ∃ (s : Sl) (l : List UInt8), v = Sl.v s ∧ BS (wm W) s l := by
  rcases open_ints ht he hc hf with ⟨hcs, hx⟩ | ⟨a, len, cap, zs, hcs, _, hl, hm, hz, hx, hcell, hwz⟩
  · simp at hcs
    subst hcs
    exact ⟨⟨none, 0, 0⟩, [], rfl, BS.nil _⟩
  · simp at hcs
    subst hcs
    simp only [if_true] at hz
    by_cases h0 : cap = 0
    · subst h0
      have hl0 : len = 0 := by omega
      subst hl0
      obtain ⟨p, hp⟩ := dec_onto a
      refine ⟨⟨some p, 0, 0⟩, [], by simp only [Sl.v, adr_zero, hp], ?_, rfl, Nat.le_refl _, Nat.zero_le _⟩
      intro j w hw
      cases hw
    · have hc0 := hcell 0 (by omega)
      obtain ⟨b, off, spot⟩ := a
      have hspot : spot = none := by simpa [Addr.add] using World.cell?_spot hc0
      subst hspot
      have hcap' : cap ≤ 9223372036854775807 := by
        have : maxLen = 9223372036854775807 := by decide
        omega
      refine ⟨⟨some (b, off), len, cap⟩, (zs.take len).map u8, by simp only [Sl.v, adr_c _ h0], ?_, by simp; omega, hl, hcap'⟩
      intro j v hv
      have hj : j < len := by
        have := (List.getElem?_eq_some_iff.1 hv).1
        simp [cb] at this; omega
      have hjz : j < zs.length := by omega
      have hc1 := hcell j hjz
      rw [add_plain] at hc1
      have hw := hwz _ (List.getElem_mem hjz)
      have hrange : 0 ≤ zs[j] ∧ zs[j] ≤ 255 := by simpa [Lit.wf, IntKind.min, IntKind.max, IntKind.signed, IntKind.bits] using hw
      have e1 : zs.getD j 0 = zs[j] := by simp [List.getD, hjz]
      have e2 : ((u8 zs[j]).toNat : Int) = zs[j] := by
        have h1 : (((u8 zs[j]).toNat : Nat) : Int) = IntKind.wrap .u8 zs[j] := (u8_val _).symm
        have h2 : IntKind.wrap .u8 zs[j] = zs[j] := by
          simp [IntKind.wrap, IntKind.bits, IntKind.signed]; omega
        rw [h1, h2]
      have e3 : v = .int .u8 zs[j] := by
        simp [cb, hj, hjz] at hv
        rw [← hv, e2]
      rw [e3, ← e1]
      simp only [World.cell?] at hc1
      simp only [cel, wm]
      split at hc1
      · rename_i c hcc
        rw [hcc]
        simpa using hc1
      · cases hc1
end Go.Proofs.YtdndpmlapcbjaaaGreat

namespace Go.Proofs.YtdndpmlapcbjaaaGreat
open Go Go.RowKit Go.Lib Go.Sort
set_option linter.unusedSimpArgs false
set_option linter.unusedVariables false

theorem run_bytesOf {W : World} {s : Sl} {l : List UInt8} (h : BS (wm W) s l) : (Extern.Bytes.bytesOf (Sl.v s)).run Tryz.prog W = .ok ⟨l.toArray⟩ W := by
  have hr := h.rd
  have hl := h.len
  obtain ⟨a, n, c⟩ := s
  cases a with
  | none =>
    have h0 : cb l = [] := hr
    have : l = [] := by simpa [cb] using h0
    subst this
    rfl
  | some p =>
    by_cases h0 : n = 0
    · subst h0
      have : l = [] := List.length_eq_zero_iff.1 hl.symm
      subst this
      rfl
    simp only [Sl.v, adr_n h0] at hl ⊢
    have := Lib.run_loadBytesX (P := Tryz.prog) (w := W) (l.map fun x => (x.toNat : Int)) ⟨p.1, p.2, none⟩ .empty (fun j x hx => by
      rw [List.getElem?_map] at hx
      obtain ⟨y, hy, rfl⟩ := Option.map_eq_some_iff.1 hx
      have h1 := hr j (.int .u8 y.toNat) (by simp [cb, hy])
      have e : (⟨p.1, p.2, none⟩ : Addr).add j = ⟨p.1, p.2 + j, none⟩ := by unfold Addr.add; split <;> simp_all
      rw [e]
      exact cel_sat (w := W) (M := wm W) (fun b o hb => hb) h1)
    rw [List.length_map, ← hl] at this
    show (Extern.Bytes.loadBytes ⟨p.1, p.2, none⟩ n .empty).run Tryz.prog W = _
    rw [this]
    have e : Lib.bytesOf (l.map fun x => (x.toNat : Int)) = l := by
      unfold Lib.bytesOf
      rw [List.map_map]
      conv => rhs; rw [← List.map_id l]
      refine List.map_congr_left fun x _ => ?_
      simp
    rw [e]
    congr 1
    simp
set_option maxHeartbeats 1000000 in
set_option maxRecDepth 100000 in
theorem cmp71 {W : World} {x y : Sl} {a b : List UInt8} (hx : BS (wm W) x a) (hy : BS (wm W) y b) : Calls Tryz.prog 71 #[Sl.v x, Sl.v y] W fun e w' => e = .returned (.int .i64 (Lib.compareBytes a b)) ∧ w' = W := by
  have hc : (Extern.BytealgCompare.compare #[Sl.v x, Sl.v y]).run Tryz.prog W = .ok (.int .i64 (Lib.compareBytes a b)) W := by
    change Sem.run Tryz.prog (do pure (goInt (Extern.BytealgCompare.cmp (← Extern.Bytes.bytesOf (Sl.v x)) (← Extern.Bytes.bytesOf (Sl.v y))))) W = _
    simp only [Sem.run_bind, Sem.run_pure, run_bytesOf hx, run_bytesOf hy, Result.andThen, Lib.cmp_eq]
    simp [goInt]
  obtain ⟨vx, hvx⟩ : ∃ v, Sl.v x = v := ⟨_, rfl⟩
  obtain ⟨vy, hvy⟩ : ∃ v, Sl.v y = v := ⟨_, rfl⟩
  rw [hvx, hvy] at hc ⊢
  generalize Lib.compareBytes a b = r at hc ⊢
  go_enter Tryz.func71, Tryz.ntmps71
  go_wp2
  rw [run_callFunc_extern Tryz.func138 (by kernel_rfl) (by kernel_rfl) (by kernel_rfl) (e := Extern.BytealgCompare.compare) (by kernel_rfl), hc]
  simp only [Result.andThen]
  rw [Oper.upon_value]
  go_wp2
  go_ret
  exact ⟨rfl, rfl⟩
end Go.Proofs.YtdndpmlapcbjaaaGreat

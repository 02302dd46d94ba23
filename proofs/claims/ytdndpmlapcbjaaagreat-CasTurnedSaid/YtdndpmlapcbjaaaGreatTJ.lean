/- Parts of the proof: Sort, part c: slices.SortFunc of rows of bytes by bytes.Compare. Sort, part d: slices.CompactFunc of what is apart; Keys; Len. Plain, part f: the store's keys. Assertions, part w: CasTurned. -/
import Derived.Test.YtdndpmlapcbjaaaGreatTI
import Derived.Test.YtdndpmlapcbjaaaGreatTH
namespace Go.Proofs.YtdndpmlapcbjaaaGreat
open Go Go.RowKit Go.Lib Go.Sort
set_option linter.unusedSimpArgs false
set_option linter.unusedVariables false

theorem cmp_self : ∀ a : List UInt8, compareBytes a a = 0 := by
  intro a
  induction a with
  | nil => rfl
  | cons x a ih => simp [compareBytes, UInt8.lt_irrefl, ih]
theorem cmp_zero : ∀ {a b : List UInt8}, compareBytes a b = 0 → a = b := by
  intro a
  induction a with
  | nil => intro b h; cases b with
    | nil => rfl
    | cons y b => simp [compareBytes] at h
  | cons x a ih =>
    intro b h
    cases b with
    | nil => simp [compareBytes] at h
    | cons y b =>
      unfold compareBytes at h
      split at h
      · simp at h
      · split at h
        · simp at h
        · rename_i h1 h2
          have : x = y := UInt8.le_antisymm (UInt8.not_lt.1 h2) (UInt8.not_lt.1 h1)
          rw [this, ih h]
theorem cmp_swap : ∀ a b : List UInt8, compareBytes b a = - compareBytes a b := by
  intro a
  induction a with
  | nil => intro b; cases b <;> rfl
  | cons x a ih =>
    intro b
    cases b with
    | nil => rfl
    | cons y b =>
      unfold compareBytes
      by_cases h1 : x < y
      · have h2 : ¬ y < x := fun h => UInt8.lt_irrefl _ (UInt8.lt_trans h h1)
        simp [h1, h2]
      · by_cases h2 : y < x
        · simp [h1, h2]
        · simp [h1, h2, ih]
theorem cmp_trans : ∀ {a b c : List UInt8}, compareBytes a b < 0 → compareBytes b c < 0 → compareBytes a c < 0 := by
  intro a
  induction a with
  | nil =>
    intro b c h1 h2
    cases c with
    | nil => cases b with
      | nil => exact h1
      | cons y b => simp [compareBytes] at h2
    | cons z c => simp [compareBytes]
  | cons x a ih =>
    intro b c h1 h2
    cases b with
    | nil => simp [compareBytes] at h1
    | cons y b =>
      cases c with
      | nil => simp [compareBytes] at h2
      | cons z c =>
        unfold compareBytes at h1 h2 ⊢
        by_cases hxy : x < y
        · by_cases hyz : y < z
          · simp [UInt8.lt_trans hxy hyz]
          · rw [if_neg hyz] at h2
            by_cases hzy : z < y
            · rw [if_pos hzy] at h2; simp at h2
            · have : y = z := UInt8.le_antisymm (UInt8.not_lt.1 hzy) (UInt8.not_lt.1 hyz)
              subst this
              simp [hxy]
        · rw [if_neg hxy] at h1
          by_cases hyx : y < x
          · rw [if_pos hyx] at h1; simp at h1
          · have : x = y := UInt8.le_antisymm (UInt8.not_lt.1 hyx) (UInt8.not_lt.1 hxy)
            subst this
            rw [if_neg hyx] at h1
            by_cases hyz : x < z
            · simp [hyz]
            · rw [if_neg hyz] at h2 ⊢
              by_cases hzy : z < x
              · rw [if_pos hzy] at h2; simp at h2
              · rw [if_neg hzy] at h2 ⊢
                exact ih h1 h2

/-- What is sorted: slices whose bytes are known in M. -/
structure KB (M : Mem) where
  s : Sl
  l : List UInt8
  ok : BS M s l
instance (M : Mem) : Inhabited (KB M) := ⟨⟨⟨none, 0, 0⟩, [], BS.nil M⟩⟩
def kcf {M : Mem} (x y : KB M) : Int := compareBytes x.l y.l
theorem kswo (M : Mem) : SWO (ltOf (kcf (M := M))) where
  irrefl x := by simp [ltOf, kcf, cmp_self]
  trans x y z h1 h2 := by
    exact decide_eq_true (cmp_trans (of_decide_eq_true h1) (of_decide_eq_true h2))
  ntrans x y z h1 h2 := by
    refine decide_eq_false fun h => ?_
    have h1 : ¬ compareBytes x.l y.l < 0 := of_decide_eq_false h1
    have h2 : ¬ compareBytes y.l z.l < 0 := of_decide_eq_false h2
    have h : compareBytes x.l z.l < 0 := h
    have s1 := cmp_swap x.l y.l
    have s2 := cmp_swap y.l z.l
    by_cases e : compareBytes x.l y.l = 0
    · rw [cmp_zero e] at h; exact h2 h
    · by_cases e2 : compareBytes y.l z.l = 0
      · rw [← cmp_zero e2] at h; exact h1 h
      · have := cmp_trans (a := z.l) (b := y.l) (c := x.l) (by omega) (by omega)
        have s3 := cmp_swap x.l z.l
        omega
abbrev kvs (ks : List (Sl × List UInt8)) : List Value := ks.map fun x => Sl.v x.1

theorem sortW_heap {α : Type} [Inhabited α] {enc : α → Value} {w : World} {b m : Nat} {d : Array α} {os : Array Obj} {c : Nat} (hc : c < w.heap.size) (hne : c ≠ b) : (sortWorld enc w b 0 m d os).heap[c]? = w.heap[c]? := by
  show (((putRow enc (Sort.ahead w m) b 0 d)).heap ++ os)[c]? = _
  have h1 : (putRow enc (Sort.ahead w m) b 0 d).heap = w.heap.modify b (onCells (putCells enc 0 d)) := rfl
  rw [h1, Array.getElem?_append_left (by simpa using hc), Array.getElem?_modify, if_neg (fun h => hne h.symm)]
theorem sortW_at {α : Type} [Inhabited α] {enc : α → Value} {w : World} {b m : Nat} {d : Array α} {os : Array Obj} {cs : Array Value} {t : TypeId} {fr : Nat × Nat} (h : w.heap[b]? = some (.cells cs t fr)) : (sortWorld enc w b 0 m d os).heap[b]? = some (.cells (putCells enc 0 d cs) t fr) := by
  obtain ⟨hb, _⟩ := Array.getElem?_eq_some_iff.1 h
  show (((putRow enc (Sort.ahead w m) b 0 d)).heap ++ os)[b]? = _
  have h1 : (putRow enc (Sort.ahead w m) b 0 d).heap = w.heap.modify b (onCells (putCells enc 0 d)) := rfl
  rw [h1, Array.getElem?_append_left (by simpa using hb), Array.getElem?_modify, if_pos rfl, h]
  rfl
theorem sortW_size {α : Type} [Inhabited α] {enc : α → Value} {w : World} {b m : Nat} {d : Array α} {os : Array Obj} : w.heap.size ≤ (sortWorld enc w b 0 m d os).heap.size := by
  have h1 : (sortWorld enc w b 0 m d os).heap = w.heap.modify b (onCells (putCells enc 0 d)) ++ os := rfl
  rw [h1]; simp
theorem putCells_app {α : Type} [Inhabited α] {enc : α → Value} {d : Array α} {vs junk : List Value} (h : vs.length = d.size) : putCells enc 0 d (vs ++ junk).toArray = (d.toList.map enc ++ junk).toArray := by
  apply Array.ext_getElem?
  intro j
  unfold putCells
  rw [Array.getElem?_mapIdx]
  simp only [List.getElem?_toArray, Nat.zero_le, true_and, Nat.zero_add, Nat.sub_zero]
  by_cases hj : j < d.size
  · rw [List.getElem?_append_left (by omega), List.getElem?_append_left (by simpa using hj), List.getElem?_map]
    rw [List.getElem?_eq_getElem (by omega)]
    have e : d.toList[j]? = some d[j]! := by
      rw [getElem!_pos d j hj, List.getElem?_eq_getElem (by simpa using hj)]; simp
    rw [e]; simp [hj]
  · rw [List.getElem?_append_right (by omega), List.getElem?_append_right (by simp; omega)]
    simp only [List.length_map, Array.length_toList, h]
    cases junk[j - d.size]? with
    | none => rfl
    | some v => simp [hj]

section
variable {F H : HP} {M : Mem} {X : List PanicEntry → Mem → Prop}
theorem call70_ {s : Sl} {ks : List (Sl × List UInt8)} {K : Mem → Prop} (h : At (arr s 32 1 (kvs ks) * F) M) (hk : ∀ M', At F M' → ∀ x ∈ ks, BS M' x.1 x.2) (h0 : ks ≠ []) (hn : ks.length ≤ 1000000000)
    (hK : ∀ ks' M', ks'.Perm ks → (ks'.Pairwise fun x y => ¬ compareBytes y.2 x.2 < 0) → At (arr s 32 1 (kvs ks') * F) M' → K M') :
    call 70 [Sl.v s, .func (.func 71) #[] #[]] X (fun v_ M => K M) M := by
  intro w hw
  rcases h.open_ with ⟨_, hvs, _⟩ | ⟨b, junk, g1, g2, g3, g4, g5, hB⟩
  · exact absurd (List.map_eq_nil_iff.1 hvs) h0
  have hMb := hB.blk
  have hwb := hw _ _ hMb
  obtain ⟨hbs, _⟩ := Array.getElem?_eq_some_iff.1 hwb
  have hD := hB.del
  have hk' := hk _ hD
  let α := KB (M.del b)
  let enc : α → Value := fun x => Sl.v x.s
  obtain ⟨d, hd⟩ : ∃ d : Array α, d = (ks.pmap (fun x hx => (⟨x.1, x.2, hx⟩ : α)) hk').toArray := ⟨_, rfl⟩
  have hdk : d.toList.map (fun x => (x.s, x.l)) = ks := by
    rw [hd]; simp [List.map_pmap]
  have hds : d.size = ks.length := by rw [hd]; simp
  have hsn : s.n = d.size := by rw [hds]; simpa using g2.symm
  have hvs : kvs ks = d.toList.map enc := by
    rw [← hdk]; simp [kvs, enc]
  have hvl : (kvs ks).length = d.size := by rw [hvs]; simp
  have sub : ∀ (m : Nat) (dk : Array α) (os : Array Obj), Sub (M.del b) (wm (sortWorld enc w b 0 m dk os)) := by
    intro m dk os c o hc
    have hne : c ≠ b := fun hh => by rw [hh, del_same] at hc; cases hc
    rw [del_ne _ hne] at hc
    have := hw _ _ hc
    obtain ⟨hcs, _⟩ := Array.getElem?_eq_some_iff.1 this
    show (sortWorld enc w b 0 m dk os).heap[c]? = some o
    rw [sortW_heap hcs hne, this]
  have hcmp : CmpLays1 Tryz.prog 71 #[] enc kcf b 0 d.size w := by
    intro m os dk hs x y
    refine (cmp71 (W := sortWorld enc w b 0 m dk os) (x.ok.sub (sub m dk os)) (y.ok.sub (sub m dk os))).mono fun e w' hh => ⟨hh.1, 0, #[], ?_⟩
    rw [hh.2, grow_empty]; rfl
  have hH : Holds enc w b 0 d := by
    intro j hj
    have e : d.toList[j]? = some d[j]! := by
      rw [getElem!_pos d j hj, List.getElem?_eq_getElem (by simpa using hj)]; simp
    refine ⟨?_, ?_⟩
    · simp only [World.cell?, hwb, Nat.zero_add, Option.isSome_none, Bool.false_eq_true, if_false, List.getElem?_toArray]
      rw [List.getElem?_append_left (by omega), hvs, List.getElem?_map, e]; rfl
    · simp [World.frozen?, hwb]
  have hcon := Any.slices_SortFunc sortB enc (fun _ => rfl) kcf (kswo _) 71 #[] b 0 s.c d w (enters_of Tryz.func71 (by kernel_rfl) rfl) hcmp hH hbs (by omega)
  have hargs : #[Value.slice (some ⟨b, 0, none⟩) d.size s.c, .func (.func 71) #[] #[]] = [Sl.v s, .func (.func 71) #[] #[]].toArray := by
    simp [Sl.v, g1, hsn, adr_base]
  rw [hargs] at hcon
  change Calls Tryz.prog 70 _ w _ at hcon
  refine hcon.mono ?_
  rintro e w' ⟨rfl, d', n, os, hP, hS, rfl⟩
  obtain ⟨p1, _, p3⟩ := hP
  have hks' : (kvs (d'.toList.map fun x => (x.s, x.l))) = d'.toList.map enc := by simp [kvs, enc]
  have hfin : At (arr s 32 1 (kvs (d'.toList.map fun x => (x.s, x.l))) * F) (M.upd b (.cells (kvs (d'.toList.map fun x => (x.s, x.l)) ++ junk).toArray 32 (0, 0))) := by
    have hl : (kvs (d'.toList.map fun x => (x.s, x.l))).length = (kvs ks).length := by simp [hvl, p1, hds]
    exact (hB.upd _).close g1 (by rw [hl]; exact g2) (by rw [← g3]; simp only [List.length_append, hl]) g4 g5
  refine ⟨M.upd b (.cells (kvs (d'.toList.map fun x => (x.s, x.l)) ++ junk).toArray 32 (0, 0)), ?_, ⟨rfl, rfl, rfl, sortW_size, ?_, ?_⟩, hK (d'.toList.map fun x => (x.s, x.l)) _ ?_ ?_ hfin⟩
  · intro c o hc
    rw [upd_if] at hc
    split at hc
    · rename_i hh
      subst hh
      cases hc
      rw [sortW_at hwb, putCells_app (by rw [hvl, p1]), hks']
    · rename_i hne
      have := hw _ _ hc
      obtain ⟨hcs, _⟩ := Array.getElem?_eq_some_iff.1 this
      rw [sortW_heap hcs hne, this]
  · intro c hc hM
    exact sortW_heap hc fun hh => by rw [hh, hMb] at hM; cases hM
  · intro c hc
    refine .inl ?_
    rw [upd_if] at hc
    split at hc
    · rename_i hh; rw [hh, hMb]; simp
    · exact hc
  · have e1 : (d'.extract 0 d.size).toList = d'.toList := by rw [← p1]; simp
    have e2 : (d.extract 0 d.size).toList = d.toList := by simp
    rw [e1, e2] at p3
    have := p3.map fun x : α => (x.s, x.l)
    rwa [hdk] at this
  · rw [List.pairwise_map, List.pairwise_iff_getElem]
    intro i j hi hj hij
    have := hS i j (Nat.zero_le _) hij (by rw [← p1]; simpa using hj)
    simp only [Array.length_toList] at hi hj
    rw [getElem!_pos d' j hj, getElem!_pos d' i hi] at this
    exact of_decide_eq_false this
end
end Go.Proofs.YtdndpmlapcbjaaaGreat

namespace Go.Proofs.YtdndpmlapcbjaaaGreat
open Go Go.RowKit Go.Lib
set_option linter.unusedSimpArgs false
set_option linter.unusedVariables false

def keyOf (dg : Nat) (x : ByteArray × List UInt8) : Option (List UInt8) := if (hasPre x.1 cdash && soundB dg x.1 x.2) = true then (casParse x.2).map (·.1) else none
def storeKeys (d : DS) (dg : Nat) : List (List UInt8) := d.view.filterMap (keyOf dg)
theorem callV73 {s t : Sl} {a b : List UInt8} {X : List PanicEntry → Mem → Prop} {κ : Value → Mem → Prop} {M : Mem} (hs : BS M s a) (ht : BS M t b) (h : κ (.bool (decide (a = b))) M) : callV (.func (.func 73) #[] #[]) [Sl.v s, Sl.v t] X κ M := by
  intro ro
  have h0 : Spec Tryz.prog 73 #[Sl.v s, Sl.v t] M κ X := (br73 (K := fun r M' => r = decide (a = b) ∧ κ (.bool r) M') (by unfold S73; exact hs.b2s (ht.b2s ⟨seq_bytes a b, by rw [seq_bytes]; exact h⟩))).mono (fun v M' ⟨r, g1, g2, g3⟩ => by rw [g1]; exact g3) (fun _ _ h => h)
  exact @callV_func Tryz.prog ro M 73 [] [] [Sl.v s, Sl.v t] κ X Tryz.call73 h0

section
variable {F H : HP} {M : Mem} {X : List PanicEntry → Mem → Prop}
theorem call72_ {s : Sl} {ks : List (Sl × List UInt8)} {K : Sl → Mem → Prop} (h : At (arr s 32 1 (kvs ks) * F) M) (hk : ∀ M', At F M' → ∀ x ∈ ks, BS M' x.1 x.2) (hd : ks.Pairwise fun x y => x.2 ≠ y.2) (hn : ks.length ≤ 1000000000)
    (hK : ∀ M', At (arr s 32 1 (kvs ks) * F) M' → K s M') : call 72 [Sl.v s, .func (.func 73) #[] #[]] X (fun v_ M => ∃ r : Sl, v_ = Sl.v r ∧ K r M) M := by
  refine br72 (K := K) ?_
  have hal := h.arr_len.1
  rw [List.length_map, Nat.mul_one] at hal
  unfold S72
  refine ite_ (fun _ => hK M h) (fun hc => ?_)
  have hc' : ¬ ((s.n : Int) < 2) := of_decide_eq_false hc
  unfold S72_2
  refine Lp_of (σ := Int) (fun i M' => 1 ≤ i ∧ i ≤ ks.length ∧ At (arr s 32 1 (kvs ks) * F) M') (fun i => ks.length - i.toNat) ?_ ⟨Int.le_refl _, by omega, h⟩
  rintro i M2 next ⟨i0, i1, h2⟩ hnx
  unfold S72_2b
  refine ite_ (fun hc2 => ?_) (fun hc2 => by unfold S72_1; exact hK M2 h2)
  have hlt : i < (s.n : Int) := of_decide_eq_true hc2
  have w1 : IntKind.wrap .i64 (i - 1) = i - 1 := w64 (by omega) (by omega)
  have w2 : IntKind.wrap .i64 (i + 1) = i + 1 := w64 (by omega) (by omega)
  rw [w1, w2]
  obtain ⟨x, hx⟩ : ∃ x, ks[i.toNat]? = some x := ⟨_, List.getElem?_eq_getElem (by omega)⟩
  obtain ⟨y, hy⟩ : ∃ y, ks[(i - 1).toNat]? = some y := ⟨_, List.getElem?_eq_getElem (by omega)⟩
  have hne : x.2 ≠ y.2 := by
    rw [List.pairwise_iff_getElem] at hd
    have := hd (i - 1).toNat i.toNat (by omega) (by omega) (by omega)
    rw [(List.getElem?_eq_some_iff.1 hx).2, (List.getElem?_eq_some_iff.1 hy).2] at this
    exact fun e => this e.symm
  refine ix1_ 32 (v := Sl.v x.1) h2 (by omega) (by rw [List.getElem?_map, hx]; rfl) fun q hq => ix1_ 32 (v := Sl.v y.1) h2 (by omega) (by rw [List.getElem?_map, hy]; rfl) fun q2 hq2 => ldLq hq (ldLq hq2 ?_)
  refine @callV73 x.1 y.1 x.2 y.2 _ _ M2 (hk M2 h2.r x (List.mem_of_getElem? hx)) (hk M2 h2.r y (List.mem_of_getElem? hy)) ⟨_, rfl, iteF (decide_eq_false hne) (hnx _ _ ⟨by omega, by omega, h2⟩ (by omega))⟩

theorem bss_ent {ks : List (Sl × List UInt8)} {x : Sl × List UInt8} (hx : x ∈ ks) : Ent (bss (ks.map (·.1)) (ks.map (·.2))) (bs x.1 x.2) := by
  obtain ⟨k, hk⟩ := List.getElem?_of_mem hx
  exact bss_get (k := k) (by rw [List.getElem?_map, hk]; rfl) (by rw [List.getElem?_map, hk]; rfl)
theorem bss_of : ∀ {ks : List (Sl × List UInt8)} {F : HP} {M : Mem}, At F M → (∀ x ∈ ks, Ent F (bs x.1 x.2)) → At (bss (ks.map (·.1)) (ks.map (·.2)) * F) M := by
  intro ks
  induction ks with
  | nil => intro F M h _; simp only [List.map_nil, bss, tt_star]; exact h
  | cons x ks ih =>
    intro F M h he
    have h1 := h.dup (he x (List.mem_cons_self ..)) (pers_bs _ _)
    have h2 := ih h1 fun y hy => (Ent.r _ _).trans (he y (List.mem_cons_of_mem _ hy))
    simp only [List.map_cons, bss]
    exact h2.cast (by ac_rfl)
theorem call27_ {sp dp dg : Nat} {d : DS} {K : Sl → Mem → Prop} (hd : dg ≤ 64) (h : At (dskA dp d * (cl sp (117, [ptr (some (dp, 0)), vi dg]) * F)) M) (hl : d.now.length ≤ 1000000) (h0 : storeKeys d dg ≠ []) (hnd : (storeKeys d dg).Nodup)
    (hK : ∀ r ks M', (ks.map (·.2)).Perm (storeKeys d dg) → (ks.Pairwise fun x y => ¬ compareBytes y.2 x.2 < 0) → At (arr r 32 1 (kvs ks) * (bss (ks.map (·.1)) (ks.map (·.2)) * (dskA dp d * (cl sp (117, [ptr (some (dp, 0)), vi dg]) * F)))) M' → K r M') :
    call 27 [ptr (some (sp, 0))] X (fun v_ M => ∃ r : Sl, v_ = Sl.v r ∧ K r M) M := by
  refine br27 (K := K) ?_
  have hok := dskA_ok h
  have hvl : d.view.length = d.now.length := by simp [DS.view]
  unfold S27
  refine newc_ h fun b1 M1 h1 => newc_ h1 fun b2 M2 h2 => ldP_ h2 rfl (iteF rfl (ldP_ h2 rfl (nn_ (ldP_ h2 rfl ?_))))
  refine call54_ (p := dp) h2 fun c1 M3 h3 => ?_
  unfold S27_1
  let C : Sl × List (Sl × List UInt8) → HP := fun x => dskA dp d * (cl b2 (55, [Sl.v x.1]) * (arr x.1 32 1 (kvs x.2) * (bss (x.2.map (·.1)) (x.2.map (·.2)) * (cl b1 (28, [ptr (some (sp, 0))]) * (cl sp (117, [ptr (some (dp, 0)), vi dg]) * F)))))
  have hC0 : At (cl c1 (26, [ptr (some (dp, 0))]) * C (⟨none, 0, 0⟩, [])) M3 := by
    simp only [C, List.map_nil, bss, arr_nil, tt_star]
    exact h3.cast (by ac_rfl)
  refine rngDisk (p := dp) (d := d) (x0 := (⟨none, 0, 0⟩, [])) C (fun x i => x.2.map (·.2) = (d.view.take i).filterMap (keyOf dg) ∧ x.2.length ≤ i) hC0 rfl ⟨rfl, Nat.le_refl _⟩ ?_ ?_
  · rintro ⟨r, ks⟩ i n l s M4 G nx rt ⟨e1, e2⟩ hv h4 hnx
    simp only at e1 e2
    have hilt := (List.getElem?_eq_some_iff.1 hv).1
    have hll : l.length ≤ 1048576 := by
      rw [DS.view, List.getElem?_map] at hv
      obtain ⟨z, hz, e⟩ := Option.map_eq_some_iff.1 hv
      cases e
      exact dataAt_len hok _
    have h5 : At (bs s l * (dskA dp d * (cl b2 (55, [Sl.v r]) * (arr r 32 1 (kvs ks) * (bss (ks.map (·.1)) (ks.map (·.2)) * (cl b1 (28, [ptr (some (sp, 0))]) * (cl sp (117, [ptr (some (dp, 0)), vi dg]) * (F * G)))))))) M4 := h4.cast (by simp only [C]; ac_rfl)
    have htake : (d.view.take (i + 1)).filterMap (keyOf dg) = (d.view.take i).filterMap (keyOf dg) ++ (keyOf dg (n, l)).toList := by
      rw [List.take_add_one, hv, List.filterMap_append]
      cases hk : keyOf dg (n, l) <;> simp [hk]
    have skip : ∀ M6, keyOf dg (n, l) = none → At (dskA dp d * (cl b2 (55, [Sl.v r]) * (arr r 32 1 (kvs ks) * (bss (ks.map (·.1)) (ks.map (·.2)) * (cl b1 (28, [ptr (some (sp, 0))]) * (cl sp (117, [ptr (some (dp, 0)), vi dg]) * (F * G))))))) M6 → S27_2 (b1, 0) (b2, 0) (.func (.func 116) #[] #[ptr (some (c1, 0))]) K X nx rt M6 := by
      intro M6 hk h6
      unfold S27_2
      refine hnx (r, ks) M6 ⟨?_, by simp only; omega⟩ (h6.cast (by simp only [C]; ac_rfl))
      rw [htake, hk]; simpa using e1
    refine ⟨n, s, rfl, ?_⟩
    unfold S27_1b
    refine call55_ (ite_ (fun hp => ?_) (fun hp => ?_))
    · refine ldP_ h5 rfl (call56_ (sp := sp) (dp := dp) (dg := dg) (l := l) h5.dupbs hd (by omega) fun M5 h6 => ?_)
      unfold S27_3
      refine ite_ (fun hs => ?_) (fun hs => skip M5 (by rw [keyOf, if_neg]; rw [Bool.and_eq_true]; exact fun hh => by rw [hh.2] at hs; cases hs) h6.r)
      refine call17 h6 (by omega) (fun k a r0 r1 M6 hpar h7 => ?_) (fun hno M6 h7 => ?_)
      · have hkey : keyOf dg (n, l) = some k := by
          have hp' : hasPre n cdash = true := hp
          rw [keyOf, if_pos (by rw [hp', hs]; rfl), hpar]; rfl
        have hal := (h7.pick (A := arr r 32 1)).arr_len
        rw [List.length_map, Nat.mul_one] at hal
        refine ldL_ h7 rfl (newc_ h7 fun b26 M7 h8 => ?_)
        refine arr_app (s := r) (vs := kvs ks) (x := ⟨some (b26, 0), 1, 1⟩) (news := [Sl.v r0]) h8 rfl ?_ rfl ?_ ?_ ?_ fun r2 M8 h9 hn9 => ?_
        · intro j v hv
          match j, hv with
          | 0, hv => cases hv; exact h8.cel (b := b26) rfl
        · intro v hv; simp at hv; rw [hv]; rfl
        · simp only; omega
        · simp only; omega
        · refine st0_ h9 fun M9 h10 => ?_
          unfold S27_2
          refine hnx (r2, ks ++ [(r0, k)]) M9 ⟨?_, by simp; omega⟩ ?_
          · rw [htake, hkey, List.map_append, e1]; rfl
          · have e : bss ((ks ++ [(r0, k)]).map (·.1)) ((ks ++ [(r0, k)]).map (·.2)) = bs r0 k * bss (ks.map (·.1)) (ks.map (·.2)) := by
              rw [List.map_append, List.map_append]; exact bss_snoc (by simp)
            have e2 : kvs (ks ++ [(r0, k)]) = kvs ks ++ [Sl.v r0] := by simp [kvs]
            simp only [C, e, e2]
            exact h10.use
      · have hno2 : soundB dg n l = false := by unfold soundB; rw [hno]
        rw [hno2] at hs; cases hs
    · unfold S27_3
      have hp' : hasPre n cdash = false := hp
      exact iteF rfl (skip M4 (by rw [keyOf, hp']; rfl) h5.r)
  · rintro ⟨r, ks⟩ M4 ⟨e1, e2⟩ h4
    simp only at e1 e2
    have e1' : ks.map (·.2) = storeKeys d dg := by rw [e1, List.take_length]; rfl
    have h5 : At (arr r 32 1 (kvs ks) * (bss (ks.map (·.1)) (ks.map (·.2)) * (cl b2 (55, [Sl.v r]) * (cl b1 (28, [ptr (some (sp, 0))]) * (dskA dp d * (cl sp (117, [ptr (some (dp, 0)), vi dg]) * F)))))) M4 := h4.cast (by simp only [C]; ac_rfl)
    refine ldL_ h5 rfl (call70_ (s := r) (ks := ks) h5 (fun M' hM x hx => (hM.imp ((Ent.l _ _).trans (bss_ent hx))).byt) (fun hh => h0 (by rw [← e1', hh]; rfl)) (by omega) fun ks' M5 hp hs h6 => ?_)
    have hnd' : ks'.Pairwise fun x y => x.2 ≠ y.2 := by
      have h1 : (ks'.map (·.2)).Nodup := ((hp.map (·.2)).nodup_iff).2 (by rw [e1']; exact hnd)
      rwa [List.Nodup, List.pairwise_map] at h1
    have hpl := hp.length_eq
    refine ldL_ h6 rfl (call72_ (s := r) (ks := ks') h6 (fun M' hM x hx => (hM.imp ((Ent.l _ _).trans (bss_ent (hp.mem_iff.1 hx)))).byt) hnd' (by omega) fun M6 h7 => ?_)
    refine st0_ h7 fun M7 h8 => ldL_ h8 rfl ?_
    have h9 := bss_of (ks := ks') (F := arr r 32 1 (kvs ks') * (bss (ks.map (·.1)) (ks.map (·.2)) * (cl b2 (55, [Sl.v r]) * (cl b1 (28, [ptr (some (sp, 0))]) * (dskA dp d * (cl sp (117, [ptr (some (dp, 0)), vi dg]) * F)))))) (h8.use) fun x hx => (Ent.r _ _).trans ((Ent.l _ _).trans (bss_ent (hp.mem_iff.1 hx)))
    exact hK r ks' M7 (by rw [← e1']; exact hp.map _) hs h9.use
theorem call19_ {sp dp dg : Nat} {d : DS} {K : Int → Mem → Prop} (hd : dg ≤ 64) (h : At (dskA dp d * (cl sp (117, [ptr (some (dp, 0)), vi dg]) * F)) M) (hl : d.now.length ≤ 1000000) (h0 : storeKeys d dg ≠ []) (hnd : (storeKeys d dg).Nodup)
    (hK : ∀ M', At (dskA dp d * (cl sp (117, [ptr (some (dp, 0)), vi dg]) * F)) M' → K (storeKeys d dg).length M') : call 19 [ptr (some (sp, 0))] X (fun v_ M => ∃ r : Int, v_ = .int .i64 r ∧ K r M) M := by
  refine br19 (K := K) ?_
  unfold S19
  refine call27_ hd h hl h0 hnd fun r ks M' hp _ h2 => ?_
  have := h2.arr_len.1
  rw [List.length_map, Nat.mul_one] at this
  have e : (storeKeys d dg).length = r.n := by rw [← hp.length_eq, List.length_map, this]
  rw [← e]
  exact hK M' h2.r.r
end
end Go.Proofs.YtdndpmlapcbjaaaGreat

namespace Go.Proofs.YtdndpmlapcbjaaaGreat
open Go Go.RowKit
set_option linter.unusedSimpArgs false
set_option linter.unusedVariables false

theorem filterMap_map {α β : Type} {f : α → Option β} {g : α → β} : ∀ {l : List α}, (∀ x ∈ l, f x = some (g x)) → l.filterMap f = l.map g := by
  intro l
  induction l with
  | nil => intro _; rfl
  | cons x l ih =>
    intro h
    rw [List.filterMap_cons, h x (List.mem_cons_self ..), List.map_cons, ih fun y hy => h y (List.mem_cons_of_mem _ hy)]
theorem keys_inv {d : DS} {n : Nat} (h : StI d n) : (storeKeys d 2).length = d.now.length ∧ (storeKeys d 2).Nodup := by
  have hk : ∀ x ∈ d.now, keyOf 2 (x.1, d.dataAt x.2) = some (((casParse (d.dataAt x.2)).map (·.1)).getD []) := by
    intro x hx
    obtain ⟨k, a, i, hi, hk, ha, e1, e2⟩ := h.each x hx
    have hp : casParse (entry k a) = some (k, a) := casParse_entry (by omega) (by omega)
    rw [keyOf, e1, e2, file_pre, sound_entry hi hk ha, hp]; rfl
  have e : storeKeys d 2 = d.now.map fun x => ((casParse (d.dataAt x.2)).map (·.1)).getD [] := by
    unfold storeKeys DS.view
    rw [List.filterMap_map]
    exact filterMap_map hk
  rw [e]
  refine ⟨by simp, ?_⟩
  rw [List.Nodup, List.pairwise_map]
  refine h.ok.srt.imp_of_mem fun {x y} hx hy hxy hh => ?_
  obtain ⟨k, a, i, hi, hk, ha, e1, e2⟩ := h.each x hx
  obtain ⟨k', a', i', hi', hk', ha', e1', e2'⟩ := h.each y hy
  have hp : casParse (entry k a) = some (k, a) := casParse_entry (by omega) (by omega)
  have hp' : casParse (entry k' a') = some (k', a') := casParse_entry (by omega) (by omega)
  rw [e2, e2', hp, hp'] at hh
  have hkk : k = k' := hh
  subst hkk
  have := h.key x hx y hy k a a' (by rw [e2]; exact hp) (by rw [e2']; exact hp')
  rw [this, slt_irrefl] at hxy; cases hxy
theorem puts_snoc (d : DS) (l : List (List UInt8 × List UInt8)) (x : List UInt8 × List UInt8) : puts d (l ++ [x]) = (casPut (puts d l) 2 x.1 x.2).2 := by simp [puts]
def opsKA (l : List OpM) : List (List UInt8 × List UInt8) := l.map fun o => (o.k, o.a)
theorem cutL_mem {l : List OpM} {o : OpM} (h : o ∈ cutL l) : o ∈ l ∧ o.k.length ≤ 200 ∧ o.a.length ≤ 200 := by
  unfold cutL at h
  obtain ⟨h1, h2⟩ := List.mem_filter.1 h
  simp only [keepOp, Bool.and_eq_true, decide_eq_true_eq] at h2
  exact ⟨List.mem_of_mem_take h1, h2⟩
/-- What stands after the first j things were done. -/
theorem puts_cut (l : List OpM) (j : Nat) (hj : j ≤ (cutL l).length) : StI (puts (DS.empty 1048576) (opsKA ((cutL l).take j))) j ∧ (j ≠ 0 → (puts (DS.empty 1048576) (opsKA ((cutL l).take j))).now ≠ []) := by
  have hc := cutL_len l
  have hl : (opsKA ((cutL l).take j)).length = j := by simp [opsKA]; omega
  obtain ⟨h1, h2⟩ := puts_inv (l := opsKA ((cutL l).take j)) StI.zero (by omega) fun o ho => by
    obtain ⟨x, hx, rfl⟩ := List.mem_map.1 ho
    exact (cutL_mem (List.mem_of_mem_take hx)).2
  rw [hl, Nat.zero_add] at h1
  exact ⟨h1, fun hj => h2 fun hh => by rw [hh] at hl; simp at hl; omega⟩
end Go.Proofs.YtdndpmlapcbjaaaGreat

namespace Go.Proofs.YtdndpmlapcbjaaaGreat
open Go Go.RowKit
set_option linter.unusedSimpArgs false
set_option linter.unusedVariables false

theorem knb_of {F : HP} {s : Sl} {l : List UInt8} (h : ∀ M', At F M' → BS M' s l) : Knb F s l := ⟨fun m hm => h (erm m) ⟨m, hm, fun b x hb => by simp [erm, hb]⟩⟩
theorem tmod_range {a b : Int} (ha : 0 ≤ a) (hb : 0 < b) : 0 ≤ Int.tmod a b ∧ Int.tmod a b < b := ⟨Int.tmod_nonneg _ ha, Int.tmod_lt_of_pos _ hb⟩
theorem wu64 {x : Int} (h0 : 0 ≤ x) (h1 : x < 18446744073709551616) : IntKind.wrap .u64 x = x := by
  have : IntKind.wrap .u64 x = x % 18446744073709551616 := by simp [IntKind.wrap, IntKind.bits, IntKind.signed]
  rw [this]; omega

section
variable {F : HP} {M : Mem} {X : List PanicEntry → Mem → Prop}
theorem call3_ {s : Sl} {l : List OpM} {w0 w1 : Int} {m : UInt8} {K : Bool → Mem → Prop} (h : At F M) (hF : ∀ M', At F M' → OpsIn M' s l) (hw0 : 0 ≤ w0) (hw1 : 0 ≤ w1) (hK : ∀ M', At F M' → K true M') :
    call 3 [Sl.v s, .agg #[.int .u64 w0, .int .u64 w1], .int .u8 m.toNat] X (fun v_ M => ∃ r : Bool, v_ = .bool r ∧ K r M) M := by
  refine br3 (K := K) ?_
  unfold S3
  refine call10_ h hF fun r M1 h1 => call11_ h1 (by decide) (by decide) fun p M2 h2 => ?_
  have hopen : casOpen (DS.empty 1048576) 2 = DS.empty 1048576 := rfl
  refine call12_ (dg := 2) h2 (by decide) (by intro x hx; cases hx) (by decide) fun sp M3 h3 => ?_
  rw [hopen] at h3
  refine iteF rfl ?_
  obtain ⟨N, hN⟩ : ∃ N, (cutL l).length = N := ⟨_, rfl⟩
  have hN40 : N ≤ 40 := by rw [← hN]; exact cutL_len l
  have hrl := (h3.pick (A := arr r 34 3)).arr_len.1
  rw [ocells_len, hN] at hrl
  have hrn : r.n = N := by omega
  unfold S3_2
  refine Lp_of (σ := Int) (fun i M' => 0 ≤ i ∧ i ≤ N ∧ At (dskA p (puts (DS.empty 1048576) (opsKA ((cutL l).take i.toNat))) * (cl sp (117, [ptr (some (p, 0)), vi (2 : Nat)]) * (arr r 34 3 (ocells (cutL l)) * F))) M') (fun i => N - i.toNat) ?_ ⟨Int.le_refl _, by omega, h3⟩
  rintro i M4 next ⟨i0, i1, h4⟩ hnx
  unfold S3_2b
  refine ite_ (fun hc => ?_) (fun hc => ?_)
  · have hlt : i < (r.n : Int) := of_decide_eq_true hc
    obtain ⟨o, ho⟩ : ∃ o, (cutL l)[i.toNat]? = some o := ⟨_, List.getElem?_eq_getElem (by omega)⟩
    obtain ⟨hol, hok, hoa⟩ := cutL_mem (List.mem_of_getElem? ho)
    obtain ⟨c0, c1, c2⟩ := ocells_at ho
    haveI kb1 : Knb F o.ks o.k := knb_of fun M' hM => ((hF M' hM).each o hol).1
    haveI kb2 : Knb F o.as_ o.a := knb_of fun M' hM => ((hF M' hM).each o hol).2
    have hst := (puts_cut l i.toNat (by omega)).1
    have hlim := hst.lim
    have w1 : IntKind.wrap .i64 (i + 1) = i + 1 := w64 (by omega) (by omega)
    refine ix_ 34 h4 i0 hlt fun q hq => ldIq (by have := hq 0 _ c0; simpa using this) (ldLq (hq 1 _ c1) (ldLq (hq 2 _ c2) ?_))
    refine call13_ (dp := p) (dg := 2) (key := o.k) (art := o.a) (by decide) (by omega) (by omega) h4 (by omega) fun M5 h5 => ?_
    rw [w1]
    refine hnx _ _ ⟨by omega, by omega, ?_⟩ (by omega)
    have e : (i + 1).toNat = i.toNat + 1 := by omega
    have e2 : opsKA ((cutL l).take (i.toNat + 1)) = opsKA ((cutL l).take i.toNat) ++ [(o.k, o.a)] := by
      rw [List.take_add_one, ho]; simp [opsKA]
    rw [e, e2, puts_snoc]
    exact h5
  · have hge : ¬ (i < (r.n : Int)) := of_decide_eq_false hc
    have hiN : i.toNat = N := by omega
    rw [hiN] at h4
    obtain ⟨hst, hne⟩ := puts_cut l N (by omega)
    obtain ⟨d, hd⟩ : ∃ d, puts (DS.empty 1048576) (opsKA ((cutL l).take N)) = d := ⟨_, rfl⟩
    rw [hd] at h4 hst hne
    have hlen := hst.len
    have hlim := hst.lim
    have hsr := hst.ok.srt
    unfold S3_1
    refine call14_ h4 fun rn M5 h5 => ?_
    have hnl := (h5.pick (A := arr rn 9 1)).arr_len.1
    rw [List.length_map, Nat.mul_one] at hnl
    refine ite_ (fun hz => ?_) (fun hz => ?_)
    · have hz' : rn.n = 0 := by simpa using hz
      have hN0 : N = 0 := by
        rcases Nat.eq_zero_or_pos N with h | h
        · exact h
        · exact absurd (List.length_eq_zero_iff.1 (by omega)) (hne (by omega))
      refine iteT (by rw [hrn, hN0]; rfl) (call15_ h5 fun M6 h6 => ?_)
      unfold S3_3
      exact hK M6 h6.use
    · have hz' : rn.n ≠ 0 := by simpa using hz
      have u1 : IntKind.wrap .u64 (rn.n : Int) = rn.n := wu64 (by omega) (by omega)
      rw [u1]
      obtain ⟨t0, t1⟩ := tmod_range (a := w0) (b := rn.n) hw0 (by omega)
      obtain ⟨j, hj⟩ : ∃ j, Int.tmod w0 (rn.n : Int) = j := ⟨_, rfl⟩
      rw [hj] at t0 t1
      have u2 : IntKind.wrap .i64 (Int.tmod w0 (rn.n : Int)) = j := by rw [hj]; exact w64 (by omega) (by omega)
      rw [u2]
      refine must_ (by omega) ?_
      obtain ⟨x, hx⟩ : ∃ x, d.now[j.toNat]? = some x := ⟨_, List.getElem?_eq_getElem (by omega)⟩
      have hxm := List.mem_of_getElem? hx
      have hgx : rget d.now x.1 = some x.2 := (rget_iff hsr).2 hxm
      obtain ⟨k, a, ix, hix, hkl, hal, e1, e2⟩ := hst.each x hxm
      have hpar : casParse (d.dataAt x.2) = some (k, a) := by rw [e2]; exact casParse_entry (by omega) (by omega)
      have hdl : (d.dataAt x.2).length = k.length + a.length + 16 := by rw [e2, entry_len]
      refine ix1_ 9 (v := .string x.1) h5 t0 (by rw [List.getElem?_map, hx]; rfl) fun q hq => ldSq hq ?_
      refine call16_ (p := p) (d := d) (F := arr rn 9 1 (d.now.map fun x => Value.string x.1) * (cl sp (117, [ptr (some (p, 0)), vi (2 : Nat)]) * (arr r 34 3 (ocells (cutL l)) * F))) h5.use (fun i' rd M6 hi' h6 => ?_) (fun hno => by rw [hgx] at hno; cases hno)
      rw [hgx] at hi'; cases hi'
      refine call17 h6.share (by omega) (fun k' a' r0 r1 M7 hp7 h7 => ?_) (fun hno => by rw [hpar] at hno; cases hno)
      rw [hpar] at hp7; cases hp7
      have hr0 := (h7.byt (s := r0)).len
      refine iteF rfl ?_
      have u3 : IntKind.wrap .i64 ((r0.n : Int) + 4) = k.length + 4 := by rw [hr0]; exact w64 (by omega) (by omega)
      have u4 : IntKind.wrap .u64 ((k.length : Int) + 4) = k.length + 4 := wu64 (by omega) (by omega)
      rw [u3, u4]
      refine must_ (by omega) ?_
      obtain ⟨y0, y1⟩ := tmod_range (a := w1) (b := 1073741824) hw1 (by decide)
      obtain ⟨y, hy⟩ : ∃ y, Int.tmod w1 1073741824 = y := ⟨_, rfl⟩
      rw [hy] at y0 y1 ⊢
      have u5 : IntKind.wrap .i64 y = y := w64 (by omega) (by omega)
      have u6 : IntKind.wrap .u64 y = y := wu64 (by omega) (by omega)
      rw [u5, u6]
      obtain ⟨z0, z1⟩ := tmod_range (a := y) (b := (k.length : Int) + 4) y0 (by omega)
      obtain ⟨z, hz2⟩ : ∃ z, Int.tmod y ((k.length : Int) + 4) = z := ⟨_, rfl⟩
      rw [hz2] at z0 z1 ⊢
      have u7 : IntKind.wrap .i64 z = z := w64 (by omega) (by omega)
      rw [u7]
      obtain ⟨at_, hat⟩ : ∃ at_ : Nat, 4 + z = (at_ : Int) := ⟨(4 + z).toNat, by omega⟩
      have u8 : IntKind.wrap .i64 (4 + z) = at_ := by rw [hat]; exact w64 (by omega) (by omega)
      rw [u8]
      refine call18_ (p := p) (d := d) (n := x.1) (at_ := at_) (i := x.2) (m := m) (F := bs r0 k * (bs r1 a * (arr rn 9 1 (d.now.map fun x => Value.string x.1) * (cl sp (117, [ptr (some (p, 0)), vi (2 : Nat)]) * (arr r 34 3 (ocells (cutL l)) * F))))) h7.use hgx (by omega) fun M8 h8 => ?_
      refine iteF rfl (ite_ (fun hm => ?_) (fun hm => ?_))
      · have hm0 : m = 0 := by
          have h1 : (m.toNat : Int) = 0 := by simpa using hm
          exact UInt8.toNat_inj.1 (by show m.toNat = (0 : UInt8).toNat; simp; omega)
        rw [hm0, flip_zero] at h8
        obtain ⟨kl, knd⟩ := keys_inv hst
        refine call19_ (sp := sp) (dp := p) (dg := 2) (d := d) (F := bs r0 k * (bs r1 a * (arr rn 9 1 (d.now.map fun x => Value.string x.1) * (arr r 34 3 (ocells (cutL l)) * F)))) (by decide) h8.use (by omega) (fun hh => by rw [hh] at kl; simp at kl; omega) knd fun M9 h9 => ?_
        refine iteT (by rw [kl, hnl]; simp) (call15_ h9 fun M10 h10 => ?_)
        unfold S3_4
        exact hK M10 h10.use
      · have hm0 : m ≠ 0 := fun hh => by rw [hh] at hm; simp at hm
        obtain ⟨g1, g2⟩ := turned_open hst hxm hpar hm0 (p := at_) (by omega) (by omega)
        have hfn : (d.flip x.2 at_ m).now = d.now := rfl
        have hfl : (d.flip x.2 at_ m).lim = d.lim := rfl
        refine call12_ (dg := 2) h8 (by decide) (fun y hy => ?_) (by rw [hfn, hfl]; omega) fun sp2 M9 h9 => ?_
        · obtain ⟨k2, a2, i2, hi2, _, _, f1, _⟩ := hst.each y hy
          rw [f1]; exact file_may k2 (by decide) hi2
        obtain ⟨d3, hd3⟩ : ∃ d3, casOpen (d.flip x.2 at_ m) 2 = d3 := ⟨_, rfl⟩
        rw [hd3] at h9 g1 g2
        refine call20_ (sp := sp2) (dp := p) (dg := 2) (d := d3) (key := k) (C1 := bs r0 k * (bs r1 a * (arr rn 9 1 (d.now.map fun x => Value.string x.1) * (cl sp (117, [ptr (some (p, 0)), vi (2 : Nat)]) * (arr r 34 3 (ocells (cutL l)) * F))))) (by decide) (by omega) h9.use (fun a' r' M10 hs => by rw [g2] at hs; cases hs) fun M10 _ h10 => ?_
        refine iteT rfl (call14_ h10 fun r39 M11 h11 => ?_)
        have hnl2 := (h11.pick (A := arr r39 9 1)).arr_len.1
        rw [List.length_map, Nat.mul_one] at hnl2
        have u9 : IntKind.wrap .i64 ((rn.n : Int) - 1) = (r39.n : Int) := by
          have : (rn.n : Int) - 1 = (r39.n : Int) := by omega
          rw [this]; exact w64 (by omega) (by omega)
        rw [u9]
        unfold S3_5
        refine iteT (by simp) ?_
        unfold S3_6
        refine iteT rfl (call15_ h11 fun M12 h12 => ?_)
        unfold S3_7
        exact hK M12 h12.use
end
end Go.Proofs.YtdndpmlapcbjaaaGreat

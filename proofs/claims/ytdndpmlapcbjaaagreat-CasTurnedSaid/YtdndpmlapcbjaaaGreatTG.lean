/- Parts of the proof: Contracts, part a: tools. Contracts, part b: names, words, sums. Contracts, part c: words and sums. Contracts, part d: rows that are one's own. Contracts, part e: words. Contracts, part f: frames. Contracts, part g: slices.Grow, slices.Concat, cas.Entry. Contracts, part h: cas.Entry. Contracts, part i: slices.Clone, wal.first. Contracts, part j: wal.first. Contracts, part k: wal.frames, as it is ranged over. Contracts, part l: wal.Parse. Assertions, part a: what is one's own, what is shared. Assertions, part b: words, ranges over functions, wal.Parse, cas.Parse. Assertions, part c: elements of rows, cas.Parse, orders of texts, slices.BinarySearch. Assertions, part d: slices.Insert and slices.Delete, of one element of one cell. Assertions, part e: slices.Delete, rows of names. Assertions, part f: rows of names and numbers (sets.Row). Assertions, part g: copies of rows, ranges over sets.Row. Assertions, part h: disks; the calls within. Assertions, part i: disks; at, check, turn. Assertions, part j: disks; copied, Used, Append and its kin. Assertions, part k: disks; the calls that turn something, and Read. Assertions, part l: disks; Each, List, Off, New. -/
import Derived.Test.YtdndpmlapcbjaaaGreatTA
import Derived.Test.YtdndpmlapcbjaaaGreatTC
import Derived.Test.YtdndpmlapcbjaaaGreatTD
import Derived.Test.YtdndpmlapcbjaaaGreatTE
import Derived.Test.YtdndpmlapcbjaaaGreatTF
import Derived.Laws.Externs
import Derived.Lib.Overlaps
import Derived.KernelRfl
namespace Go.Proofs.YtdndpmlapcbjaaaGreat
open Go Go.RowKit
set_option linter.unusedSimpArgs false
set_option linter.unusedVariables false

/-- A loop: an invariant and a measure that goes down. -/
theorem Lp_of {σ : Type} {body : σ → (σ → Mem → Prop) → Mem → Prop} (I : σ → Mem → Prop) (μ : σ → Nat)
    (h : ∀ s M (next : σ → Mem → Prop), I s M → (∀ s' M', I s' M' → μ s' < μ s → next s' M') → body s next M) {s : σ} {M : Mem} (hI : I s M) : Lp body s M := by
  have key : ∀ m s M, I s M → μ s < m → Lpn body m s M := by
    intro m
    induction m with
    | zero => intro s M _ h; omega
    | succ m ih => intro s M hI hlt; exact h s M _ hI fun s' M' hI' hlt' => ih s' M' hI' (by omega)
  exact ⟨μ s + 1, key _ s M hI (by omega)⟩

theorem w64 {x : Int} (h1 : -9223372036854775808 ≤ x) (h2 : x ≤ 9223372036854775807) : IntKind.wrap .i64 x = x := by
  rw [IntKind.wrap_i64]; omega

/-- What was known is known. -/
def Sub (M M' : Mem) : Prop := ∀ b o, M b = some o → M' b = some o
theorem Sub.refl (M : Mem) : Sub M M := fun _ _ h => h
theorem Sub.trans {A B C : Mem} (h : Sub A B) (k : Sub B C) : Sub A C := fun b o hb => k b o (h b o hb)
theorem Sub.upd {M : Mem} {b : Nat} (hb : M b = none) (o : Obj) : Sub M (M.upd b o) := fun c x hc => by
  rw [upd_ne M o (fun h => by rw [h, hb] at hc; cases hc)]; exact hc
theorem Sub.cel {M M' : Mem} (h : Sub M M') {p : PA} {v : Value} (hv : cel M p = some v) : YtdndpmlapcbjaaaGreat.cel M' p = some v := by
  unfold YtdndpmlapcbjaaaGreat.cel at *
  cases hM : M p.1 with
  | none => rw [hM] at hv; cases hv
  | some o => rw [h _ _ hM]; rw [hM] at hv; exact hv
theorem Sub.rdc {M M' : Mem} (h : Sub M M') {a : Option PA} {vs : List Value} (hr : rdc M a vs) : YtdndpmlapcbjaaaGreat.rdc M' a vs := by
  cases a with
  | none => exact hr
  | some p => exact fun j v hv => h.cel (hr j v hv)

/-- Bytes as cells. -/
def cb (l : List UInt8) : List Value := l.map fun x => .int .u8 x.toNat
theorem cb_bcs (l : List UInt8) : bcs ⟨l.toArray⟩ = cb l := by simp [bcs, cb]
theorem cb_one {l : List UInt8} : ∀ v ∈ cb l, v.oneCell' = true := fun v hv => by
  obtain ⟨x, _, rfl⟩ := List.mem_map.1 hv; rfl
theorem cb_length (l : List UInt8) : (cb l).length = l.length := by simp [cb]
/-- A slice of bytes. -/
structure BS (M : Mem) (s : Sl) (l : List UInt8) : Prop where
  rd : rdc M s.a (cb l)
  len : s.n = l.length
  cap : s.n ≤ s.c
  big : s.c ≤ 9223372036854775807
theorem BS.sub {M M' : Mem} {s : Sl} {l : List UInt8} (h : BS M s l) (hs : Sub M M') : BS M' s l := ⟨hs.rdc h.rd, h.len, h.cap, h.big⟩
theorem BS.nil (M : Mem) : BS M ⟨none, 0, 0⟩ [] := ⟨rfl, rfl, Nat.le_refl _, by decide⟩
/-- One byte of a slice. -/
theorem BS.at {M : Mem} {s : Sl} {l : List UInt8} (h : BS M s l) {i : Nat} (hi : i < l.length) : ∃ p, s.a = some p ∧ cel M (p.1, p.2 + i) = some (.int .u8 l[i].toNat) := by
  have hr := h.rd
  cases ha : s.a with
  | none =>
    rw [ha] at hr
    have h0 : l = [] := by simpa [rdc, cb] using hr
    subst h0; cases hi
  | some p =>
    rw [ha] at hr
    exact ⟨p, rfl, hr i _ (by simp [cb, hi])⟩
theorem BS.ix {M : Mem} {s : Sl} {l : List UInt8} (h : BS M s l) {i : Int} (h0 : 0 ≤ i) (h1 : i < l.length) {κ : Int → Mem → Prop} (hk : ∀ (x : UInt8), l[i.toNat]? = some x → κ x.toNat M) :
    ix s 1 i (fun p => ldI .u8 p κ) M := by
  obtain ⟨p, hp, hc⟩ := h.at (i := i.toNat) (by omega)
  exact ⟨p, hp, h0, by have := h.len; omega, _, by simpa using hc, hk _ (List.getElem?_eq_getElem _)⟩
/-- A part of a slice. -/
theorem BS.cut {M : Mem} {s : Sl} {l : List UInt8} (h : BS M s l) {lo hi mx : Int} (h0 : 0 ≤ lo) (h1 : lo ≤ hi) (h2 : hi ≤ l.length) (h3 : hi ≤ mx) (h4 : mx ≤ s.c) :
    BS M (s.cut 1 lo hi mx) ((l.drop lo.toNat).take (hi.toNat - lo.toNat)) := by
  have hlen : ((l.drop lo.toNat).take (hi.toNat - lo.toNat)).length = hi.toNat - lo.toNat := by simp; omega
  refine ⟨?_, by rw [hlen]; rfl, by show hi.toNat - lo.toNat ≤ mx.toNat - lo.toNat; omega, by have := h.big; show mx.toNat - lo.toNat ≤ _; omega⟩
  have hr := h.rd
  have get : ∀ p, s.a = some p → ∀ j v, (cb ((l.drop lo.toNat).take (hi.toNat - lo.toNat)))[j]? = some v → cel M (p.1, p.2 + lo.toNat + j) = some v := by
    intro p hp j v hv
    rw [hp] at hr
    have hj : j < hi.toNat - lo.toNat := by
      have := (List.getElem?_eq_some_iff.1 hv).1
      rw [cb_length, hlen] at this; exact this
    rw [Nat.add_assoc]
    refine hr (lo.toNat + j) v ?_
    simp only [cb, List.getElem?_map] at hv ⊢
    rw [List.getElem?_take_of_lt hj, List.getElem?_drop] at hv
    exact hv
  unfold Sl.cut
  simp only
  by_cases hm : mx.toNat = lo.toNat
  · have h0' : hi.toNat - lo.toNat = 0 := by omega
    rw [if_pos hm, h0']
    simp only [List.take_zero, cb, List.map_nil]
    have any : ∀ a : Option PA, rdc M a [] := fun a => by
      cases a with
      | none => rfl
      | some p => intro j v hv; cases hv
    exact any _
  · rw [if_neg hm]
    cases ha : s.a with
    | none =>
      rw [ha] at hr
      have h0 : l = [] := by simpa [rdc, cb] using hr
      subst h0
      simp [rdc, cb]
    | some p =>
      simp only [Option.map_some]
      rw [if_neg (by omega)]
      intro j v hv
      have := get p ha j v hv
      simpa using this
theorem BS.b2s {M : Mem} {s : Sl} {l : List UInt8} (h : BS M s l) {κ : ByteArray → Mem → Prop} (hk : κ ⟨l.toArray⟩ M) : b2s s κ M :=
  ⟨⟨l.toArray⟩, by rw [cb_bcs]; exact h.rd, by rw [h.len]; rfl, hk⟩
end Go.Proofs.YtdndpmlapcbjaaaGreat

namespace Go.Proofs.YtdndpmlapcbjaaaGreat
open Go Go.RowKit
set_option linter.unusedSimpArgs false
set_option linter.unusedVariables false

/-- disk.MayName. -/
def mayC (c : Nat) : Bool := (decide (97 ≤ c) && decide (c ≤ 122)) || (decide (48 ≤ c) && decide (c ≤ 57)) || c == 46 || c == 45 || c == 95
def mayName (s : ByteArray) : Bool := s.data.toList.all (fun x => mayC x.toNat) && decide (1 ≤ s.size) && decide (s.size ≤ 80)

theorem c197 {s : ByteArray} {K : Bool → Mem → Prop} {X : List PanicEntry → Mem → Prop} {M : Mem} (hs : s.size ≤ 9223372036854775807) (h : K (mayName s) M) : S197 s K X M := by
  unfold S197 S197_2
  refine Lp_of (σ := Int) (fun i M' => M' = M ∧ 0 ≤ i ∧ i ≤ s.size ∧ ∀ x ∈ s.data.toList.take i.toNat, mayC x.toNat = true) (fun i => s.size - i.toNat) ?_ ⟨rfl, Int.le_refl _, by omega, by simp⟩
  rintro i M' next ⟨rfl, h0, h1, h2⟩ hn
  unfold S197_2b
  refine ⟨fun hc => ?_, fun hc => ?_⟩
  · have hlt : i < s.size := by simpa using hc
    have hlt' : i.toNat < s.data.toList.length := by rw [Array.length_toList]; show i.toNat < s.size; omega
    obtain ⟨x, hx⟩ : ∃ x, s.data.toList[i.toNat]? = some x := ⟨_, List.getElem?_eq_getElem hlt'⟩
    have hx' : s[i.toNat]? = some x := by
      rw [Array.getElem?_toList] at hx
      have : i.toNat < s.size := by omega
      rw [getElem?_pos s i.toNat this]
      rw [Array.getElem?_eq_getElem (by exact this)] at hx
      exact hx
    refine ⟨x, h0, hx', ?_⟩
    have bad : mayC x.toNat = false → K false M' := fun hm => by
      have : mayName s = false := by
        have : s.data.toList.all (fun x => mayC x.toNat) = false := by
          rw [List.all_eq_false]
          exact ⟨x, List.mem_of_getElem? hx, by simp [hm]⟩
        simp [mayName, this]
      rw [this] at h; exact h
    have good : mayC x.toNat = true → next (IntKind.wrap .i64 (i + 1)) M' := fun hm => by
      rw [w64 (by omega) (by omega)]
      refine hn _ _ ⟨rfl, by omega, by omega, fun y hy => ?_⟩ (by omega)
      have : (i + 1).toNat = i.toNat + 1 := by omega
      rw [this, List.take_add_one, List.mem_append] at hy
      rcases hy with hy | hy
      · exact h2 y hy
      · rw [hx] at hy; simp at hy; rw [hy]; exact hm
    simp only [S197_3, S197_4, S197_5, S197_6, S197_7, S197_8]
    by_cases hm : mayC x.toNat = true
    · have hg := good hm
      simp [mayC] at hm
      simp [ite', hg]
      omega
    · have hb := bad (by simpa using hm)
      simp [mayC] at hm
      simp [ite', hb]
      omega
  · have hge : i = s.size := by simp at hc; omega
    have hall : s.data.toList.all (fun x => mayC x.toNat) = true := by
      rw [List.all_eq_true]
      intro x hx
      refine h2 x ?_
      rw [hge, List.take_of_length_le (by rw [Array.length_toList]; show s.size ≤ _; omega)]
      exact hx
    simp only [S197_1, S197_9]
    simp only [mayName, hall, Bool.true_and] at h
    refine ⟨fun h1 => ?_, fun h1 => ?_⟩
    · have : decide (1 ≤ s.size) = true := decide_eq_true (by have := of_decide_eq_true h1; omega)
      rw [this] at h
      have h' : decide ((s.size : Int) ≤ 80) = decide (s.size ≤ 80) := decide_eq_decide.2 ⟨fun h => by omega, fun h => by omega⟩
      rw [h']; simpa using h
    · have : decide (1 ≤ s.size) = false := decide_eq_false (by have := of_decide_eq_false h1; omega)
      rw [this] at h; simpa using h
end Go.Proofs.YtdndpmlapcbjaaaGreat

namespace Go.Proofs.YtdndpmlapcbjaaaGreat
open Go Go.RowKit
set_option linter.unusedSimpArgs false
set_option linter.unusedVariables false

/-! ### digest.Crc, as the program computes it -/
def crcStep (s : Int) : Int := ixor .u32 (ishr .u32 s 1) (iand .u32 3988292384 (IntKind.wrap .u32 (0 - (iand .u32 s 1))))
def crc8 : Nat → Int → Int
  | 0, s => s
  | n + 1, s => crc8 n (crcStep s)
def crcByte (s : Int) (b : UInt8) : Int := crc8 8 (ixor .u32 s (IntKind.wrap .u32 b.toNat))
def crcFrom (s : Int) (l : List UInt8) : Int := inot .u32 (l.foldl crcByte (inot .u32 s))
def crcOf (l : List UInt8) : Int := crcFrom 0 l

theorem c282 {s0 : Int} {s : Sl} {l : List UInt8} {K : Int → Mem → Prop} {X : List PanicEntry → Mem → Prop} {M : Mem} (hs : BS M s l) (h : K (crcFrom s0 l) M) : S282 s0 s K X M := by
  have hbig := hs.big; have hcap := hs.cap; have hlen := hs.len
  unfold S282 S282_2
  refine Lp_of (σ := Int × Int) (fun p M' => M' = M ∧ 0 ≤ p.2 ∧ p.2 ≤ l.length ∧ p.1 = (l.take p.2.toNat).foldl crcByte (inot .u32 s0)) (fun p => l.length - p.2.toNat) ?_ ⟨rfl, Int.le_refl _, by simp, by simp⟩
  rintro ⟨v, i⟩ M' next ⟨rfl, h0, h1, h2⟩ hn
  simp only at h0 h1 h2 hn ⊢
  unfold S282_2b
  refine ⟨fun hc => ?_, fun hc => ?_⟩
  · have hlt : i < l.length := by have := of_decide_eq_true hc; omega
    refine hs.ix h0 hlt fun x hx => ?_
    unfold S282_4
    refine Lp_of (σ := Int × Int) (fun p M2 => M2 = M' ∧ 0 ≤ p.2 ∧ p.2 ≤ 8 ∧ crc8 (8 - p.2.toNat) p.1 = crcByte v x) (fun p => 8 - p.2.toNat) ?_ ⟨rfl, Int.le_refl _, (show (0 : Int) ≤ 8 by decide), rfl⟩
    rintro ⟨u, j⟩ M2 next2 ⟨rfl, j0, j1, j2⟩ hn2
    simp only at j0 j1 j2 hn2 ⊢
    unfold S282_4b
    refine ⟨fun hd => ?_, fun hd => ?_⟩
    · have hj : j < 8 := of_decide_eq_true hd
      rw [w64 (by omega) (by omega)]
      refine hn2 _ _ ⟨rfl, by omega, by omega, ?_⟩ (by omega)
      have : 8 - j.toNat = (8 - (j + 1).toNat) + 1 := by omega
      rw [this] at j2; exact j2
    · have hj : j = 8 := by have := of_decide_eq_false hd; omega
      subst hj
      unfold S282_3
      rw [w64 (by omega) (by omega)]
      refine hn _ _ ⟨rfl, by omega, by omega, ?_⟩ (by omega)
      have e : (i + 1).toNat = i.toNat + 1 := by omega
      rw [e, List.take_add_one, hx, List.foldl_append, ← h2]
      simpa [crc8] using j2
  · have hge : i = l.length := by have := of_decide_eq_false hc; omega
    subst hge
    unfold S282_1
    have : (l.take ((l.length : Int).toNat)) = l := by simp
    rw [this] at h2
    rw [h2]; exact h
theorem call201 {s : Sl} {l : List UInt8} {K : Int → Mem → Prop} {X : List PanicEntry → Mem → Prop} {M : Mem} (hs : BS M s l) (h : K (crcOf l) M) :
    call 201 [Sl.v s] X (fun v_ M => ∃ r : Int, v_ = .int .u32 r ∧ K r M) M := by
  refine br201 (K := K) ?_
  unfold S201
  exact br282 (K := K) (c282 hs h)
end Go.Proofs.YtdndpmlapcbjaaaGreat

namespace Go.Proofs.YtdndpmlapcbjaaaGreat
open Go Go.RowKit
set_option linter.unusedSimpArgs false
set_option linter.unusedVariables false

/-- A slice that begins its own block. -/
structure OR (M : Mem) (s : Sl) (el k : Nat) (vs : List Value) (b : Nat) : Prop where
  at_ : s.a = some (b, 0)
  len : vs.length = s.n * k
  blk : ∃ junk : List Value, M b = some (.cells (vs ++ junk).toArray el (0, 0)) ∧ (vs ++ junk).length = s.c * k
  cap : s.n ≤ s.c
  big : s.c ≤ 9223372036854775807

theorem upd_id {M : Mem} {b : Nat} {o : Obj} (h : M b = some o) : M.upd b o = M := by
  funext c
  rw [upd_if]
  split
  · rename_i hc; rw [hc, h]
  · rfl
theorem stos_upd {b : Nat} {t : TypeId} {fr : Nat × Nat} : ∀ (vs : List Value) (M : Mem) (cs : List Value) (off : Nat), M b = some (.cells cs.toArray t fr) → stos M (b, off) vs = M.upd b (.cells (putL cs off vs).toArray t fr) := by
  intro vs
  induction vs with
  | nil => intro M cs off h; rw [putL, upd_id h]; rfl
  | cons v vs ih =>
    intro M cs off h
    have e1 : sto M (b, off) v = M.upd b (.cells (cs.set off v).toArray t fr) := by rw [sto_upd h, List.setIfInBounds_toArray]
    show stos (sto M (b, off) v) (b, off + 1) vs = _
    rw [e1, ih _ _ _ (upd_same _ _ _), upd_upd]
    rfl
theorem putL_app : ∀ (news : List Value) (vs junk : List Value), news.length ≤ junk.length → putL (vs ++ junk) vs.length news = vs ++ news ++ junk.drop news.length := by
  intro news
  induction news with
  | nil => intro vs junk _; simp [putL]
  | cons v news ih =>
    intro vs junk h
    cases junk with
    | nil => simp at h
    | cons j junk =>
      have e : (vs ++ j :: junk).set vs.length v = (vs ++ [v]) ++ junk := by simp
      rw [putL, e]
      have := ih (vs ++ [v]) junk (by simp at h; omega)
      rw [List.length_append, List.length_singleton] at this
      rw [this]
      simp
theorem OR.rdc {M : Mem} {s : Sl} {el k : Nat} {vs : List Value} {b : Nat} (h : OR M s el k vs b) : rdc M s.a vs := by
  obtain ⟨junk, hj, _⟩ := h.blk
  rw [h.at_]
  intro j v hv
  have hlt := (List.getElem?_eq_some_iff.1 hv).1
  simp only [cel, hj, Nat.zero_add, List.getElem?_toArray]
  rw [List.getElem?_append_left hlt]; exact hv
theorem zeros_length (zs : List Value) (n : Nat) : (Builtin.zeroCells zs.toArray n).toList.length = n * zs.length := by simp [Builtin.zeroCells]

section
variable {M : Mem} {s x : Sl} {el k by_ : Nat} {zs vs news : List Value} {κ : Sl → Mem → Prop}
/-- An append that must grow. -/
theorem app_fresh (ho : rdc M s.a vs) (hl : vs.length = s.n * k) (hz : zs.length = k) (hx : rdc M x.a news) (hn : news.length = x.n * k) (h1 : ∀ v ∈ news, v.oneCell' = true) (hb : (s.n + x.n) * by_ ≤ 140737488355328) (hm : s.n + x.n ≤ 9223372036854775807)
    (hc : s.c < s.n + x.n) (h : ∀ r b M', OR M' r el k (vs ++ news) b → r.n = s.n + x.n → M b = none → (∀ d, d ≠ b → M' d = M d) → κ r M') : appS el k by_ zs s x κ M := by
  refine ⟨vs, news, ho, hl, hx, hn, h1, hb, hm, fun hc' => absurd hc (by omega), fun _ c b g1 g2 g3 => h _ b _ ⟨rfl, ?_, ⟨_, upd_same _ _ _, ?_⟩, g1, g2⟩ rfl g3 fun d hd => upd_ne _ _ hd⟩
  · rw [List.length_append, hl, hn, Nat.add_mul]
  · rw [List.length_append, List.length_append, zeros_length, hl, hn, hz]
    show _ = c * k
    rw [← Nat.add_mul, ← Nat.add_mul]; congr 1; omega
/-- An append to a row of one's own. -/
theorem app_own {b : Nat} (ho : OR M s el k vs b) (hz : zs.length = k) (hx : rdc M x.a news) (hn : news.length = x.n * k) (h1 : ∀ v ∈ news, v.oneCell' = true) (hb : (s.n + x.n) * by_ ≤ 140737488355328) (hm : s.n + x.n ≤ 9223372036854775807)
    (h : ∀ r b' M', OR M' r el k (vs ++ news) b' → r.n = s.n + x.n → (b' = b ∨ M b' = none) → (∀ d, d ≠ b' → M' d = M d) → κ r M') : appS el k by_ zs s x κ M := by
  by_cases hc : s.n + x.n ≤ s.c
  · obtain ⟨junk, hj, hjl⟩ := ho.blk
    have hlen := ho.len
    have hle : news.length ≤ junk.length := by
      rw [List.length_append, hlen] at hjl
      have : (s.n + x.n) * k ≤ s.c * k := Nat.mul_le_mul_right _ hc
      rw [Nat.add_mul] at this; omega
    have hput := putL_app news vs junk hle
    rw [hlen] at hput
    refine ⟨vs, news, ho.rdc, hlen, hx, hn, h1, hb, hm, fun _ => .inr ⟨(b, 0), ho.at_, fun j hj' => ?_, ?_⟩, fun hc' => absurd hc (by omega)⟩
    · refine ⟨_, _, _, hj, ?_, fun hf => by simp at hf⟩
      simp only [List.size_toArray, List.length_append, Nat.zero_add]; omega
    · rw [ho.at_] 
      have hst := stos_upd (b := b) news M _ (0 + s.n * k) hj
      rw [hst, Nat.zero_add, hput]
      refine h ⟨some (b, 0), s.n + x.n, s.c⟩ b _ ⟨rfl, ?_, ⟨junk.drop news.length, upd_same _ _ _, ?_⟩, hc, ho.big⟩ rfl (.inl rfl) fun d hd => upd_ne _ _ hd
      · rw [List.length_append, hlen, hn, Nat.add_mul]
      · rw [← hjl]; simp only [List.length_append, List.length_drop]; omega
  · exact app_fresh ho.rdc ho.len hz hx hn h1 hb hm (by omega) fun r b' M' g1 g2 g3 g4 => h r b' M' g1 g2 (.inr g3) g4
end
/-- A row of bytes of one's own is a row of bytes. -/
theorem OR.bs {M : Mem} {s : Sl} {l : List UInt8} {b : Nat} (h : OR M s 5 1 (cb l) b) : BS M s l :=
  ⟨h.rdc, by have := h.len; rw [cb_length] at this; omega, h.cap, h.big⟩
end Go.Proofs.YtdndpmlapcbjaaaGreat

namespace Go.Proofs.YtdndpmlapcbjaaaGreat
open Go Go.RowKit
set_option linter.unusedSimpArgs false
set_option linter.unusedVariables false

def u8 (x : Int) : UInt8 := UInt8.ofNat (IntKind.wrap .u8 x).toNat
theorem u8_val (x : Int) : IntKind.wrap .u8 x = ((u8 x).toNat : Int) := by
  have h : IntKind.wrap .u8 x = x % 256 := by simp [IntKind.wrap, IntKind.bits, IntKind.signed]
  have h0 : 0 ≤ x % 256 := Int.emod_nonneg _ (by decide)
  have h1 : x % 256 < 256 := Int.emod_lt_of_pos _ (by decide)
  rw [u8, h, UInt8.toNat_ofNat']
  omega
/-- The four bytes of a word. -/
def le4 (n : Int) : List UInt8 := [u8 (IntKind.wrap .u32 n), u8 (ishr .u32 (IntKind.wrap .u32 n) 8), u8 (ishr .u32 (IntKind.wrap .u32 n) 16), u8 (ishr .u32 (IntKind.wrap .u32 n) 24)]

theorem c200 {s : Sl} {l : List UInt8} {n : Int} {K : Sl → Mem → Prop} {X : List PanicEntry → Mem → Prop} {M : Mem} (hs : BS M s l) (hl : l.length ≤ 1000000000)
    (h : ∀ r b M', OR M' r 5 1 (cb (l ++ le4 n)) b → M b = none → Sub M M' → K r M') : S200 s n K X M := by
  have hbig := hs.big; have hcap := hs.cap; have hlen := hs.len
  unfold S200
  refine ⟨⟨Int.le_refl _, by omega, Int.le_refl _, by omega⟩, fun b2 hb2 => ?_⟩
  have hcut := (hs.sub (Sub.upd hb2 (.cells #[.int .u8 (IntKind.wrap .u8 (IntKind.wrap .u32 n)), .int .u8 (IntKind.wrap .u8 (ishr .u32 (IntKind.wrap .u32 n) 8)), .int .u8 (IntKind.wrap .u8 (ishr .u32 (IntKind.wrap .u32 n) 16)), .int .u8 (IntKind.wrap .u8 (ishr .u32 (IntKind.wrap .u32 n) 24))] 5 (0, 0)))).cut (lo := 0) (hi := s.n) (mx := s.n) (Int.le_refl _) (by omega) (by omega) (Int.le_refl _) (by omega)
  have e1 : ((l.drop (0 : Int).toNat).take ((s.n : Int).toNat - (0 : Int).toNat)) = l := by simp [hlen]
  rw [e1] at hcut
  refine app_fresh (vs := cb l) (news := cb (le4 n)) hcut.rd (by rw [cb_length]; have := hcut.len; omega) rfl ?_ rfl cb_one (by have := hcut.len; simp; omega) (by have := hcut.len; simp; omega) (by show (s.n : Int).toNat - (0 : Int).toNat < (s.n : Int).toNat - (0 : Int).toNat + 4; omega) ?_
  · intro j v hv
    simp only [cel, upd_same, Nat.zero_add]
    rw [← hv]
    simp only [cb, le4, List.map_cons, List.map_nil, u8_val]
    simp
  · intro r b M' g1 g2 g3 g4
    have hne : b ≠ b2 := fun h => by rw [h, upd_same] at g3; cases g3
    rw [upd_ne _ _ hne] at g3
    refine h r b M' (by rw [cb, List.map_append]; exact g1) g3 fun c o hc => ?_
    have hcb : c ≠ b := fun h => by rw [h, g3] at hc; cases hc
    rw [g4 c hcb]
    exact Sub.upd hb2 _ c o hc
theorem call200 {s : Sl} {l : List UInt8} {n : Int} {K : Sl → Mem → Prop} {X : List PanicEntry → Mem → Prop} {M : Mem} (hs : BS M s l) (hl : l.length ≤ 1000000000)
    (h : ∀ r b M', OR M' r 5 1 (cb (l ++ le4 n)) b → M b = none → Sub M M' → K r M') : call 200 [Sl.v s, .int .i32 n] X (fun v_ M => ∃ r : Sl, v_ = Sl.v r ∧ K r M) M :=
  br200 (K := K) (c200 hs hl h)

/-! ### word.Get -/
def get4 : Nat → Int → List UInt8 → Int
  | j, acc, b :: l => if j < 4 then get4 (j + 1) (ior .u32 acc (ishl .u32 (IntKind.wrap .u32 b.toNat) (8 * j))) l else acc
  | _, acc, [] => acc
/-- The word at a place. -/
def wordAt (l : List UInt8) (i : Nat) : Int := IntKind.wrap .i32 (get4 0 0 (l.drop i))
theorem c284 {s : Sl} {l : List UInt8} {i : Int} {K : Int → Bool → Mem → Prop} {X : List PanicEntry → Mem → Prop} {M : Mem} (hs : BS M s l) (hl : l.length ≤ 1000000000) (hi : -1000000000 ≤ i ∧ i ≤ 1000000000)
    (h1 : 0 ≤ i → i + 4 ≤ l.length → K (wordAt l i.toNat) true M) (h2 : (i < 0 ∨ l.length < i + 4) → K 0 false M) : S284 s i K X M := by
  have hlen := hs.len
  unfold S284
  have no : i < 0 ∨ l.length < i + 4 → ∀ b, (b = true) → S284_1 s i b K X M := by
    rintro hc b rfl
    exact ⟨fun _ => h2 hc, fun h => (by cases h)⟩
  refine ⟨fun hc => no (.inl (of_decide_eq_true hc)) _ rfl, fun hc => ?_⟩
  have hi0 : 0 ≤ i := by have := of_decide_eq_false hc; omega
  rw [w64 (by omega) (by omega)]
  by_cases hgt : i > (s.n : Int) - 4
  · exact no (.inr (by omega)) _ (decide_eq_true hgt)
  · rw [decide_eq_false hgt]
    refine ⟨fun h => (by cases h), fun _ => ?_⟩
    unfold S284_3
    refine Lp_of (σ := Int × Int) (fun p M' => M' = M ∧ 0 ≤ p.2 ∧ p.2 ≤ 4 ∧ get4 p.2.toNat p.1 (l.drop (i.toNat + p.2.toNat)) = get4 0 0 (l.drop i.toNat)) (fun p => 4 - p.2.toNat) ?_ ⟨rfl, Int.le_refl _, (show (0 : Int) ≤ 4 by decide), rfl⟩
    rintro ⟨acc, j⟩ M' next ⟨rfl, j0, j1, j2⟩ hn
    simp only at j0 j1 j2 hn ⊢
    unfold S284_3b
    refine ⟨fun hd => ?_, fun hd => ?_⟩
    · have hj : j < 4 := of_decide_eq_true hd
      rw [w64 (x := i + j) (by omega) (by omega), w64 (x := 8 * j) (by omega) (by omega), w64 (x := j + 1) (by omega) (by omega)]
      refine hs.ix (by omega) (by omega) fun x hx => ⟨by omega, ?_⟩
      refine hn _ _ ⟨rfl, by omega, by omega, ?_⟩ (by omega)
      have e1 : (i + j).toNat = i.toNat + j.toNat := by omega
      rw [e1] at hx
      have hd2 : l.drop (i.toNat + j.toNat) = x :: l.drop (i.toNat + j.toNat + 1) := by
        obtain ⟨hlt, hxx⟩ := List.getElem?_eq_some_iff.1 hx
        rw [List.drop_eq_getElem_cons hlt, hxx]
      rw [hd2, get4, if_pos (by omega)] at j2
      have e2 : (j + 1).toNat = j.toNat + 1 := by omega
      have e3 : ((8 * j.toNat : Nat) : Int) = 8 * j := by omega
      rw [e2, ← Nat.add_assoc]
      have e4 : (8 * (j.toNat : Int)) = 8 * j := by omega
      rw [e4] at j2
      exact j2
    · have hj : j = 4 := by have := of_decide_eq_false hd; omega
      subst hj
      unfold S284_2
      have hend : get4 (4 : Int).toNat acc (l.drop (i.toNat + (4 : Int).toNat)) = acc := by
        cases l.drop (i.toNat + (4 : Int).toNat) with
        | nil => rfl
        | cons y ys => rfl
      rw [hend] at j2
      have := h1 hi0 (by omega)
      rw [wordAt, ← j2] at this
      exact this
theorem call284 {s : Sl} {l : List UInt8} {i : Int} {K : Int → Bool → Mem → Prop} {X : List PanicEntry → Mem → Prop} {M : Mem} (hs : BS M s l) (hl : l.length ≤ 1000000000) (hi : -1000000000 ≤ i ∧ i ≤ 1000000000)
    (h1 : 0 ≤ i → i + 4 ≤ l.length → K (wordAt l i.toNat) true M) (h2 : (i < 0 ∨ l.length < i + 4) → K 0 false M) :
    call 284 [Sl.v s, .int .i64 i] X (fun v_ M => ∃ (r : Int) (q : Bool), v_ = .tuple #[.int .i32 r, .bool q] ∧ K r q M) M := br284 (K := K) (c284 hs hl hi h1 h2)
end Go.Proofs.YtdndpmlapcbjaaaGreat

namespace Go.Proofs.YtdndpmlapcbjaaaGreat
open Go Go.RowKit
set_option linter.unusedSimpArgs false
set_option linter.unusedVariables false

theorem cb_app (a b : List UInt8) : cb (a ++ b) = cb a ++ cb b := List.map_append
theorem sub_fresh {M M' M2 : Mem} {b : Nat} (h : Sub M M') (hb : M b = none) (hd : ∀ d, d ≠ b → M2 d = M' d) : Sub M M2 := fun c o hc => by
  rw [hd c (fun h => by rw [h, hb] at hc; cases hc)]; exact h c o hc

/-- An append of bytes to a row of bytes of one's own, beside what was known. -/
theorem app_bytes {M0 M : Mem} {s x : Sl} {l l2 : List UInt8} {b : Nat} {κ : Sl → Mem → Prop} (h0 : Sub M0 M) (hb0 : M0 b = none) (ho : OR M s 5 1 (cb l) b) (hx : BS M x l2) (hl : l.length + l2.length ≤ 1000000000)
    (h : ∀ r b' M', OR M' r 5 1 (cb (l ++ l2)) b' → M0 b' = none → Sub M0 M' → κ r M') : appS 5 1 1 [.int .u8 0] s x κ M := by
  have h1 := ho.bs.len
  have h2 := hx.len
  refine app_own ho rfl hx.rd (by rw [cb_length]; omega) cb_one (by omega) (by omega) fun r b' M' g1 g2 g3 g4 => ?_
  have hb' : M0 b' = none := by
    rcases g3 with rfl | g3
    · exact hb0
    · cases hc : M0 b' with
      | none => rfl
      | some o => rw [h0 _ _ hc] at g3; cases g3
  exact h r b' M' (by rw [cb_app]; exact g1) hb' (sub_fresh h0 hb' g4)

/-- wal.Frame. -/
def frameH (l : List UInt8) : List UInt8 := le4 (IntKind.wrap .i32 l.length) ++ l
def frame (l : List UInt8) : List UInt8 := frameH l ++ le4 (IntKind.wrap .i32 (crcOf (frameH l)))
theorem c123 {s : Sl} {l : List UInt8} {K : Sl → Int → Mem → Prop} {X : List PanicEntry → Mem → Prop} {M : Mem} (hs : BS M s l)
    (h1 : l.length ≤ 65536 → ∀ r b M', OR M' r 5 1 (cb (frame l)) b → M b = none → Sub M M' → K r 0 M') (h2 : 65536 < l.length → K ⟨none, 0, 0⟩ 2 M) : S123 s K X M := by
  have hlen := hs.len
  unfold S123
  refine ⟨fun hc => h2 (by have := of_decide_eq_true hc; omega), fun hc => ?_⟩
  have hle : l.length ≤ 65536 := by have := of_decide_eq_false hc; omega
  refine call200 (BS.nil M) (by simp) fun r1 b1 M1 g1 g2 g3 => ?_
  rw [List.nil_append, hlen] at g1
  refine app_bytes g3 g2 g1 (hs.sub g3) (by simp [le4]; omega) fun r2 b2 M2 k1 k2 k3 => ?_
  refine call201 k1.bs ?_
  refine call200 k1.bs (by simp [le4]; omega) fun r4 b4 M4 q1 q2 q3 => ?_
  refine h1 hle r4 b4 M4 q1 ?_ (k3.trans q3)
  cases hc : M b4 with
  | none => rfl
  | some o => rw [k3 _ _ hc] at q2; cases q2
theorem call123 {s : Sl} {l : List UInt8} {K : Sl → Int → Mem → Prop} {X : List PanicEntry → Mem → Prop} {M : Mem} (hs : BS M s l)
    (h1 : l.length ≤ 65536 → ∀ r b M', OR M' r 5 1 (cb (frame l)) b → M b = none → Sub M M' → K r 0 M') (h2 : 65536 < l.length → K ⟨none, 0, 0⟩ 2 M) :
    call 123 [Sl.v s] X (fun v_ M => ∃ (r : Sl) (n : Int), v_ = .tuple #[Sl.v r, .int .i64 n] ∧ K r n M) M := br123 (K := K) (c123 hs h1 h2)
end Go.Proofs.YtdndpmlapcbjaaaGreat

namespace Go.Proofs.YtdndpmlapcbjaaaGreat
open Go Go.RowKit
set_option linter.unusedSimpArgs false
set_option linter.unusedVariables false

/-- slices.Grow of nothing. -/
theorem c202 {n : Int} {K : Sl → Mem → Prop} {X : List PanicEntry → Mem → Prop} {M : Mem} (h0 : 0 < n) (h1 : n ≤ 1000000000)
    (h : ∀ r b M', OR M' r 5 1 (cb []) b → M b = none → Sub M M' → K r M') : S202 ⟨none, 0, 0⟩ n K X M := by
  unfold S202
  refine ⟨fun hc => absurd (of_decide_eq_true hc) (by omega), fun _ => ?_⟩
  unfold S202_1
  have e0 : IntKind.wrap .i64 ((((⟨none, 0, 0⟩ : Sl).c : Nat) : Int) - (((⟨none, 0, 0⟩ : Sl).n : Nat) : Int)) = 0 := w64 (by simp) (by simp)
  simp only [e0]
  have e1 : IntKind.wrap .i64 (n - 0) = n := by rw [w64] <;> omega
  simp only [e1]
  refine ⟨fun _ => ⟨⟨by simp, by simp, by simp, by simp⟩, ?_⟩, fun hc => absurd (of_decide_eq_false hc) (by omega)⟩
  refine ⟨[], rfl, by simp [Sl.cut], rfl, by decide, fun v hv => by (simp at hv; subst hv; rfl), by omega, by simp [Sl.cut]; omega, by simp [Sl.cut]; omega, fun hc => ?_, fun _ c b g1 g2 g3 => ?_⟩
  · simp [Sl.cut] at hc; omega
  · simp only [Sl.cut] at g1 ⊢
    refine ⟨⟨by simp, by simp, by simp, by simp⟩, ?_⟩
    unfold S202_2
    refine h _ b _ ⟨?_, by simp [cb], ⟨_, upd_same _ _ _, ?_⟩, by simp, by simp; omega⟩ g3 (Sub.upd g3 _)
    · have : ¬ ((c : Int).toNat = (0 : Int).toNat) := by simp at g1 ⊢; omega
      rw [if_neg this]; rfl
    · have z1 := zeroCells_len [.int .u8 0] n.toNat
      have z2 := zeroCells_len [.int .u8 0] (c - (((0 : Nat) : Int).toNat - Int.toNat 0 + n.toNat))
      have key : ([] ++ (([] ++ (Builtin.zeroCells [Value.int .u8 0].toArray n.toNat).toList) ++ (Builtin.zeroCells [Value.int .u8 0].toArray (c - (((0 : Nat) : Int).toNat - Int.toNat 0 + n.toNat))).toList)).length = ((c : Int).toNat - Int.toNat 0) * 1 := by
        rw [List.length_append, List.length_append, List.length_append, z1, z2]
        simp at g1 ⊢; omega
      exact key

/-- A slice of slices. -/
structure BB (M : Mem) (s : Sl) (ss : List Sl) : Prop where
  rd : rdc M s.a (ss.map Sl.v)
  len : s.n = ss.length
  cap : s.n ≤ s.c
  big : s.c ≤ 9223372036854775807
theorem BB.sub {M M' : Mem} {s : Sl} {ss : List Sl} (h : BB M s ss) (hs : Sub M M') : BB M' s ss := ⟨hs.rdc h.rd, h.len, h.cap, h.big⟩
theorem BB.ix {M : Mem} {s : Sl} {ss : List Sl} (h : BB M s ss) {i : Int} (h0 : 0 ≤ i) (h1 : i < ss.length) {κ : Sl → Mem → Prop} (hk : ∀ x, ss[i.toNat]? = some x → κ x M) : YtdndpmlapcbjaaaGreat.ix s 1 i (fun p => ldL p κ) M := by
  have hr := h.rd
  have hlt : i.toNat < ss.length := by omega
  cases ha : s.a with
  | none =>
    rw [ha] at hr
    have h0 : ss = [] := by simpa [YtdndpmlapcbjaaaGreat.rdc] using hr
    subst h0; simp at hlt
  | some p =>
    rw [ha] at hr
    refine ⟨p, ha, h0, by have := h.len; omega, ss[i.toNat], ?_, hk _ (List.getElem?_eq_getElem hlt)⟩
    have := hr i.toNat (ss[i.toNat]).v (by simp [hlt])
    simpa using this

def total (ls : List (List UInt8)) : Nat := (ls.map List.length).sum
theorem total_take (ls : List (List UInt8)) {i : Nat} {l : List UInt8} (h : ls[i]? = some l) : total (ls.take (i + 1)) = total (ls.take i) + l.length := by
  rw [total, List.take_add_one, h, List.map_append, List.sum_append]; simp [total]
theorem total_flat (ls : List (List UInt8)) : ls.flatten.length = total ls := by rw [total, List.length_flatten]
theorem total_le (ls : List (List UInt8)) (i : Nat) : total (ls.take i) ≤ total ls := by
  have : total ls = total (ls.take i) + total (ls.drop i) := by
    rw [total, total, total, ← List.sum_append, ← List.map_append, List.take_append_drop]
  omega

theorem c124 {s : Sl} {ss : List Sl} {ls : List (List UInt8)} {K : Sl → Mem → Prop} {X : List PanicEntry → Mem → Prop} {M : Mem} (hb : BB M s ss) (hl : ss.length = ls.length)
    (hs : ∀ (i : Nat) (x : Sl) (l : List UInt8), ss[i]? = some x → ls[i]? = some l → BS M x l) (h0 : 0 < total ls) (h1 : total ls ≤ 1000000000) (h2 : ls.length ≤ 1000000000)
    (h : ∀ r b M', OR M' r 5 1 (cb ls.flatten) b → M b = none → Sub M M' → K r M') : S124 s K X M := by
  have hlen := hb.len
  unfold S124 S124_2
  refine Lp_of (σ := Int × Int) (fun p M' => M' = M ∧ 0 ≤ p.2 ∧ p.2 ≤ ls.length ∧ p.1 = total (ls.take p.2.toNat)) (fun p => ls.length - p.2.toNat) ?_ ⟨rfl, Int.le_refl _, Int.natCast_nonneg _, by simp [total]⟩
  rintro ⟨z, i⟩ M' next ⟨rfl, i0, i1, i2⟩ hn
  simp only at i0 i1 i2 hn ⊢
  unfold S124_2b
  refine ⟨fun hc => ?_, fun hc => ?_⟩
  · have hlt : i < ls.length := by have := of_decide_eq_true hc; omega
    refine hb.ix i0 (by omega) fun x hx => ?_
    obtain ⟨l, hll⟩ : ∃ l, ls[i.toNat]? = some l := ⟨_, List.getElem?_eq_getElem (by omega)⟩
    have hxl := (hs _ x l hx hll).len
    have ht := total_take ls hll
    have hle := total_le ls (i.toNat + 1)
    rw [w64 (by omega) (by omega)]
    refine ⟨fun hcc => absurd (of_decide_eq_true hcc) (by omega), fun _ => ?_⟩
    unfold S124_3
    rw [w64 (by omega) (by omega)]
    refine hn _ _ ⟨rfl, by omega, by omega, ?_⟩ (by omega)
    have e : (i + 1).toNat = i.toNat + 1 := by omega
    rw [e, ht]; omega
  · have hge : i = ls.length := by have := of_decide_eq_false hc; omega
    subst hge
    have hz : z = total ls := by rw [i2]; simp
    subst hz
    unfold S124_1
    refine br202 (K := fun r8 => S124_5 r8 s (s.n : Int) 0 K X) (c202 (by omega) (by omega) fun r b M1 g1 g2 g3 => ?_)
    unfold S124_5
    refine Lp_of (σ := Sl × Int) (fun p M2 => Sub M' M2 ∧ 0 ≤ p.2 ∧ p.2 ≤ ls.length ∧ ∃ b, M' b = none ∧ OR M2 p.1 5 1 (cb (ls.take p.2.toNat).flatten) b) (fun p => ls.length - p.2.toNat) ?_ ⟨g3, Int.le_refl _, Int.natCast_nonneg _, b, g2, by simpa using g1⟩
    rintro ⟨r2, j⟩ M2 next2 ⟨k1, j0, j1, b2, k2, k3⟩ hn2
    simp only at j0 j1 k3 hn2 ⊢
    unfold S124_5b
    refine ⟨fun hd => ?_, fun hd => ?_⟩
    · have hlt : j < ls.length := by have := of_decide_eq_true hd; omega
      refine (hb.sub k1).ix j0 (by omega) fun x hx => ?_
      obtain ⟨l, hll⟩ : ∃ l, ls[j.toNat]? = some l := ⟨_, List.getElem?_eq_getElem (by omega)⟩
      have ht := total_take ls hll
      have hle := total_le ls (j.toNat + 1)
      refine app_bytes k1 k2 k3 ((hs _ x l hx hll).sub k1) (by rw [total_flat]; omega) fun r b' M3 q1 q2 q3 => ?_
      rw [w64 (by omega) (by omega)]
      refine hn2 _ _ ⟨q3, by omega, by omega, b', q2, ?_⟩ (by omega)
      have e : (j + 1).toNat = j.toNat + 1 := by omega
      rw [e, List.take_add_one, hll, List.flatten_append]
      simpa using q1
    · have hge : j = ls.length := by have := of_decide_eq_false hd; omega
      subst hge
      unfold S124_4
      refine h r2 b2 M2 ?_ k2 k1
      simpa using k3
end Go.Proofs.YtdndpmlapcbjaaaGreat

namespace Go.Proofs.YtdndpmlapcbjaaaGreat
open Go Go.RowKit
set_option linter.unusedSimpArgs false
set_option linter.unusedVariables false

theorem none_of_sub {M M' : Mem} (h : Sub M M') {b : Nat} (hb : M' b = none) : M b = none := by
  cases hc : M b with
  | none => rfl
  | some o => rw [h _ _ hc] at hb; cases hb
theorem frame_length (l : List UInt8) : (frame l).length = l.length + 8 := by simp [frame, frameH, le4]
def entry (key art : List UInt8) : List UInt8 := frame key ++ frame art
theorem c59 {s t : Sl} {key art : List UInt8} {K : Sl → Int → Mem → Prop} {X : List PanicEntry → Mem → Prop} {M : Mem} (hs : BS M s key) (ht : BS M t art)
    (h1 : key.length ≤ 65536 → art.length ≤ 65536 → ∀ r b M', OR M' r 5 1 (cb (entry key art)) b → M b = none → Sub M M' → K r 0 M')
    (h2 : 65536 < key.length ∨ 65536 < art.length → ∀ M', Sub M M' → K ⟨none, 0, 0⟩ 2 M') : S59 s t K X M := by
  unfold S59
  refine call123 hs (fun hk r1 b1 M1 g1 g2 g3 => ?_) (fun hk => ⟨fun _ => h2 (.inl hk) M (Sub.refl M), fun hc => by simp at hc⟩)
  refine ⟨fun hc => by simp at hc, fun _ => ?_⟩
  refine call123 (ht.sub g3) (fun ha r2 b2 M2 k1 k2 k3 => ?_) (fun ha => ⟨fun _ => h2 (.inr ha) M1 g3, fun hc => by simp at hc⟩)
  refine ⟨fun hc => by simp at hc, fun _ b3 hb3 => ?_⟩
  have u3 := Sub.upd hb3 (.cells #[Sl.v r1, Sl.v r2] 32 (0, 0))
  have hbb : BB (M2.upd b3 (.cells #[Sl.v r1, Sl.v r2] 32 (0, 0))) ⟨some (b3, 0), 2, 2⟩ [r1, r2] := by
    refine ⟨fun j v hv => ?_, rfl, Nat.le_refl _, (show (2 : Nat) ≤ 9223372036854775807 by decide)⟩
    simp only [cel, upd_same, Nat.zero_add]
    rw [← hv]; simp
  refine br124 (K := fun r4 => K r4 0) (c124 (ls := [frame key, frame art]) hbb rfl (fun i x l hx hl => ?_) ?_ ?_ (by simp) fun r b M' q1 q2 q3 => ?_)
  · match i, hx, hl with
    | 0, hx, hl => cases hx; cases hl; exact (g1.bs.sub k3).sub u3
    | 1, hx, hl => cases hx; cases hl; exact k1.bs.sub u3
    | n + 2, hx, hl => cases hx
  · simp [total, frame_length]; omega
  · simp [total, frame_length]; omega
  · refine h1 hk ha r b M' (by simpa [entry] using q1) (none_of_sub g3 (none_of_sub k3 (none_of_sub u3 q2))) (g3.trans (k3.trans (u3.trans q3)))
theorem call59 {s t : Sl} {key art : List UInt8} {K : Sl → Int → Mem → Prop} {X : List PanicEntry → Mem → Prop} {M : Mem} (hs : BS M s key) (ht : BS M t art)
    (h1 : key.length ≤ 65536 → art.length ≤ 65536 → ∀ r b M', OR M' r 5 1 (cb (entry key art)) b → M b = none → Sub M M' → K r 0 M')
    (h2 : 65536 < key.length ∨ 65536 < art.length → ∀ M', Sub M M' → K ⟨none, 0, 0⟩ 2 M') :
    call 59 [Sl.v s, Sl.v t] X (fun v_ M => ∃ (r : Sl) (n : Int), v_ = .tuple #[Sl.v r, .int .i64 n] ∧ K r n M) M := br59 (K := K) (c59 hs ht h1 h2)
end Go.Proofs.YtdndpmlapcbjaaaGreat

namespace Go.Proofs.YtdndpmlapcbjaaaGreat
open Go Go.RowKit
set_option linter.unusedSimpArgs false
set_option linter.unusedVariables false

/-- slices.Clone, for elements of one cell. -/
theorem clone_ {el by_ : Nat} {zs vs : List Value} {s : Sl} {K : Sl → Mem → Prop} {M : Mem} (hz : zs.length = 1) (hr : rdc M s.a vs) (hl : vs.length = s.n) (h1 : ∀ v ∈ vs, v.oneCell' = true) (hb : s.n * by_ ≤ 140737488355328) (hm : s.n ≤ 9223372036854775807)
    (hnil : s.a = none → K ⟨none, 0, 0⟩ M) (h : ∀ r b M', OR M' r el 1 vs b → r.n = s.n → M b = none → Sub M M' → K r M') :
    ite' s.a.isNone (K ⟨none, 0, 0⟩) (new (.cells #[] el (0, 0)) fun b1 => appS el 1 by_ zs ⟨some (b1, 0), 0, 0⟩ s fun x => K x) M := by
  refine ⟨fun hc => hnil (by simpa using hc), fun _ b1 hb1 => ?_⟩
  have u := Sub.upd hb1 (.cells #[] el (0, 0))
  have ho : OR (M.upd b1 (.cells #[] el (0, 0))) ⟨some (b1, 0), 0, 0⟩ el 1 [] b1 := ⟨rfl, rfl, ⟨[], upd_same _ _ _, rfl⟩, Nat.le_refl _, Nat.zero_le _⟩
  refine app_own ho hz (u.rdc hr) (by omega) h1 (by simpa using hb) (by simpa using hm) fun r b' M' g1 g2 g3 g4 => ?_
  have hb' : M b' = none := by
    rcases g3 with rfl | g3
    · exact hb1
    · exact none_of_sub u g3
  exact h r b' M' (by simpa using g1) (by simpa using g2) hb' (sub_fresh u hb' g4)

theorem c64 {s : Sl} {l : List UInt8} {K : Sl → Mem → Prop} {X : List PanicEntry → Mem → Prop} {M : Mem} (hs : BS M s l) (hl : l.length ≤ 1000000000)
    (h : ∀ r M', BS M' r l → Sub M M' → (r = ⟨none, 0, 0⟩ ∨ ∃ b, OR M' r 5 1 (cb l) b ∧ M b = none) → K r M') : S64 s K X M := by
  have hlen := hs.len
  unfold S64
  refine clone_ (vs := cb l) rfl hs.rd (by rw [cb_length]; omega) cb_one (by omega) (by omega) (fun hn => ?_) fun r b M' g1 g2 g3 g4 => h r M' g1.bs g4 (.inr ⟨b, g1, g3⟩)
  have h0 : l = [] := by
    have := hs.rd
    rw [hn] at this
    simpa [rdc, cb] using this
  subst h0
  exact h _ M (BS.nil M) (Sub.refl M) (.inl rfl)
theorem callK64 {s : Sl} {l : List UInt8} {K : Sl → Mem → Prop} {M : Mem} (hs : BS M s l) (hl : l.length ≤ 1000000000)
    (h : ∀ r M', BS M' r l → Sub M M' → (r = ⟨none, 0, 0⟩ ∨ ∃ b, OR M' r 5 1 (cb l) b ∧ M b = none) → K r M') : callK 64 [Sl.v s] (fun v_ M => ∃ r : Sl, v_ = Sl.v r ∧ K r M) M :=
  (br64 (K := fun r M' => Sub M M' ∧ K r M') (c64 hs hl fun r M' g1 g2 g3 => ⟨g2, h r M' g1 g2 g3⟩)).mono (fun v M' ⟨r, g1, g2, g3⟩ => ⟨g2, r, g1, g3⟩) (fun _ _ h => h)
end Go.Proofs.YtdndpmlapcbjaaaGreat

namespace Go.Proofs.YtdndpmlapcbjaaaGreat
open Go Go.RowKit
set_option linter.unusedSimpArgs false
set_option linter.unusedVariables false

theorem callK201 {s : Sl} {l : List UInt8} {K : Int → Mem → Prop} {M : Mem} (hs : BS M s l) (h : K (crcOf l) M) : callK 201 [Sl.v s] (fun v_ M => ∃ r : Int, v_ = .int .u32 r ∧ K r M) M :=
  (call201 (K := fun r M' => Sub M M' ∧ K r M') hs ⟨Sub.refl M, h⟩).mono (fun v M' ⟨r, g1, g2, g3⟩ => ⟨g2, r, g1, g3⟩) (fun _ _ h => h)

/-- wal.first: the first frame's record. -/
def firstOk (l : List UInt8) : Bool := decide (4 ≤ l.length) && decide (0 ≤ wordAt l 0) && decide (wordAt l 0 ≤ 65536) && decide (wordAt l 0 + 8 ≤ l.length) &&
  (IntKind.wrap .u32 (wordAt l (4 + (wordAt l 0).toNat)) == crcOf (l.take (4 + (wordAt l 0).toNat)))
def firstRec (l : List UInt8) : List UInt8 := (l.drop 4).take (wordAt l 0).toNat

/-- Where the first record lies. -/
def firstS (s : Sl) (l : List UInt8) : Sl := Sl.cut s 1 4 (4 + wordAt l 0) (4 + wordAt l 0)
theorem firstOk_spec {l : List UInt8} (h : firstOk l = true) : 4 ≤ l.length ∧ 0 ≤ wordAt l 0 ∧ wordAt l 0 ≤ 65536 ∧ wordAt l 0 + 8 ≤ l.length := by
  simp only [firstOk, Bool.and_eq_true, decide_eq_true_eq] at h
  exact ⟨h.1.1.1.1, h.1.1.1.2, h.1.1.2, h.1.2⟩
theorem BS.first {M : Mem} {s : Sl} {l : List UInt8} (hs : BS M s l) (h : firstOk l = true) : BS M (firstS s l) (firstRec l) := by
  obtain ⟨g1, g2, g3, g4⟩ := firstOk_spec h
  have hcap := hs.cap
  have hlen := hs.len
  have hc2 := hs.cut (lo := 4) (hi := 4 + wordAt l 0) (mx := 4 + wordAt l 0) (by decide) (by omega) (by omega) (by omega) (by omega)
  have t2 : (l.drop (4 : Int).toNat).take ((4 + wordAt l 0).toNat - (4 : Int).toNat) = firstRec l := by
    have : (4 + wordAt l 0).toNat - (4 : Int).toNat = (wordAt l 0).toNat := by omega
    rw [this, firstRec]; rfl
  rw [t2] at hc2
  exact hc2
theorem c208 {s : Sl} {l : List UInt8} {K : Sl → Bool → Mem → Prop} {X : List PanicEntry → Mem → Prop} {M : Mem} (hs : BS M s l) (hl : l.length ≤ 1000000000)
    (h1 : firstOk l = true → K (firstS s l) true M) (h2 : firstOk l = false → ∀ r, K r false M) : S208 s K X M := by
  have hlen := hs.len
  have hcap := hs.cap
  unfold S208
  have out : firstOk l = false → ∀ n, S208_3 s n true K X M := fun hf n => by
    unfold S208_3; exact ⟨fun _ => h2 hf _, fun hc => by cases hc⟩
  have out2 : firstOk l = false → ∀ n, S208_2 s n true K X M := fun hf n => by
    unfold S208_2; exact ⟨fun _ => out hf n, fun hc => by cases hc⟩
  have out1 : firstOk l = false → ∀ n, S208_1 s n true K X M := fun hf n => by
    unfold S208_1; exact ⟨fun _ => out2 hf n, fun hc => by cases hc⟩
  refine call284 hs hl ⟨by decide, by decide⟩ (fun _ g => ?_) (fun g => ?_)
  · have g4 : 4 ≤ l.length := by omega
    refine ⟨fun hc => (by simp at hc), fun _ => ?_⟩
    have e0 : (0 : Int).toNat = 0 := rfl
    rw [e0]
    by_cases n0 : wordAt l 0 < 0
    · have hf : firstOk l = false := by
        have : decide (0 ≤ wordAt l 0) = false := decide_eq_false (by omega)
        simp [firstOk, this]
      rw [decide_eq_true n0]; exact out1 hf _
    · rw [decide_eq_false n0]
      unfold S208_1
      refine ⟨fun hc => (by cases hc), fun _ => ?_⟩
      by_cases n1 : wordAt l 0 > 65536
      · have hf : firstOk l = false := by
          have : decide (wordAt l 0 ≤ 65536) = false := decide_eq_false (by omega)
          simp [firstOk, this]
        rw [decide_eq_true n1]; exact out2 hf _
      · rw [decide_eq_false n1]
        unfold S208_2
        refine ⟨fun hc => (by cases hc), fun _ => ?_⟩
        have w1 : IntKind.wrap .i64 ((s.n : Int) - 8) = (s.n : Int) - 8 := w64 (by omega) (by omega)
        have w2 : IntKind.wrap .i64 (wordAt l 0) = wordAt l 0 := w64 (by omega) (by omega)
        rw [w1, w2]
        by_cases n2 : (s.n : Int) - 8 < wordAt l 0
        · have hf : firstOk l = false := by
            have : decide (wordAt l 0 + 8 ≤ l.length) = false := decide_eq_false (by omega)
            simp [firstOk, this]
          rw [decide_eq_true n2]; exact out hf _
        · rw [decide_eq_false n2]
          unfold S208_3
          refine ⟨fun hc => (by cases hc), fun _ => ?_⟩
          rw [w2]
          have w3 : IntKind.wrap .i64 (4 + wordAt l 0) = 4 + wordAt l 0 := w64 (by omega) (by omega)
          rw [w3]
          obtain ⟨m, hm⟩ : ∃ m : Nat, wordAt l 0 = m := ⟨(wordAt l 0).toNat, by omega⟩
          rw [hm] at n0 n1 n2 ⊢
          have e1 : (4 + (m : Int)).toNat = 4 + m := by omega
          refine call284 hs hl ⟨by omega, by omega⟩ (fun _ g2 => ?_) (fun g2 => absurd g2 (by omega))
          refine ⟨⟨by decide, by omega, Int.le_refl _, by omega⟩, ⟨by decide, by omega, by omega, Int.le_refl _⟩, ?_⟩
          have hc1 := hs.cut (lo := 0) (hi := 4 + m) (mx := s.c) (Int.le_refl _) (by omega) (by omega) (by omega) (by omega)
          refine callK201 hc1 ?_
          have t1 : (l.drop (0 : Int).toNat).take ((4 + (m : Int)).toNat - (0 : Int).toNat) = l.take (4 + m) := by
            rw [e1]; simp
          rw [t1, e1]
          have hok : firstOk l = (IntKind.wrap .u32 (wordAt l (4 + m)) == crcOf (l.take (4 + m))) := by
            have d1 : decide (4 ≤ l.length) = true := decide_eq_true g4
            have d2 : decide (0 ≤ (m : Int)) = true := decide_eq_true (by omega)
            have d3 : decide ((m : Int) ≤ 65536) = true := decide_eq_true (by omega)
            have d4 : decide ((m : Int) + 8 ≤ l.length) = true := decide_eq_true (by omega)
            simp only [firstOk, hm, d1, d2, d3, d4, Bool.true_and, Int.toNat_natCast]
          cases hq : (IntKind.wrap .u32 (wordAt l (4 + m)) == crcOf (l.take (4 + m))) with
          | true => have := h1 (hok.trans hq); rw [firstS, hm] at this; exact this
          | false => exact h2 (hok.trans hq) _
  · have hf : firstOk l = false := by
      have : decide (4 ≤ l.length) = false := decide_eq_false (by omega)
      simp [firstOk, this]
    exact ⟨fun _ => out1 hf _, fun hc => by simp at hc⟩
end Go.Proofs.YtdndpmlapcbjaaaGreat

namespace Go.Proofs.YtdndpmlapcbjaaaGreat
open Go Go.RowKit
set_option linter.unusedSimpArgs false
set_option linter.unusedVariables false

theorem firstRec_length {l : List UInt8} (h : firstOk l = true) : (firstRec l).length + 8 ≤ l.length := by
  simp only [firstOk, Bool.and_eq_true, decide_eq_true_eq] at h
  simp only [firstRec, List.length_take, List.length_drop]
  omega
end Go.Proofs.YtdndpmlapcbjaaaGreat

namespace Go.Proofs.YtdndpmlapcbjaaaGreat
open Go Go.RowKit
set_option linter.unusedSimpArgs false
set_option linter.unusedVariables false

/-- The records of some bytes, and how many bytes they take. -/
def recsN : Nat → List UInt8 → List (List UInt8)
  | 0, _ => []
  | n + 1, l => if firstOk l = true then firstRec l :: recsN n (l.drop ((firstRec l).length + 8)) else []
def recs (l : List UInt8) : List (List UInt8) := recsN (l.length + 1) l
def good (l : List UInt8) : Nat := ((recs l).map fun r => r.length + 8).sum
theorem recsN_enough : ∀ (n m : Nat) (l : List UInt8), l.length < n → l.length < m → recsN n l = recsN m l := by
  intro n
  induction n with
  | zero => intro m l h; omega
  | succ n ih =>
    intro m l h1 h2
    cases m with
    | zero => omega
    | succ m =>
      simp only [recsN]
      split
      · rename_i hok
        have := firstRec_length hok
        rw [ih m _ (by simp; omega) (by simp; omega)]
      · rfl
theorem recs_ok {l : List UInt8} (h : firstOk l = true) : recs l = firstRec l :: recs (l.drop ((firstRec l).length + 8)) := by
  have := firstRec_length h
  rw [recs, recsN, if_pos h, recs, recsN_enough l.length _ _ (by simp; omega) (Nat.lt_succ_self _)]
theorem recs_no {l : List UInt8} (h : firstOk l = false) : recs l = [] := by rw [recs, recsN, h]; rfl
theorem good_ok {l : List UInt8} (h : firstOk l = true) : good l = (firstRec l).length + 8 + good (l.drop ((firstRec l).length + 8)) := by
  rw [good, recs_ok h]; simp [good]
theorem good_no {l : List UInt8} (h : firstOk l = false) : good l = 0 := by rw [good, recs_no h]; rfl

/-- Where wal.Parse has come to: the records told so far are rows of their own. -/
structure PS (D : Mem) (b1 b2 b3 lk : Nat) (oR : Obj) (l l' : List UInt8) (M' : Mem) : Prop where
  go : ∃ (m : Mem) (ss : List Sl) (dn : List (List UInt8)) (row : Sl),
    Sub D m ∧ Sub m M' ∧ m b1 = none ∧ m b2 = none ∧ m b3 = none ∧ m lk = none ∧ M' lk = some oR ∧ M' b1 = some (.cells #[Sl.v row] 55 (0, 0)) ∧
    M' b2 = some (.cells #[vi ((good l : Int) - good l')] 3 (0, 0)) ∧ recs l = dn ++ recs l' ∧ ss.length = dn.length ∧ (∀ (i : Nat) x r, ss[i]? = some x → dn[i]? = some r → BS m x r) ∧ good l' ≤ good l ∧
    ((row = ⟨none, 0, 0⟩ ∧ ss = []) ∨ ∃ rb, OR M' row 32 1 (ss.map Sl.v) rb ∧ m rb = none ∧ rb ≠ b1 ∧ rb ≠ b2 ∧ rb ≠ b3 ∧ rb ≠ lk)
end Go.Proofs.YtdndpmlapcbjaaaGreat

namespace Go.Proofs.YtdndpmlapcbjaaaGreat
open Go Go.RowKit
set_option linter.unusedSimpArgs false
set_option linter.unusedVariables false

/-- Memory with marks: true is shared, and not turned any more; false is one's own. -/
abbrev PM := Nat → Option (Bool × Obj)
def Le (m n : PM) : Prop := ∀ b x, m b = some x → n b = some x
theorem Le.refl (m : PM) : Le m m := fun _ _ h => h
theorem Le.trans {a b c : PM} (h : Le a b) (k : Le b c) : Le a c := fun i x hx => k i x (h i x hx)
/-- Assertions: they stay true of more. -/
structure HP where
  P : PM → Prop
  up : ∀ m n, P m → Le m n → P n
theorem HP.ext' {A B : HP} (h : ∀ m, A.P m ↔ B.P m) : A = B := by
  obtain ⟨P, u⟩ := A
  obtain ⟨Q, v⟩ := B
  have : P = Q := funext fun m => propext (h m)
  subst this
  rfl
def Comp (m n : PM) : Prop := ∀ b x y, m b = some x → n b = some y → x.1 = true ∧ y.1 = true
theorem Comp.symm {m n : PM} (h : Comp m n) : Comp n m := fun b x y h1 h2 => (h b y x h2 h1).symm
theorem Comp.le {m n m' n' : PM} (h : Comp m n) (h1 : Le m' m) (h2 : Le n' n) : Comp m' n' := fun b x y a c => h b x y (h1 b x a) (h2 b y c)
def join (m n : PM) : PM := fun b => match m b with
  | some x => some x
  | none => n b
theorem le_join_l (m n : PM) : Le m (join m n) := fun b x h => by simp [join, h]
theorem le_join_r {m n k : PM} (h1 : Le m k) (h2 : Le n k) : Le n (join m n) := fun b x h => by
  cases hm : m b with
  | none => simp [join, hm, h]
  | some y =>
    have e1 := h1 b y hm
    have e2 := h2 b x h
    rw [e1] at e2
    simp [join, hm]; exact Option.some.inj e2
theorem join_le {m n k : PM} (h1 : Le m k) (h2 : Le n k) : Le (join m n) k := fun b x h => by
  cases hm : m b with
  | none => simp [join, hm] at h; exact h2 b x h
  | some y => simp [join, hm] at h; subst h; exact h1 b y hm
theorem comp_join {m n k : PM} (h1 : Comp k m) (h2 : Comp k n) : Comp k (join m n) := fun b x y hx hy => by
  cases hm : m b with
  | none => simp [join, hm] at hy; exact h2 b x y hx hy
  | some z => simp [join, hm] at hy; subst hy; exact h1 b x z hx hm

/-- Both, of different parts. -/
def star (A B : HP) : HP where
  P m := ∃ m1 m2, Comp m1 m2 ∧ Le m1 m ∧ Le m2 m ∧ A.P m1 ∧ B.P m2
  up := fun m n ⟨m1, m2, c, l1, l2, a, b⟩ h => ⟨m1, m2, c, l1.trans h, l2.trans h, a, b⟩
instance : Mul HP := ⟨star⟩
theorem sm_comm (A B : HP) : A * B = B * A := HP.ext' fun m =>
  ⟨fun ⟨m1, m2, c, l1, l2, a, b⟩ => ⟨m2, m1, c.symm, l2, l1, b, a⟩, fun ⟨m1, m2, c, l1, l2, a, b⟩ => ⟨m2, m1, c.symm, l2, l1, b, a⟩⟩
theorem sm_assoc1 {A B C : HP} {m : PM} (h : ((A * B) * C).P m) : (A * (B * C)).P m := by
  obtain ⟨m12, m3, c, l1, l2, ⟨m1, m2, c', k1, k2, a, b⟩, d⟩ := h
  have q2 := k2.trans l1
  exact ⟨m1, join m2 m3, comp_join c' (c.le k1 (Le.refl _)), k1.trans l1, join_le q2 l2, a, m2, m3, c.le k2 (Le.refl _), le_join_l _ _, le_join_r q2 l2, b, d⟩
theorem sm_assoc (A B C : HP) : (A * B) * C = A * (B * C) := HP.ext' fun m =>
  ⟨sm_assoc1, fun h => by rw [sm_comm A B, sm_comm _ C]; rw [sm_comm A, sm_comm B C] at h; exact sm_assoc1 h⟩
theorem sm_left (A B C : HP) : A * (B * C) = B * (A * C) := by rw [← sm_assoc, sm_comm A B, sm_assoc]
instance : Std.Commutative (α := HP) (· * ·) := ⟨sm_comm⟩
instance : Std.Associative (α := HP) (· * ·) := ⟨sm_assoc⟩
/-- Nothing is said. -/
def tt : HP := ⟨fun _ => True, fun _ _ h _ => h⟩
theorem sm_tt (A : HP) : A * tt = A := HP.ext' fun m =>
  ⟨fun ⟨m1, m2, c, l1, l2, a, b⟩ => A.up _ _ a l1, fun h => ⟨m, fun _ => none, fun b x y _ h => by (simp at h), Le.refl _, fun b x h => by (simp at h), h, trivial⟩⟩
def pu (p : Prop) : HP := ⟨fun _ => p, fun _ _ h _ => h⟩
def ex {α : Type} (f : α → HP) : HP := ⟨fun m => ∃ a, (f a).P m, fun m n ⟨a, h⟩ hl => ⟨a, (f a).up m n h hl⟩⟩

def Ent (A B : HP) : Prop := ∀ m, A.P m → B.P m
theorem Ent.refl (A : HP) : Ent A A := fun _ h => h
theorem Ent.trans {A B C : HP} (h : Ent A B) (k : Ent B C) : Ent A C := fun m hm => k m (h m hm)
theorem Ent.star {A B C D : HP} (h : Ent A B) (k : Ent C D) : Ent (A * C) (B * D) := fun m ⟨m1, m2, c, l1, l2, a, b⟩ => ⟨m1, m2, c, l1, l2, h _ a, k _ b⟩
theorem Ent.l (A B : HP) : Ent (A * B) A := fun m ⟨m1, m2, c, l1, l2, a, b⟩ => A.up _ _ a l1
theorem Ent.r (A B : HP) : Ent (A * B) B := fun m ⟨m1, m2, c, l1, l2, a, b⟩ => B.up _ _ b l2

/-- A memory is as it is said. -/
def At (H : HP) (M : Mem) : Prop := ∃ m, H.P m ∧ ∀ b x, m b = some x → M b = some x.2
section
variable {A B F H : HP} {M M' : Mem} {b : Nat} {o o' : Obj}
theorem At.imp (h : At A M) (k : Ent A B) : At B M := let ⟨m, h1, h2⟩ := h; ⟨m, k m h1, h2⟩
theorem At.l (h : At (A * B) M) : At A M := h.imp (Ent.l A B)
theorem At.r (h : At (A * B) M) : At B M := h.imp (Ent.r A B)
theorem At.nothing (M : Mem) : At tt M := ⟨fun _ => Option.none, trivial, fun b x h => by simp at h⟩
theorem At.tt (h : At F M) : At (F * YtdndpmlapcbjaaaGreat.tt) M := by rw [sm_tt]; exact h
theorem At.sub (h : At H M) (hs : Sub M M') : At H M' := let ⟨m, h1, h2⟩ := h; ⟨m, h1, fun b x hx => hs _ _ (h2 b x hx)⟩
theorem At.of_pu {p : Prop} (h : At (pu p * F) M) : p ∧ At F M := by
  refine ⟨?_, h.r⟩
  obtain ⟨m, ⟨m1, m2, c, l1, l2, a, b⟩, _⟩ := h
  exact a
theorem At.pu {p : Prop} (h : At F M) (hp : p) : At (YtdndpmlapcbjaaaGreat.pu p * F) M := by
  obtain ⟨m, h1, h2⟩ := h
  exact ⟨m, ⟨fun _ => Option.none, m, fun b x y hx => by (simp at hx), fun b x hx => by (simp at hx), Le.refl _, hp, h1⟩, h2⟩
theorem ex_star {α : Type} {f : α → HP} : ex f * F = ex fun a => f a * F := HP.ext' fun m =>
  ⟨fun ⟨m1, m2, c, l1, l2, ⟨a, h⟩, b⟩ => ⟨a, m1, m2, c, l1, l2, h, b⟩, fun ⟨a, m1, m2, c, l1, l2, h, b⟩ => ⟨m1, m2, c, l1, l2, ⟨a, h⟩, b⟩⟩
theorem At.of_ex {α : Type} {f : α → HP} (h : At (ex f * F) M) : ∃ a, At (f a * F) M := by
  rw [ex_star] at h
  obtain ⟨m, ⟨a, h1⟩, h2⟩ := h
  exact ⟨a, m, h1, h2⟩
theorem At.ex {α : Type} {f : α → HP} (a : α) (h : At (f a * F) M) : At (YtdndpmlapcbjaaaGreat.ex f * F) M := by
  rw [ex_star]
  obtain ⟨m, h1, h2⟩ := h
  exact ⟨m, ⟨a, h1⟩, h2⟩

/-! ### blocks -/
def bl (b : Nat) (o : Obj) : HP := ⟨fun m => m b = some (false, o), fun m n h hl => hl _ _ h⟩
def sh (b : Nat) (o : Obj) : HP := ⟨fun m => m b = some (true, o), fun m n h hl => hl _ _ h⟩
def one1 (b : Nat) (x : Bool × Obj) : PM := fun c => if c = b then some x else none
theorem one1_same (b : Nat) (x : Bool × Obj) : one1 b x b = some x := by simp [one1]
theorem one1_some {b c : Nat} {x y : Bool × Obj} (h : one1 b x c = some y) : c = b ∧ x = y := by
  unfold one1 at h
  split at h
  · rename_i hc; exact ⟨hc, Option.some.inj h⟩
  · cases h
theorem At.blk (h : At (bl b o * F) M) : M b = some o := by
  obtain ⟨m, h1, h2⟩ := h.l
  exact h2 b (false, o) h1
/-- A block of one's own is turned. -/
theorem At.turn (h : At (bl b o * F) M) (h1 : M' b = some o') (h2 : ∀ c, c ≠ b → M' c = M c) (q : Bool) : At ((bif q then sh b o' else bl b o') * F) M' := by
  obtain ⟨m, ⟨m1, m2, c, l1, l2, a, f⟩, hm⟩ := h
  have hn : m2 b = none := by
    cases hc : m2 b with
    | none => rfl
    | some x => exact absurd (c b _ _ a hc).1 (by simp)
  refine ⟨join (one1 b (q, o')) m2, ⟨one1 b (q, o'), m2, fun d x y hx hy => ?_, le_join_l _ _, fun d x hx => ?_, ?_, f⟩, fun d x hx => ?_⟩
  · rw [(one1_some hx).1, hn] at hy; cases hy
  · have hd : d ≠ b := fun h => by rw [h, hn] at hx; cases hx
    simp [join, one1, hd, hx]
  · cases q <;> exact one1_same _ _
  · by_cases hd : d = b
    · subst hd
      simp [join, one1] at hx
      rw [h1, ← hx]
    · simp [join, one1, hd] at hx
      rw [h2 d hd]
      exact hm d x (l2 d x hx)
theorem At.upd (h : At (bl b o * F) M) (o' : Obj) : At (bl b o' * F) (M.upd b o') :=
  h.turn (q := false) (upd_same _ _ _) fun c hc => upd_ne _ _ hc
theorem At.freeze (h : At (bl b o * F) M) : At (sh b o * F) M := h.turn (q := true) h.blk fun _ _ => rfl
/-- A new block. -/
theorem At.fresh (h : At F M) (hb : M b = Option.none) (ho : M' b = some o) (hs : Sub M M') : At (bl b o * F) M' := by
  obtain ⟨m, h1, h2⟩ := h
  have hn : m b = Option.none := by
    cases hc : m b with
    | none => rfl
    | some x => rw [h2 b x hc] at hb; cases hb
  refine ⟨join (one1 b (false, o)) m, ⟨one1 b (false, o), m, fun d x y hx hy => ?_, le_join_l _ _, fun d x hx => ?_, one1_same _ _, h1⟩, fun d x hx => ?_⟩
  · rw [(one1_some hx).1, hn] at hy; cases hy
  · have hd : d ≠ b := fun h => by rw [h, hn] at hx; cases hx
    simp [join, one1, hd, hx]
  · by_cases hd : d = b
    · subst hd
      simp [join, one1] at hx
      rw [ho, ← hx]
    · simp [join, one1, hd] at hx
      exact hs _ _ (h2 d x hx)
theorem At.new (h : At F M) (hb : M b = Option.none) (o : Obj) : At (bl b o * F) (M.upd b o) := h.fresh hb (upd_same _ _ _) (Sub.upd hb o)
theorem At.ne {c : Nat} (h : At (bl b o * (bl c o' * F)) M) : b ≠ c := by
  rintro rfl
  obtain ⟨m, ⟨m1, m2, cc, l1, l2, a, f⟩, hm⟩ := h
  obtain ⟨m3, m4, c2, l3, l4, a2, f2⟩ := f
  exact absurd (cc b _ _ a (l3 _ _ a2)).1 (by simp)
/-- A block of one's own is given away. -/
theorem At.del (h : At (bl b o * F) M) : At F (M.del b) := by
  obtain ⟨m, ⟨m1, m2, c, l1, l2, a, f⟩, hm⟩ := h
  refine ⟨m2, f, fun d x hx => ?_⟩
  have hd : d ≠ b := fun h => by
    subst h
    exact absurd (c d _ _ a hx).1 (by simp)
  rw [del_ne _ hd]
  exact hm d x (l2 d x hx)
end

/-! ### what is shared may be told as often as one likes -/
def shp (m : PM) : PM := fun b => match m b with
  | some (true, o) => some (true, o)
  | _ => none
theorem shp_some {m : PM} {b : Nat} {x : Bool × Obj} (h : shp m b = some x) : m b = some x ∧ x.1 = true := by
  unfold shp at h
  split at h
  · rename_i o ho; cases h; exact ⟨ho, rfl⟩
  · cases h
theorem shp_le (m : PM) : Le (shp m) m := fun b x h => (shp_some h).1
theorem shp_mono {m n : PM} (h : Le m n) : Le (shp m) (shp n) := fun b x hx => by
  obtain ⟨h1, h2⟩ := shp_some hx
  obtain ⟨q, o⟩ := x
  simp only at h2
  subst h2
  simp [shp, h b _ h1]
def Pers (A : HP) : Prop := ∀ m, A.P m → A.P (shp m)
theorem Ent.dup {A H : HP} (h : Ent H A) (hp : Pers A) : Ent H (A * H) := fun m hm =>
  ⟨shp m, m, fun b x y hx hy => by
    obtain ⟨h1, h2⟩ := shp_some hx
    rw [h1] at hy; cases hy; exact ⟨h2, h2⟩, shp_le m, Le.refl m, hp m (h m hm), hm⟩
/-- The memory behind the marks. -/
def erm (m : PM) : Mem := fun b => (m b).map (·.2)
theorem erm_mono {m n : PM} (h : Le m n) : Sub (erm m) (erm n) := fun b o hb => by
  obtain ⟨x, h1, h2⟩ := Option.map_eq_some_iff.1 hb
  exact Option.map_eq_some_iff.2 ⟨x, h b x h1, h2⟩
theorem At.er_ {H : HP} {M : Mem} (h : At H M) : ∃ m, H.P m ∧ Sub (erm m) M := by
  obtain ⟨m, h1, h2⟩ := h
  refine ⟨m, h1, fun b o hb => ?_⟩
  obtain ⟨x, h3, h4⟩ := Option.map_eq_some_iff.1 hb
  rw [← h4]; exact h2 b x h3

/-! ### finding a part -/
class Pick {α : Type} (A : α → HP) (H : HP) (a : outParam α) (F : outParam HP) : Prop where
  eq : H = A a * F
instance (priority := high) pick_here {α : Type} (A : α → HP) (a : α) (F : HP) : Pick A (A a * F) a F := ⟨rfl⟩
instance pick_r {α : Type} (A : α → HP) (B H : HP) (a : α) (F : HP) [h : Pick A H a F] : Pick A (B * H) a (B * F) := ⟨by rw [h.eq, sm_left]⟩
instance (priority := low) pick_l {α : Type} (A : α → HP) (B H : HP) (a : α) (F : HP) [h : Pick A H a F] : Pick A (H * B) a (F * B) := ⟨by rw [h.eq, sm_assoc]⟩
instance (priority := low) pick_last {α : Type} (A : α → HP) (a : α) : Pick A (A a) a tt := ⟨(sm_tt _).symm⟩
theorem At.pick {α : Type} {A : α → HP} {H : HP} {a : α} {F : HP} {M : Mem} (h : At H M) [hp : Pick A H a F] : At (A a * F) M := by rw [← hp.eq]; exact h

/-- A part that is known is taken. -/
class Tk (A H : HP) (F : outParam HP) : Prop where
  eq : H = A * F
instance (priority := high) tk_here (A F : HP) : Tk A (A * F) F := ⟨rfl⟩
instance tk_r (A B H F : HP) [h : Tk A H F] : Tk A (B * H) (B * F) := ⟨by rw [h.eq, sm_left]⟩
instance (priority := low) tk_l (A B H F : HP) [h : Tk A H F] : Tk A (H * B) (F * B) := ⟨by rw [h.eq, sm_assoc]⟩
instance (priority := low) tk_last (A : HP) : Tk A A tt := ⟨(sm_tt A).symm⟩
/-- Parts that are known are taken; the rest is left. -/
class Use (G H : HP) (F : outParam HP) : Prop where
  eq : H = G * F
instance (priority := high) use_star (A B H F1 F2 : HP) [h1 : Use A H F1] [h2 : Use B F1 F2] : Use (A * B) H F2 := ⟨by rw [h1.eq, h2.eq, sm_assoc]⟩
instance use_tt (H : HP) : Use tt H H := ⟨by rw [sm_comm, sm_tt]⟩
instance (priority := low) use_atom (A H F : HP) [h : Tk A H F] : Use A H F := ⟨h.eq⟩
theorem At.use {G H F : HP} {M : Mem} (h : At H M) [u : Use G H F] : At G M := by
  rw [u.eq] at h; exact h.l
theorem At.take {H F : HP} {M : Mem} (G : HP) (h : At H M) [u : Use G H F] : At (G * F) M := by
  rw [← u.eq]; exact h

/-- Bytes that are known. -/
class Knb (H : HP) (s : Sl) (l : outParam (List UInt8)) : Prop where
  p : ∀ m, H.P m → BS (erm m) s l
theorem At.byt {H : HP} {M : Mem} {s : Sl} {l : List UInt8} (h : At H M) [k : Knb H s l] : BS M s l := by
  obtain ⟨m, h1, h2⟩ := h.er_
  exact (k.p m h1).sub h2
instance (priority := high) kb_l (A B : HP) (s : Sl) (l : List UInt8) [k : Knb A s l] : Knb (A * B) s l := ⟨fun m h => k.p m (Ent.l A B m h)⟩
instance kb_r (A B : HP) (s : Sl) (l : List UInt8) [k : Knb B s l] : Knb (A * B) s l := ⟨fun m h => k.p m (Ent.r A B m h)⟩
instance kb_nil (A : HP) : Knb A ⟨none, 0, 0⟩ [] := ⟨fun m _ => BS.nil _⟩
/-- Shared bytes. -/
def bs (s : Sl) (l : List UInt8) : HP := ⟨fun m => BS (erm (shp m)) s l, fun m n h hl => h.sub (erm_mono (shp_mono hl))⟩
theorem shp_shp (m : PM) : shp (shp m) = shp m := by
  funext b
  unfold shp
  cases m b with
  | none => rfl
  | some x => obtain ⟨q, o⟩ := x; cases q <;> rfl
theorem pers_bs (s : Sl) (l : List UInt8) : Pers (bs s l) := fun m h => by
  show BS (erm (shp (shp m))) s l
  rw [shp_shp]; exact h
instance kb_bs (s : Sl) (l : List UInt8) : Knb (bs s l) s l := ⟨fun m h => h.sub (erm_mono (shp_le m))⟩

/-! ### rows of one's own -/
def arr (s : Sl) (el k : Nat) (vs : List Value) : HP where
  P m := (s = ⟨none, 0, 0⟩ ∧ vs = []) ∨ ∃ b junk, s.a = some (b, 0) ∧ vs.length = s.n * k ∧ m b = some (false, .cells (vs ++ junk).toArray el (0, 0)) ∧ (vs ++ junk).length = s.c * k ∧ s.n ≤ s.c ∧ s.c ≤ 9223372036854775807
  up := fun m n h hl => h.imp id fun ⟨b, junk, h1, h2, h3, h4⟩ => ⟨b, junk, h1, h2, hl _ _ h3, h4⟩
section
variable {A B F H : HP} {M M' : Mem} {b : Nat} {s x : Sl} {el k by_ : Nat} {vs news zs : List Value} {l l' : List UInt8}
theorem arr_nil : arr ⟨none, 0, 0⟩ el k [] = tt := HP.ext' fun m => ⟨fun _ => trivial, fun _ => .inl ⟨rfl, rfl⟩⟩
/-- A row is opened. -/
theorem At.open_ (h : At (arr s el k vs * F) M) : (s = ⟨none, 0, 0⟩ ∧ vs = [] ∧ At F M) ∨ ∃ b junk, s.a = some (b, 0) ∧ vs.length = s.n * k ∧ (vs ++ junk).length = s.c * k ∧ s.n ≤ s.c ∧ s.c ≤ 9223372036854775807 ∧
    At (bl b (.cells (vs ++ junk).toArray el (0, 0)) * F) M := by
  obtain ⟨m, ⟨m1, m2, c, l1, l2, a, f⟩, hm⟩ := h
  rcases a with ⟨h1, h2⟩ | ⟨b, junk, h1, h2, h3, h4, h5, h6⟩
  · exact .inl ⟨h1, h2, m2, f, fun d x hx => hm d x (l2 d x hx)⟩
  · exact .inr ⟨b, junk, h1, h2, h4, h5, h6, m, ⟨m1, m2, c, l1, l2, h3, f⟩, hm⟩
theorem At.close {b : Nat} {junk : List Value} (h : At (bl b (.cells (vs ++ junk).toArray el (0, 0)) * F) M) (h1 : s.a = some (b, 0)) (h2 : vs.length = s.n * k) (h3 : (vs ++ junk).length = s.c * k) (h4 : s.n ≤ s.c) (h5 : s.c ≤ 9223372036854775807) :
    At (arr s el k vs * F) M := by
  obtain ⟨m, ⟨m1, m2, c, l1, l2, a, f⟩, hm⟩ := h
  exact ⟨m, ⟨m1, m2, c, l1, l2, .inr ⟨b, junk, h1, h2, a, h3, h4, h5⟩, f⟩, hm⟩
theorem At.rdc (h : At (arr s el k vs * F) M) : YtdndpmlapcbjaaaGreat.rdc M s.a vs := by
  rcases h.open_ with ⟨rfl, h2, _⟩ | ⟨b, junk, h1, h2, _, _, _, h3⟩
  · exact h2
  · rw [h1]
    intro j v hv
    have hlt := (List.getElem?_eq_some_iff.1 hv).1
    simp only [cel, h3.blk, Nat.zero_add, List.getElem?_toArray]
    rw [List.getElem?_append_left hlt]; exact hv
theorem At.arr_len (h : At (arr s el k vs * F) M) : vs.length = s.n * k ∧ s.n ≤ s.c ∧ s.c ≤ 9223372036854775807 := by
  rcases h.open_ with ⟨rfl, rfl, _⟩ | ⟨b, junk, h1, h2, h3, h4, h5, _⟩
  · exact ⟨by simp, Nat.le_refl _, Nat.zero_le _⟩
  · exact ⟨h2, h4, h5⟩
theorem At.of_OR (h : At F M) (ho : OR M' s el k vs b) (hb : M b = none) (hs : Sub M M') : At (arr s el k vs * F) M' := by
  obtain ⟨junk, hj, hl⟩ := ho.blk
  exact (h.fresh hb hj hs).close ho.at_ ho.len hl ho.cap ho.big
/-- An append to a row of one's own. -/
theorem arr_app {κ : Sl → Mem → Prop} (h : At H M) [hp : Pick (arr s el k) H vs F] (hz : zs.length = k) (hx : YtdndpmlapcbjaaaGreat.rdc M x.a news) (hn : news.length = x.n * k) (h1 : ∀ v ∈ news, v.oneCell' = true) (hb : (s.n + x.n) * by_ ≤ 140737488355328) (hm : s.n + x.n ≤ 9223372036854775807)
    (hκ : ∀ r M', At (arr r el k (vs ++ news) * F) M' → r.n = s.n + x.n → κ r M') : appS el k by_ zs s x κ M := by
  have hA : At (arr s el k vs * F) M := h.pick
  have hr := hA.rdc
  obtain ⟨hl, hc, hcb⟩ := hA.arr_len
  rcases hA.open_ with ⟨rfl, rfl, hF⟩ | ⟨b, junk, g1, g2, g3, g4, g5, hB⟩
  · by_cases h0 : 0 < x.n
    · exact app_fresh hr hl hz hx hn h1 hb hm (by simp; omega) fun r b M' k1 k2 k3 k4 =>
        hκ r M' (hF.of_OR k1 k3 fun c o hc => by rw [k4 c (fun h => by rw [h, k3] at hc; cases hc)]; exact hc) k2
    · have hx0 : x.n = 0 := by omega
      have hnil : news = [] := by rw [hx0, Nat.zero_mul] at hn; exact List.length_eq_zero_iff.1 hn
      subst hnil
      refine ⟨[], [], hr, hl, hx, hn, h1, hb, hm, fun _ => .inl ⟨rfl, hκ _ M ?_ (by simp)⟩, fun hc' => absurd hc' (by simp; omega)⟩
      simp only [hx0, List.append_nil, Nat.zero_add]
      exact hA
  · have hO : OR M s el k vs b := ⟨g1, g2, ⟨junk, hB.blk, g3⟩, g4, g5⟩
    have hF : At F (M.del b) := hB.del
    refine app_own hO hz hx hn h1 hb hm fun r b' M' k1 k2 k3 k4 => hκ r M' ?_ k2
    obtain ⟨junk', q1, q2⟩ := k1.blk
    rcases k3 with rfl | k3
    · have : At (bl b' (.cells ((vs ++ news) ++ junk').toArray el (0, 0)) * F) M' := hB.turn (q := false) q1 k4
      exact this.close k1.at_ k1.len q2 k1.cap k1.big
    · have hs : Sub M M' := fun c o hc => by rw [k4 c (fun h => by rw [h, k3] at hc; cases hc)]; exact hc
      exact (hB.r.fresh k3 q1 hs).close k1.at_ k1.len q2 k1.cap k1.big
/-- A row of bytes of one's own is known. -/
instance kb_arr (s : Sl) (l : List UInt8) : Knb (arr s 5 1 (cb l)) s l := ⟨fun m h => by
  rcases h with ⟨rfl, h⟩ | ⟨b, junk, h1, h2, h3, h4, h5, h6⟩
  · have : l = [] := by simpa [cb] using h
    subst this
    exact BS.nil _
  · refine ⟨?_, by rw [cb_length] at h2; omega, h5, h6⟩
    rw [h1]
    intro j v hv
    have hlt := (List.getElem?_eq_some_iff.1 hv).1
    have : erm m b = some (.cells (cb l ++ junk).toArray 5 (0, 0)) := by simp [erm, h3]
    simp only [cel, this, Nat.zero_add, List.getElem?_toArray]
    rw [List.getElem?_append_left hlt]; exact hv⟩
theorem At.kb (h : At (arr s 5 1 (cb l) * F) M) : BS M s l := h.byt
/-- A row of bytes is shared from now on. -/
theorem At.share (h : At (arr s 5 1 (cb l) * F) M) : At (bs s l * F) M := by
  have hk := h.kb
  rcases h.open_ with ⟨rfl, h, hF⟩ | ⟨b, junk, h1, h2, h3, h4, h5, hB⟩
  · have : l = [] := by simpa [cb] using h
    subst this
    obtain ⟨m, a, c⟩ := hF
    exact ⟨m, ⟨fun _ => Option.none, m, fun b x y hx => by (simp at hx), fun b x hx => by (simp at hx), Le.refl _, BS.nil _, a⟩, c⟩
  · refine hB.freeze.imp (Ent.star (fun m (hm : m b = _) => ?_) (Ent.refl F))
    have : erm (shp m) b = some (.cells (cb l ++ junk).toArray 5 (0, 0)) := by simp [erm, shp, hm]
    refine ⟨?_, hk.len, hk.cap, hk.big⟩
    rw [h1]
    intro j v hv
    have hlt := (List.getElem?_eq_some_iff.1 hv).1
    simp only [cel, this, Nat.zero_add, List.getElem?_toArray]
    rw [List.getElem?_append_left hlt]; exact hv
end

/-! ### words -/
section
variable {A F H : HP} {M M' : Mem} {b : Nat} {o : Obj}
theorem new_ {κ : Nat → Mem → Prop} (h : At H M) (hκ : ∀ b M', At (bl b o * H) M' → κ b M') : new o κ M := fun b hb => hκ b _ (h.new hb o)
/-- A struct of one's own, or another small block. -/
def cl (b : Nat) (x : Nat × List Value) : HP := bl b (.cells x.2.toArray x.1 (0, 0))
theorem At.cel {t : Nat} {vs : List Value} {off : Nat} {v : Value} (h : At H M) [hp : Pick (cl b) H (t, vs) F] (hv : vs[off]? = some v) : YtdndpmlapcbjaaaGreat.cel M (b, off) = some v := by
  have hA : At (cl b (t, vs) * F) M := h.pick
  have : M b = some (.cells vs.toArray t (0, 0)) := At.blk hA
  simp only [YtdndpmlapcbjaaaGreat.cel, this, List.getElem?_toArray]; exact hv
theorem At.wr {t : Nat} {vs : List Value} {off : Nat} (h : At H M) [hp : Pick (cl b) H (t, vs) F] (hv : off < vs.length) : YtdndpmlapcbjaaaGreat.wr M (b, off) := by
  have hA : At (cl b (t, vs) * F) M := h.pick
  have : M b = some (.cells vs.toArray t (0, 0)) := At.blk hA
  exact ⟨_, _, _, this, by simpa using hv, by simp⟩
theorem At.st {t : Nat} {vs vs' : List Value} {off : Nat} {v : Value} (h : At H M) [hp : Pick (cl b) H (t, vs) F] (he : vs.set off v = vs') : At (cl b (t, vs') * F) (sto M (b, off) v) := by
  have hA : At (cl b (t, vs) * F) M := h.pick
  have : M b = some (.cells vs.toArray t (0, 0)) := At.blk hA
  rw [sto_upd this, List.setIfInBounds_toArray, he]
  exact At.upd hA _
theorem st_ {t : Nat} {vs vs' : List Value} {off : Nat} {v : Value} {κ : Mem → Prop} (h : At H M) [hp : Pick (cl b) H (t, vs) F] (hlt : off < vs.length) (he : vs.set off v = vs') (hκ : ∀ M', At (cl b (t, vs') * F) M' → κ M') :
    YtdndpmlapcbjaaaGreat.st (b, off) v κ M := ⟨h.wr hlt, hκ _ (h.st he)⟩
theorem st0_ {t : Nat} {a0 v : Value} {l : List Value} {κ : Mem → Prop} (h : At H M) [hp : Pick (cl b) H (t, a0 :: l) F] (hκ : ∀ M', At (cl b (t, v :: l) * F) M' → κ M') : YtdndpmlapcbjaaaGreat.st (b, 0) v κ M :=
  st_ (F := F) h (by simp) rfl hκ
theorem st1_ {t : Nat} {a0 a1 v : Value} {l : List Value} {κ : Mem → Prop} (h : At H M) [hp : Pick (cl b) H (t, a0 :: a1 :: l) F] (hκ : ∀ M', At (cl b (t, a0 :: v :: l) * F) M' → κ M') : YtdndpmlapcbjaaaGreat.st (b, 1) v κ M :=
  st_ (F := F) h (by simp) rfl hκ
theorem st2_ {t : Nat} {a0 a1 a2 v : Value} {l : List Value} {κ : Mem → Prop} (h : At H M) [hp : Pick (cl b) H (t, a0 :: a1 :: a2 :: l) F] (hκ : ∀ M', At (cl b (t, a0 :: a1 :: v :: l) * F) M' → κ M') : YtdndpmlapcbjaaaGreat.st (b, 2) v κ M :=
  st_ (F := F) h (by simp) rfl hκ
theorem st3_ {t : Nat} {a0 a1 a2 a3 v : Value} {l : List Value} {κ : Mem → Prop} (h : At H M) [hp : Pick (cl b) H (t, a0 :: a1 :: a2 :: a3 :: l) F] (hκ : ∀ M', At (cl b (t, a0 :: a1 :: a2 :: v :: l) * F) M' → κ M') : YtdndpmlapcbjaaaGreat.st (b, 3) v κ M :=
  st_ (F := F) h (by simp) rfl hκ
theorem st5_ {t : Nat} {a0 a1 a2 a3 a4 a5 v : Value} {l : List Value} {κ : Mem → Prop} (h : At H M) [hp : Pick (cl b) H (t, a0 :: a1 :: a2 :: a3 :: a4 :: a5 :: l) F] (hκ : ∀ M', At (cl b (t, a0 :: a1 :: a2 :: a3 :: a4 :: v :: l) * F) M' → κ M') : YtdndpmlapcbjaaaGreat.st (b, 5) v κ M :=
  st_ (F := F) h (by simp) rfl hκ
theorem st7_ {t : Nat} {a0 a1 a2 a3 a4 a5 a6 a7 v : Value} {l : List Value} {κ : Mem → Prop} (h : At H M) [hp : Pick (cl b) H (t, a0 :: a1 :: a2 :: a3 :: a4 :: a5 :: a6 :: a7 :: l) F] (hκ : ∀ M', At (cl b (t, a0 :: a1 :: a2 :: a3 :: a4 :: a5 :: a6 :: v :: l) * F) M' → κ M') : YtdndpmlapcbjaaaGreat.st (b, 7) v κ M :=
  st_ (F := F) h (by simp) rfl hκ
theorem st8_ {t : Nat} {a0 a1 a2 a3 a4 a5 a6 a7 a8 v : Value} {l : List Value} {κ : Mem → Prop} (h : At H M) [hp : Pick (cl b) H (t, a0 :: a1 :: a2 :: a3 :: a4 :: a5 :: a6 :: a7 :: a8 :: l) F] (hκ : ∀ M', At (cl b (t, a0 :: a1 :: a2 :: a3 :: a4 :: a5 :: a6 :: a7 :: v :: l) * F) M' → κ M') : YtdndpmlapcbjaaaGreat.st (b, 8) v κ M :=
  st_ (F := F) h (by simp) rfl hκ
end
end Go.Proofs.YtdndpmlapcbjaaaGreat

namespace Go.Proofs.YtdndpmlapcbjaaaGreat
open Go Go.RowKit
set_option linter.unusedSimpArgs false
set_option linter.unusedVariables false

section
variable {A F H : HP} {M : Mem} {b off t : Nat} {vs : List Value}
theorem ldL_ {s : Sl} {κ : Sl → Mem → Prop} (h : At H M) [Pick (cl b) H (t, vs) F] (hv : vs[off]? = some s.v) (hκ : κ s M) : ldL (b, off) κ M := ⟨s, h.cel hv, hκ⟩
theorem ldI_ {k : IntKind} {s : Int} {κ : Int → Mem → Prop} (h : At H M) [Pick (cl b) H (t, vs) F] (hv : vs[off]? = some (.int k s)) (hκ : κ s M) : ldI k (b, off) κ M := ⟨s, h.cel hv, hκ⟩
theorem ldB_ {s : Bool} {κ : Bool → Mem → Prop} (h : At H M) [Pick (cl b) H (t, vs) F] (hv : vs[off]? = some (.bool s)) (hκ : κ s M) : ldB (b, off) κ M := ⟨s, h.cel hv, hκ⟩
theorem ldS_ {s : ByteArray} {κ : ByteArray → Mem → Prop} (h : At H M) [Pick (cl b) H (t, vs) F] (hv : vs[off]? = some (.string s)) (hκ : κ s M) : ldS (b, off) κ M := ⟨s, h.cel hv, hκ⟩
theorem ldP_ {s : Option PA} {κ : Option PA → Mem → Prop} (h : At H M) [Pick (cl b) H (t, vs) F] (hv : vs[off]? = some (ptr s)) (hκ : κ s M) : ldP (b, off) κ M := ⟨s, h.cel hv, hκ⟩
theorem ldLq {q : PA} {s : Sl} {κ : Sl → Mem → Prop} (hv : cel M q = some s.v) (hκ : κ s M) : ldL q κ M := ⟨s, hv, hκ⟩
theorem ldIq {q : PA} {k : IntKind} {s : Int} {κ : Int → Mem → Prop} (hv : cel M q = some (.int k s)) (hκ : κ s M) : ldI k q κ M := ⟨s, hv, hκ⟩
theorem ldSq {q : PA} {s : ByteArray} {κ : ByteArray → Mem → Prop} (hv : cel M q = some (.string s)) (hκ : κ s M) : ldS q κ M := ⟨s, hv, hκ⟩
theorem ldPq {q : PA} {s : Option PA} {κ : Option PA → Mem → Prop} (hv : cel M q = some (ptr s)) (hκ : κ s M) : ldP q κ M := ⟨s, hv, hκ⟩
theorem nn_ {p : PA} {κ : PA → Mem → Prop} (h : κ p M) : nn (some p) κ M := ⟨p, rfl, h⟩
theorem both_ {p q : Mem → Prop} (h1 : p M) (h2 : q M) : both p q M := ⟨h1, h2⟩
theorem must_ {p : Prop} {κ : Mem → Prop} (h1 : p) (h2 : κ M) : must p κ M := ⟨h1, h2⟩
theorem newc_ {κ : Nat → Mem → Prop} (h : At H M) (hκ : ∀ b M', At (cl b (t, vs) * H) M' → κ b M') : new (.cells vs.toArray t (0, 0)) κ M := new_ h hκ
theorem ite_ {c : Bool} {x y : Mem → Prop} (h1 : c = true → x M) (h2 : c = false → y M) : ite' c x y M := ⟨h1, h2⟩
theorem iteT {c : Bool} {x y : Mem → Prop} (hc : c = true) (h : x M) : ite' c x y M := ⟨fun _ => h, fun h' => by rw [hc] at h'; cases h'⟩
theorem iteF {c : Bool} {x y : Mem → Prop} (hc : c = false) (h : y M) : ite' c x y M := ⟨fun h' => by rw [hc] at h'; (cases h'), fun _ => h⟩
theorem At.cast {G : HP} (h : At H M) (e : H = G) : At G M := e ▸ h
end

/-! ### ranges over functions -/
def YL (y : Value) (l : Nat) (oR : Obj) (oD : Code → Obj) (np : Nat) (body : List Value → (Mem → Prop) → (Code → Mem → Prop) → Mem → Prop) : Prop :=
  ∀ (args : List Value) (κ : Value → Mem → Prop) (M : Mem) (G : HP), args.length = np → At (bl l oR * G) M →
    (∀ M2, At G M2 → body args (fun M3 => M3 l = none → κ (.bool true) (M3.upd l oR)) (fun c M3 => M3 l = none → κ (.bool false) (M3.upd l (oD c))) M2) → callV y args (fun _ _ => False) κ M
theorem rng_ {H : HP} {M : Mem} {f : Nat} {caps : List Value} {np : Nat} {body : List Value → (Mem → Prop) → (Code → Mem → Prop) → Mem → Prop} {κ : Mem → Prop} {κj : Code → Mem → Prop} (h : At H M) (he : Enters Tryz.prog f)
    (hit : ∀ y l oR oD M1, At (bl l oR * H) M1 → YL y l oR oD np body → Spec Tryz.prog f (y :: caps).toArray M1 (fun _ M' => (M' l = some oR ∧ κ (M'.del l)) ∨ ∃ c, M' l = some (oD c) ∧ κj c (M'.del l)) (fun _ _ => False)) :
    rng (.func (.func f) #[] caps.toArray) np body κ κj M :=
  ⟨f, caps, rfl, he, fun y l oR oD hl law => hit y l oR oD _ (h.new hl oR) fun args κ' M' G hn hA hb => law args κ' M' hn hA.blk (hb _ hA.del)⟩
theorem rfin {H : HP} {M : Mem} {l : Nat} {oR : Obj} {κ : Mem → Prop} {q : Prop} (h : At (bl l oR * H) M) (hκ : ∀ M2, At H M2 → κ M2) : (M l = some oR ∧ κ (M.del l)) ∨ q := .inl ⟨h.blk, hκ _ h.del⟩

/-! ### shared bytes -/
theorem At.dup {A F : HP} {M : Mem} (h : At F M) (he : Ent F A) (hp : Pers A) : At (A * F) M := h.imp (Ent.dup he hp)
theorem At.dupbs {F : HP} {M : Mem} {s : Sl} {l : List UInt8} (h : At (bs s l * F) M) : At (bs s l * (bs s l * F)) M := h.dup (Ent.l _ _) (pers_bs s l)
def bss : List Sl → List (List UInt8) → HP
  | [], [] => tt
  | s :: ss, l :: ls => bs s l * bss ss ls
  | _, _ => pu False
theorem tt_star (A : HP) : tt * A = A := by rw [sm_comm, sm_tt]
theorem bss_snoc {s : Sl} {l : List UInt8} : ∀ {ss : List Sl} {ls : List (List UInt8)}, ss.length = ls.length → bss (ss ++ [s]) (ls ++ [l]) = bs s l * bss ss ls := by
  intro ss
  induction ss with
  | nil => intro ls h; cases ls with
    | nil => rfl
    | cons _ _ => cases h
  | cons x ss ih => intro ls h; cases ls with
    | nil => cases h
    | cons y ls =>
      simp only [List.cons_append, bss]
      rw [ih (by simpa using h), sm_left]
theorem At.first {F : HP} {M : Mem} {s : Sl} {l : List UInt8} (h : At (bs s l * F) M) (hok : firstOk l = true) : At (bs (firstS s l) (firstRec l) * (bs s l * F)) M :=
  h.dup (fun m hm => (bs _ _).up _ _ (BS.first (Ent.l _ _ m hm) hok) (Le.refl m)) (pers_bs _ _)
theorem callK64_ {F : HP} {M : Mem} {s : Sl} {l : List UInt8} {κ : Sl → Mem → Prop} (h : At F M) [Knb F s l] (hl : l.length ≤ 1000000000) (hκ : ∀ r M', At (arr r 5 1 (cb l) * F) M' → κ r M') :
    callK 64 [Sl.v s] (fun v_ M => ∃ r : Sl, v_ = Sl.v r ∧ κ r M) M :=
  callK64 h.byt hl fun r M' g1 g2 g3 => by
    rcases g3 with rfl | ⟨b, g3, g4⟩
    · have h0 : l = [] := List.length_eq_zero_iff.1 g1.len.symm
      subst h0
      refine hκ _ _ ?_
      have : arr ⟨none, 0, 0⟩ 5 1 (cb []) = tt := arr_nil
      rw [this, tt_star]; exact h.sub g2
    · exact hκ _ _ (h.of_OR g3 g4 g2)

/-! ### wal.frames -/
theorem it207 {σ : Type} {y : Value} {b : Nat} (C : σ → HP) (R : σ → List UInt8 → Prop) {K : Mem → Prop} {X : List PanicEntry → Mem → Prop}
    (step : ∀ x l s M, R x l → firstOk l = true → l.length ≤ 1000000000 → At (cl b (32, [Sl.v s]) * (bs s l * C x)) M → ∀ κ : Value → Mem → Prop,
      (∀ x' M', R x' (l.drop ((firstRec l).length + 8)) → At (cl b (32, [Sl.v s]) * (bs s l * C x')) M' → κ (.bool true) M') → callV y [Sl.v (firstS s l)] X κ M)
    (fin : ∀ x l M, R x l → firstOk l = false → At (C x) M → K M) {x : σ} {l : List UInt8} {s : Sl} {M : Mem} (hR : R x l) (h : At (cl b (32, [Sl.v s]) * (bs s l * C x)) M) (hl : l.length ≤ 1000000000) : S207 y (some (b, 0)) K X M := by
  unfold S207 S207_1
  suffices hh : ∀ n (x : σ) (l : List UInt8) (s : Sl) (M : Mem), R x l → l.length < n → l.length ≤ 1000000000 → At (cl b (32, [Sl.v s]) * (bs s l * C x)) M →
      Lpn (fun (s_ : Unit) next1 => S207_1b y (some (b, 0)) K X next1) n () M from ⟨l.length + 1, hh _ x l s M hR (Nat.lt_succ_self _) hl h⟩
  intro n
  induction n with
  | zero => intro x l s M _ h; omega
  | succ n ih =>
    intro x l s M hR hlt hl h
    have hs0 : BS M s l := h.byt
    have hcap := hs0.cap
    have hlen := hs0.len
    show S207_1b y (some (b, 0)) K X _ M
    unfold S207_1b
    refine nn_ (ldL_ h rfl ?_)
    refine br208 (K := fun r5_0 r5_1 => ite' (!r5_1) (S207_2 r5_0 true y (some (b, 0)) K X _) (callV y [Sl.v r5_0] X fun v_ M => ∃ (r7 : Bool), v_ = .bool r7 ∧ (S207_2 r5_0 (!r7) y (some (b, 0)) K X _) M)) (c208 hs0 hl (fun hok => ?_) (fun hno r => ?_))
    · refine iteF rfl ?_
      have hfl := firstRec_length hok
      refine step x l s M hR hok hl h _ fun x' M' hR' g => ⟨true, rfl, ?_⟩
      unfold S207_2
      have hrl := (hs0.first hok).len
      have w1 : IntKind.wrap .i64 (((firstS s l).n : Int) + 8) = ((firstS s l).n : Int) + 8 := w64 (by omega) (by omega)
      refine iteF rfl (nn_ (ldL_ g rfl (must_ ⟨by rw [w1]; omega, by rw [w1]; omega, trivial, Int.le_refl _⟩ (st0_ g fun M2 g2 => ?_))))
      rw [w1] at g2
      refine ih x' (l.drop ((firstRec l).length + 8)) (Sl.cut s 1 (((firstS s l).n : Int) + 8) (s.n : Int) (s.c : Int)) M2 hR' (by simp; omega) (by simp; omega) (g2.imp ?_)
      refine Ent.star (Ent.refl _) (Ent.star (fun m hm => ?_) (Ent.refl _))
      have hm' : BS (erm (shp m)) s l := hm
      have hc := hm'.cut (lo := ((firstS s l).n : Int) + 8) (hi := s.n) (mx := s.c) (by omega) (by omega) (by omega) (by omega) (by omega)
      have e2 : (l.drop (((firstS s l).n : Int) + 8).toNat).take ((s.n : Int).toNat - (((firstS s l).n : Int) + 8).toNat) = l.drop ((firstRec l).length + 8) := by
        have : (((firstS s l).n : Int) + 8).toNat = (firstRec l).length + 8 := by omega
        rw [this, List.take_of_length_le (by simp; omega)]
      rw [e2] at hc; exact hc
    · refine iteT rfl ?_
      unfold S207_2
      exact iteT rfl (fin x l M hR hno h.r.r)

theorem good_le : ∀ (n : Nat) (l : List UInt8), l.length < n → good l ≤ l.length ∧ (recs l).length ≤ l.length := by
  intro n
  induction n with
  | zero => intro l h; omega
  | succ n ih =>
    intro l h
    cases hok : firstOk l with
    | false => rw [good_no hok, recs_no hok]; simp
    | true =>
      have h1 := firstRec_length hok
      have h2 := ih (l.drop ((firstRec l).length + 8)) (by simp; omega)
      rw [good_ok hok, recs_ok hok]
      simp at h2 ⊢
      omega

/-- wal.Parse. -/
theorem c65 {s : Sl} {l : List UInt8} {F : HP} {K : Sl → Int → Mem → Prop} {X : List PanicEntry → Mem → Prop} {M : Mem} (h : At (bs s l * F) M) (hl : l.length ≤ 1000000000)
    (hK : ∀ r ss M', At (arr r 32 1 (ss.map Sl.v) * (bss ss (recs l) * F)) M' → ss.length = (recs l).length → K r (good l) M') : S65 s K X M := by
  have hgl := good_le _ l (Nat.lt_succ_self _)
  unfold S65
  refine newc_ h fun b1 M1 h1 => newc_ h1 fun b2 M2 h2 => br131 (K := fun r3 => S65_1 (b1, 0) (b2, 0) r3 K X) ?_
  unfold S131
  refine newc_ h2 fun b3 M3 h3 => ?_
  unfold S65_1
  refine rng_ (caps := [ptr (some (b3, 0))]) h3 Tryz.call207 fun y l_ oR oD M4 h4 law => ?_
  refine br207 (it207 (σ := List Sl × List (List UInt8) × Sl × Int) (fun x => bl l_ oR * (cl b1 (55, [Sl.v x.2.2.1]) * (cl b2 (3, [vi x.2.2.2]) * (arr x.2.2.1 32 1 (x.1.map Sl.v) * (bss x.1 x.2.1 * F)))))
    (fun x l' => recs l = x.2.1 ++ recs l' ∧ x.2.2.2 = (good l : Int) - good l' ∧ good l' ≤ good l ∧ x.1.length = x.2.1.length) ?_ ?_ (x := ([], [], ⟨none, 0, 0⟩, 0)) (l := l) (s := s) ⟨rfl, by simp, Nat.le_refl _, rfl⟩ ?_ hl)
  · rintro ⟨ss, dn, row, g⟩ l' s' M5 ⟨e1, e2, e3, e4⟩ hok hl' h5 κ hκ
    simp only at e1 e2 e3 e4 h5
    refine law _ _ _ (cl b3 (32, [Sl.v s']) * (bs s' l' * (cl b1 (55, [Sl.v row]) * (cl b2 (3, [vi g]) * (arr row 32 1 (ss.map Sl.v) * (bss ss dn * F)))))) rfl (h5.cast (by ac_rfl)) fun M6 h6 => ⟨firstS s' l', rfl, ?_⟩
    have hfl := firstRec_length hok
    have h7 : At (bs (firstS s' l') (firstRec l') * (bs s' l' * (cl b1 (55, [Sl.v row]) * (cl b2 (3, [vi g]) * (arr row 32 1 (ss.map Sl.v) * (bss ss dn * (F * cl b3 (32, [Sl.v s'])))))))) M6 :=
      (At.cast (G := bs s' l' * (cl b1 (55, [Sl.v row]) * (cl b2 (3, [vi g]) * (arr row 32 1 (ss.map Sl.v) * (bss ss dn * (F * cl b3 (32, [Sl.v s']))))))) h6 (by ac_rfl)).first hok
    unfold S65_1b
    have hrl := (h7.byt (s := firstS s' l')).len
    have hrow := (h7.pick (A := arr row 32 1)).arr_len
    simp only [List.length_map, Nat.mul_one] at hrow
    have hdn : (recs l).length = dn.length + (recs l').length := by rw [e1, List.length_append]
    refine ldL_ h7 rfl (callK64_ h7 (by omega) fun r M8 h8 => newc_ h8.share fun b8 M9 h9 => ?_)
    refine arr_app (s := row) (vs := ss.map Sl.v) (news := [Sl.v r]) (x := ⟨some (b8, 0), 1, 1⟩) (k := 1) (el := 32) h9 rfl ?_ rfl ?_ ?_ ?_ (fun r2 M10 h10 hn10 => ?_)
    · intro j v hv
      match j, hv with
      | 0, hv => cases hv; exact h9.cel (b := b8) rfl
    · intro v hv; simp at hv; subst hv; rfl
    · simp; omega
    · simp; omega
    · refine st0_ h10 fun M11 h11 => ldI_ h11 rfl (st0_ h11 fun M12 h12 hl12 => ?_)
      have w1 : IntKind.wrap .i64 (((firstS s' l').n : Int) + 8) = ((firstS s' l').n : Int) + 8 := w64 (by omega) (by omega)
      have hgo := good_ok hok
      rw [w1, w64 (by omega) (by omega)] at h12
      refine hκ (ss ++ [r], dn ++ [firstRec l'], r2, g + ((firstS s' l').n + 8)) _ ⟨?_, ?_, ?_, ?_⟩ ?_
      · rw [List.append_assoc]; simp only [List.singleton_append]; rw [e1, recs_ok hok]
      · simp only; rw [e2]; omega
      · omega
      · simp [e4]
      · simp only
        rw [bss_snoc e4, List.map_append]
        simp only [List.map_cons, List.map_nil]
        exact (h12.new hl12 oR).use
  · rintro ⟨ss, dn, row, g⟩ l' M5 ⟨e1, e2, e3, e4⟩ hno h5
    simp only at e1 e2 e3 e4 h5
    rw [recs_no hno, List.append_nil] at e1
    rw [good_no hno] at e2
    subst e1
    refine rfin h5 fun M6 h6 => ?_
    have fin : ∀ M7 g', g' = (good l : Int) → At (cl b1 (55, [Sl.v row]) * (cl b2 (3, [vi g']) * (arr row 32 1 (ss.map Sl.v) * (bss ss (recs l) * F)))) M7 → S65_2 (b1, 0) (b2, 0) K X M7 := by
      rintro M7 _ rfl h7
      exact ldL_ h7 rfl (ldI_ h7 rfl (hK _ _ _ h7.r.r e4))
    refine ldL_ h6 rfl (both_ (ldI_ h6 rfl (st0_ h6 fun M7 h7 => st0_ h7 fun M8 h8 => fin M8 g (by omega) h8.use)) (st0_ h6 fun M7 h7 => ldI_ h7 rfl (st0_ h7 fun M8 h8 => fin M8 g (by omega) h8.use)))
  · simp only [List.map_nil, arr_nil, bss, tt_star]
    exact h4.use
end Go.Proofs.YtdndpmlapcbjaaaGreat

namespace Go.Proofs.YtdndpmlapcbjaaaGreat
open Go Go.RowKit
set_option linter.unusedSimpArgs false
set_option linter.unusedVariables false

/-- An element of a row of one's own. -/
theorem ix_ {s : Sl} (el : Nat) {k : Nat} {vs : List Value} {i : Int} {F H : HP} {M : Mem} {κ : PA → Mem → Prop} (h : At H M) [hp : Pick (arr s el k) H vs F] (h0 : 0 ≤ i) (h1 : i < s.n)
    (hκ : ∀ q : PA, (∀ j v, vs[i.toNat * k + j]? = some v → cel M (q.1, q.2 + j) = some v) → κ q M) : ix s k i κ M := by
  have hA : At (arr s el k vs * F) M := h.pick
  have hr := hA.rdc
  cases ha : s.a with
  | none =>
    rcases hA.open_ with ⟨rfl, _, _⟩ | ⟨b, junk, h2, _⟩
    · simp at h1; omega
    · rw [ha] at h2; cases h2
  | some p =>
    rw [ha] at hr
    exact ⟨p, ha, h0, h1, hκ _ fun j v hv => by
      have := hr _ v hv
      simpa [Nat.add_assoc] using this⟩
theorem ix1_ {s : Sl} (el : Nat) {vs : List Value} {i : Int} {v : Value} {F H : HP} {M : Mem} {κ : PA → Mem → Prop} (h : At H M) [hp : Pick (arr s el 1) H vs F] (h0 : 0 ≤ i) (hv : vs[i.toNat]? = some v)
    (hκ : ∀ q : PA, cel M q = some v → κ q M) : ix s 1 i κ M := by
  have hA : At (arr s el 1 vs * F) M := h.pick
  have hl := hA.arr_len.1
  have hlt := (List.getElem?_eq_some_iff.1 hv).1
  exact ix_ (F := F) el h h0 (by omega) fun q hq => hκ q (by simpa using hq 0 v (by simpa using hv))
/-- An element of a row of one's own, to be stored into. -/
theorem ixS_ {s : Sl} (el : Nat) {k : Nat} {vs : List Value} {i : Int} {F H : HP} {M : Mem} {κ : PA → Mem → Prop} (h : At H M) [hp : Pick (arr s el k) H vs F] (h0 : 0 ≤ i) (h1 : i < s.n)
    (hκ : ∀ q : PA, (∀ j v, vs[i.toNat * k + j]? = some v → cel M (q.1, q.2 + j) = some v) →
      (∀ M1 vs1, At (arr s el k vs1 * F) M1 → vs1.length = vs.length → ∀ j v', j < k → YtdndpmlapcbjaaaGreat.wr M1 (q.1, q.2 + j) ∧ At (arr s el k (vs1.set (i.toNat * k + j) v') * F) (sto M1 (q.1, q.2 + j) v')) → κ q M) : ix s k i κ M := by
  have hA : At (arr s el k vs * F) M := h.pick
  have hr := hA.rdc
  have hl := hA.arr_len.1
  rcases hA.open_ with ⟨rfl, _, _⟩ | ⟨b, junk, ha, _⟩
  · simp at h1; omega
  rw [ha] at hr
  refine ⟨(b, 0), ha, h0, h1, hκ _ (fun j v hv => by
      have := hr _ v hv
      simpa [Nat.add_assoc] using this) fun M1 vs1 hA1 hl1 j v' hj => ?_⟩
  rcases hA1.open_ with ⟨rfl, _, _⟩ | ⟨b', junk', g1, g2, g3, g4, g5, hB⟩
  · simp at h1; omega
  rw [ha] at g1
  cases g1
  have hlt : i.toNat * k + j < vs1.length := by
    have h2 : (i.toNat + 1) * k ≤ s.n * k := Nat.mul_le_mul_right _ (by omega)
    rw [Nat.add_mul] at h2
    omega
  have e : (((b, 0) : PA).1, ((b, 0) : PA).2 + i.toNat * k + j) = (b, i.toNat * k + j) := by simp
  rw [e]
  refine ⟨⟨_, _, _, hB.blk, by simp only [List.size_toArray, List.length_append]; omega, by simp⟩, ?_⟩
  rw [sto_upd hB.blk, List.setIfInBounds_toArray, List.set_append_left _ _ hlt]
  exact (hB.upd _).close ha (by rw [List.length_set]; exact g2) (by rw [← g3]; simp) g4 g5

/-! ### cas.Parse -/
def casParse (l : List UInt8) : Option (List UInt8 × List UInt8) := if good l = l.length then match recs l with
  | [k, a] => some (k, a)
  | _ => none
  else none
theorem c17 {s : Sl} {l : List UInt8} {F : HP} {K : Sl → Sl → Bool → Mem → Prop} {X : List PanicEntry → Mem → Prop} {M : Mem} (h : At (bs s l * F) M) (hl : l.length ≤ 1000000000)
    (h1 : ∀ k a r0 r1 M', casParse l = some (k, a) → At (bs r0 k * (bs r1 a * F)) M' → K r0 r1 true M') (h2 : casParse l = none → ∀ M', At F M' → K ⟨none, 0, 0⟩ ⟨none, 0, 0⟩ false M') : S17 s K X M := by
  have hs := (h.byt (s := s)).len
  unfold S17
  refine br65 (K := fun r1_0 r1_1 => ite' (r1_1 != (s.n : Int)) (S17_1 r1_0 true K X) (S17_1 r1_0 ((r1_0.n : Int) != 2) K X)) (c65 h hl fun r ss M1 g1 g2 => ?_)
  have hr := g1.arr_len.1
  simp only [List.length_map, Nat.mul_one] at hr
  refine ite_ (fun hc => iteT rfl (h2 ?_ _ g1.r.r)) (fun hc => ?_)
  · simp at hc
    rw [casParse, if_neg (by omega)]
  · simp at hc
    unfold S17_1
    refine ite_ (fun hn => h2 ?_ _ g1.r.r) (fun hn => ?_)
    · simp at hn
      rw [casParse, if_pos (by omega)]
      split
      · rename_i k a e; rw [e] at g2; simp at g2; omega
      · rfl
    · simp at hn
      match hrec : recs l, ss, g1, g2 with
      | [k, a], [s0, s1], g1, g2 =>
        simp only [bss, sm_tt] at g1
        refine ix1_ 32 g1 (Int.le_refl _) rfl fun q hq => ix1_ 32 g1 (by decide) rfl fun q' hq' => ⟨s0, hq, s1, hq', h1 k a s0 s1 _ ?_ g1.use⟩
        rw [casParse, if_pos (by omega), hrec]
      | [], ss, g1, g2 => simp at g2; subst g2; simp at hr; omega
      | [k], ss, g1, g2 => simp at g2; omega
      | k :: a :: c :: tl, ss, g1, g2 => simp at g2; omega
theorem call17 {s : Sl} {l : List UInt8} {F : HP} {K : Sl → Sl → Bool → Mem → Prop} {X : List PanicEntry → Mem → Prop} {M : Mem} (h : At (bs s l * F) M) (hl : l.length ≤ 1000000000)
    (h1 : ∀ k a r0 r1 M', casParse l = some (k, a) → At (bs r0 k * (bs r1 a * F)) M' → K r0 r1 true M') (h2 : casParse l = none → ∀ M', At F M' → K ⟨none, 0, 0⟩ ⟨none, 0, 0⟩ false M') :
    call 17 [Sl.v s] X (fun v_ M => ∃ (r0 r1 : Sl) (b : Bool), v_ = .tuple #[Sl.v r0, Sl.v r1, .bool b] ∧ K r0 r1 b M) M := br17 (K := K) (c17 h hl h1 h2)

/-! ### texts -/
theorem bytesLess_lt : ∀ (x y : List UInt8), Op.bytesLess x y = decide (x < y)
  | [], [] => by simp [Op.bytesLess]
  | _ :: _, [] => by simp [Op.bytesLess]
  | [], _ :: _ => by simp [Op.bytesLess]
  | a :: x, b :: y => by
    rw [Op.bytesLess, bytesLess_lt x y, Bool.eq_iff_iff]
    simp [List.cons_lt_cons_iff]
theorem slt_eq (a b : ByteArray) : slt a b = decide (a.toList < b.toList) := bytesLess_lt _ _
theorem toList_inj {a b : ByteArray} (h : a.toList = b.toList) : a = b := by
  rw [ByteArray.toList_eq, ByteArray.toList_eq] at h
  cases a; cases b
  simp at h
  rw [h]
theorem seq_eq (a b : ByteArray) : seq a b = decide (a = b) := by
  unfold seq
  rw [Bool.eq_iff_iff]
  simp only [beq_iff_eq, decide_eq_true_eq]
  exact ⟨toList_inj, fun h => by rw [h]⟩
theorem slt_trans {a b c : ByteArray} (h1 : slt a b = true) (h2 : slt b c = true) : slt a c = true := by
  rw [slt_eq, decide_eq_true_eq] at *
  exact List.lt_trans h1 h2
theorem slt_irrefl (a : ByteArray) : slt a a = false := by
  rw [slt_eq, decide_eq_false_iff_not]
  exact List.lt_irrefl _
theorem slt_total {a b : ByteArray} (h1 : slt a b = false) (h2 : slt b a = false) : a = b := by
  rw [slt_eq, decide_eq_false_iff_not] at *
  exact toList_inj (List.le_antisymm (List.not_lt.1 h2) (List.not_lt.1 h1))

theorem call367 {a : ByteArray} {K : Bool → Mem → Prop} {X : List PanicEntry → Mem → Prop} {M : Mem} (h : K false M) : call 367 [.string a] X (fun v_ M => ∃ r : Bool, v_ = .bool r ∧ K r M) M := by
  refine br367 (K := K) ?_
  unfold S367
  rw [seq_eq]; simpa using h
theorem call338 {a : ByteArray} {K : Bool → Mem → Prop} {X : List PanicEntry → Mem → Prop} {M : Mem} (h : K false M) : call 338 [.string a] X (fun v_ M => ∃ r : Bool, v_ = .bool r ∧ K r M) M := by
  refine br338 (K := K) ?_
  unfold S338
  rw [seq_eq]; simpa using h
theorem call337 {a b : ByteArray} {K : Bool → Mem → Prop} {X : List PanicEntry → Mem → Prop} {M : Mem} (h : K (slt a b) M) : call 337 [.string a, .string b] X (fun v_ M => ∃ r : Bool, v_ = .bool r ∧ K r M) M := by
  refine br337 (K := K) ?_
  unfold S337
  refine call367 (iteF rfl ?_)
  unfold S337_1
  exact iteF rfl h

theorem half {x : Int} (h0 : 0 ≤ x) (h1 : x ≤ 4611686018427387904) : IntKind.wrap .i64 (ishr .u64 (IntKind.wrap .u64 (IntKind.wrap .i64 x)) 1) = x / 2 := by
  have e1 : IntKind.wrap .i64 x = x := w64 (by omega) (by omega)
  rw [e1]
  have e : IntKind.wrap .u64 x = x := by
    simp [IntKind.wrap, IntKind.bits, IntKind.signed]; omega
  rw [e]
  have e2 : ishr .u64 x 1 = x / 2 := by
    have : ishr .u64 x 1 = x.fdiv 2 := rfl
    rw [this, Int.fdiv_eq_ediv_of_nonneg _ (by decide)]
  rw [e2, w64 (by omega) (by omega)]

/-- slices.BinarySearch in texts that rise. -/
theorem c283 {s : Sl} {ks : List ByteArray} {k : ByteArray} {F : HP} {K : Int → Bool → Mem → Prop} {X : List PanicEntry → Mem → Prop} {M : Mem} (h : At (arr s 9 1 (ks.map Value.string) * F) M) (hb : ks.length ≤ 1000000000)
    (hs : ∀ (i j : Nat) x y, i < j → ks[i]? = some x → ks[j]? = some y → slt x y = true)
    (hK : ∀ i : Nat, i ≤ ks.length → (∀ (j : Nat) x, j < i → ks[j]? = some x → slt x k = true) → (∀ (j : Nat) x, i ≤ j → ks[j]? = some x → slt x k = false) → K i (decide (ks[i]? = some k)) M) : S283 s k K X M := by
  have hn := h.arr_len.1
  simp only [List.length_map, Nat.mul_one] at hn
  unfold S283 S283_2
  refine Lp_of (σ := Int × Int) (fun p M' => M' = M ∧ 0 ≤ p.1 ∧ p.1 ≤ p.2 ∧ p.2 ≤ ks.length ∧ (∀ (j : Nat) x, j < p.1 → ks[j]? = some x → slt x k = true) ∧ (∀ (j : Nat) x, p.2 ≤ j → ks[j]? = some x → slt x k = false)) (fun p => (p.2 - p.1).toNat) ?_
    ⟨rfl, Int.le_refl _, Int.natCast_nonneg _, by simp [hn], fun j x hj => by (simp at hj; omega), fun j x hj hx => by
      have := (List.getElem?_eq_some_iff.1 hx).1
      simp at hj; omega⟩
  rintro ⟨lo, hi⟩ M' next ⟨rfl, a0, a1, a2, a3, a4⟩ hnx
  simp only at a0 a1 a2 a3 a4 hnx ⊢
  unfold S283_2b
  refine ite_ (fun hc => ?_) (fun hc => ?_)
  · have hlt : lo < hi := of_decide_eq_true hc
    rw [half (by omega) (by omega)]
    obtain ⟨m, hm⟩ : ∃ m : Nat, (lo + hi) / 2 = m := ⟨((lo + hi) / 2).toNat, by omega⟩
    rw [hm]
    obtain ⟨x, hx⟩ : ∃ x, ks[m]? = some x := ⟨_, List.getElem?_eq_getElem (by omega)⟩
    refine ix1_ 9 (v := .string x) h (by omega) (by simp [hx]) fun q hq => ⟨x, hq, call337 ?_⟩
    refine ite_ (fun hl => ?_) (fun hl => ?_)
    · rw [w64 (by omega) (by omega)]
      refine hnx _ _ ⟨rfl, by omega, by omega, by omega, fun j y hj hy => ?_, a4⟩ (by simp; omega)
      simp only at hj
      by_cases hjm : j = m
      · subst hjm; rw [hx] at hy; cases hy; exact hl
      · exact slt_trans (hs j m y x (by omega) hy hx) hl
    · refine hnx _ _ ⟨rfl, by omega, by simp; omega, by simp; omega, a3, fun j y hj hy => ?_⟩ (by simp; omega)
      simp only at hj
      by_cases hjm : j = m
      · subst hjm; rw [hx] at hy; cases hy; exact hl
      · have h1 := hs m j x y (by omega) hx hy
        cases h2 : slt y k with
        | false => rfl
        | true => rw [slt_trans h1 h2] at hl; cases hl
  · have hge : lo = hi := by have := of_decide_eq_false hc; omega
    subst hge
    obtain ⟨m, hm⟩ : ∃ m : Nat, lo = m := ⟨lo.toNat, by omega⟩
    subst hm
    have fin := hK m (by omega) (fun j x hj => a3 j x (by omega)) (fun j x hj => a4 j x (by omega))
    unfold S283_1
    refine ite_ (fun hlt => ?_) (fun hlt => ?_)
    · have hlt' : m < ks.length := by have := of_decide_eq_true hlt; omega
      obtain ⟨x, hx⟩ : ∃ x, ks[m]? = some x := ⟨_, List.getElem?_eq_getElem hlt'⟩
      rw [hx] at fin
      refine ix1_ 9 (v := .string x) h (by omega) (by simp [hx]) fun q hq => ldSq hq ?_
      rw [seq_eq]
      refine ite_ (fun he => ?_) (fun he => ?_)
      · have he' : x = k := of_decide_eq_true he
        subst he'
        simpa [S283_5, S283_4] using fin
      · have he' : x ≠ k := of_decide_eq_false he
        refine ix1_ 9 (v := .string x) h (by omega) (by simp [hx]) fun q' hq' => ⟨x, hq', call338 (iteF rfl ?_)⟩
        simpa [S283_6, S283_5, S283_4, he'] using fin
    · have hge : ks.length ≤ m := by have := of_decide_eq_false hlt; omega
      rw [List.getElem?_eq_none hge] at fin
      simpa [S283_4] using fin

end Go.Proofs.YtdndpmlapcbjaaaGreat

namespace Go.Proofs.YtdndpmlapcbjaaaGreat
open Go Go.RowKit
set_option linter.unusedSimpArgs false
set_option linter.unusedVariables false

def insG (el by_ ov rot : Nat) (zs : List Value) (t0 : Sl) (t1 : Int) (t2 : Sl) (K : Sl → Mem → Prop) (X : List PanicEntry → Mem → Prop) : Mem → Prop :=
  must (0 ≤ t1 ∧ t1 ≤ (t0.n : Int) ∧ True ∧ (t0.c : Int) ≤ (t0.c : Int)) <| ite' ((t2.n : Int) == 0) (K t0) (ite' (t1 == (t0.n : Int)) (appS el 1 by_ zs t0 t2 fun x2 => K x2) (ite' (decide ((IntKind.wrap .i64 ((t0.n : Int) + (t2.n : Int))) > (t0.c : Int))) (must (0 ≤ (0 : Int) ∧ (0 : Int) ≤ t1 ∧ t1 ≤ (t0.c : Int) ∧ (t0.c : Int) ≤ (t0.c : Int)) <| appZ el 1 by_ zs (Sl.cut t0 1 (0 : Int) t1 (t0.c : Int)) (IntKind.wrap .i64 ((IntKind.wrap .i64 ((t0.n : Int) + (t2.n : Int))) - t1)) fun x4 => must (0 ≤ t1 ∧ t1 ≤ (x4.n : Int) ∧ True ∧ (x4.c : Int) ≤ (x4.c : Int)) <| cpS 1 (Sl.cut x4 1 t1 (x4.n : Int) (x4.c : Int)) t2 fun x6 => must (0 ≤ IntKind.wrap .i64 (t1 + (t2.n : Int)) ∧ IntKind.wrap .i64 (t1 + (t2.n : Int)) ≤ (x4.n : Int) ∧ True ∧ (x4.c : Int) ≤ (x4.c : Int)) <| must (0 ≤ t1 ∧ t1 ≤ (t0.n : Int) ∧ True ∧ (t0.c : Int) ≤ (t0.c : Int)) <| cpS 1 (Sl.cut x4 1 (IntKind.wrap .i64 (t1 + (t2.n : Int))) (x4.n : Int) (x4.c : Int)) (Sl.cut t0 1 t1 (t0.n : Int) (t0.c : Int)) fun x9 => K x4) (must (0 ≤ (0 : Int) ∧ (0 : Int) ≤ IntKind.wrap .i64 ((t0.n : Int) + (t2.n : Int)) ∧ IntKind.wrap .i64 ((t0.n : Int) + (t2.n : Int)) ≤ (t0.c : Int) ∧ (t0.c : Int) ≤ (t0.c : Int)) <| must (0 ≤ IntKind.wrap .i64 (t1 + (t2.n : Int)) ∧ IntKind.wrap .i64 (t1 + (t2.n : Int)) ≤ ((Sl.cut t0 1 (0 : Int) (IntKind.wrap .i64 ((t0.n : Int) + (t2.n : Int))) (t0.c : Int)).n : Int) ∧ True ∧ ((Sl.cut t0 1 (0 : Int) (IntKind.wrap .i64 ((t0.n : Int) + (t2.n : Int))) (t0.c : Int)).c : Int) ≤ ((Sl.cut t0 1 (0 : Int) (IntKind.wrap .i64 ((t0.n : Int) + (t2.n : Int))) (t0.c : Int)).c : Int)) <| callE ov [Sl.v t2, Sl.v (Sl.cut (Sl.cut t0 1 (0 : Int) (IntKind.wrap .i64 ((t0.n : Int) + (t2.n : Int))) (t0.c : Int)) 1 (IntKind.wrap .i64 (t1 + (t2.n : Int))) ((Sl.cut t0 1 (0 : Int) (IntKind.wrap .i64 ((t0.n : Int) + (t2.n : Int))) (t0.c : Int)).n : Int) ((Sl.cut t0 1 (0 : Int) (IntKind.wrap .i64 ((t0.n : Int) + (t2.n : Int))) (t0.c : Int)).c : Int))] (fun _ _ => False) fun v_ M => ∃ (r12 : Bool), v_ = .bool r12 ∧ ( ite' (!r12) (must (0 ≤ IntKind.wrap .i64 (t1 + (t2.n : Int)) ∧ IntKind.wrap .i64 (t1 + (t2.n : Int)) ≤ ((Sl.cut t0 1 (0 : Int) (IntKind.wrap .i64 ((t0.n : Int) + (t2.n : Int))) (t0.c : Int)).n : Int) ∧ True ∧ ((Sl.cut t0 1 (0 : Int) (IntKind.wrap .i64 ((t0.n : Int) + (t2.n : Int))) (t0.c : Int)).c : Int) ≤ ((Sl.cut t0 1 (0 : Int) (IntKind.wrap .i64 ((t0.n : Int) + (t2.n : Int))) (t0.c : Int)).c : Int)) <| must (0 ≤ t1 ∧ t1 ≤ ((Sl.cut t0 1 (0 : Int) (IntKind.wrap .i64 ((t0.n : Int) + (t2.n : Int))) (t0.c : Int)).n : Int) ∧ True ∧ ((Sl.cut t0 1 (0 : Int) (IntKind.wrap .i64 ((t0.n : Int) + (t2.n : Int))) (t0.c : Int)).c : Int) ≤ ((Sl.cut t0 1 (0 : Int) (IntKind.wrap .i64 ((t0.n : Int) + (t2.n : Int))) (t0.c : Int)).c : Int)) <| cpS 1 (Sl.cut (Sl.cut t0 1 (0 : Int) (IntKind.wrap .i64 ((t0.n : Int) + (t2.n : Int))) (t0.c : Int)) 1 (IntKind.wrap .i64 (t1 + (t2.n : Int))) ((Sl.cut t0 1 (0 : Int) (IntKind.wrap .i64 ((t0.n : Int) + (t2.n : Int))) (t0.c : Int)).n : Int) ((Sl.cut t0 1 (0 : Int) (IntKind.wrap .i64 ((t0.n : Int) + (t2.n : Int))) (t0.c : Int)).c : Int)) (Sl.cut (Sl.cut t0 1 (0 : Int) (IntKind.wrap .i64 ((t0.n : Int) + (t2.n : Int))) (t0.c : Int)) 1 t1 ((Sl.cut t0 1 (0 : Int) (IntKind.wrap .i64 ((t0.n : Int) + (t2.n : Int))) (t0.c : Int)).n : Int) ((Sl.cut t0 1 (0 : Int) (IntKind.wrap .i64 ((t0.n : Int) + (t2.n : Int))) (t0.c : Int)).c : Int)) fun x15 => must (0 ≤ t1 ∧ t1 ≤ ((Sl.cut t0 1 (0 : Int) (IntKind.wrap .i64 ((t0.n : Int) + (t2.n : Int))) (t0.c : Int)).n : Int) ∧ True ∧ ((Sl.cut t0 1 (0 : Int) (IntKind.wrap .i64 ((t0.n : Int) + (t2.n : Int))) (t0.c : Int)).c : Int) ≤ ((Sl.cut t0 1 (0 : Int) (IntKind.wrap .i64 ((t0.n : Int) + (t2.n : Int))) (t0.c : Int)).c : Int)) <| cpS 1 (Sl.cut (Sl.cut t0 1 (0 : Int) (IntKind.wrap .i64 ((t0.n : Int) + (t2.n : Int))) (t0.c : Int)) 1 t1 ((Sl.cut t0 1 (0 : Int) (IntKind.wrap .i64 ((t0.n : Int) + (t2.n : Int))) (t0.c : Int)).n : Int) ((Sl.cut t0 1 (0 : Int) (IntKind.wrap .i64 ((t0.n : Int) + (t2.n : Int))) (t0.c : Int)).c : Int)) t2 fun x17 => K (Sl.cut t0 1 (0 : Int) (IntKind.wrap .i64 ((t0.n : Int) + (t2.n : Int))) (t0.c : Int))) (must (0 ≤ (t0.n : Int) ∧ (t0.n : Int) ≤ ((Sl.cut t0 1 (0 : Int) (IntKind.wrap .i64 ((t0.n : Int) + (t2.n : Int))) (t0.c : Int)).n : Int) ∧ True ∧ ((Sl.cut t0 1 (0 : Int) (IntKind.wrap .i64 ((t0.n : Int) + (t2.n : Int))) (t0.c : Int)).c : Int) ≤ ((Sl.cut t0 1 (0 : Int) (IntKind.wrap .i64 ((t0.n : Int) + (t2.n : Int))) (t0.c : Int)).c : Int)) <| cpS 1 (Sl.cut (Sl.cut t0 1 (0 : Int) (IntKind.wrap .i64 ((t0.n : Int) + (t2.n : Int))) (t0.c : Int)) 1 (t0.n : Int) ((Sl.cut t0 1 (0 : Int) (IntKind.wrap .i64 ((t0.n : Int) + (t2.n : Int))) (t0.c : Int)).n : Int) ((Sl.cut t0 1 (0 : Int) (IntKind.wrap .i64 ((t0.n : Int) + (t2.n : Int))) (t0.c : Int)).c : Int)) t2 fun x19 => must (0 ≤ t1 ∧ t1 ≤ ((Sl.cut t0 1 (0 : Int) (IntKind.wrap .i64 ((t0.n : Int) + (t2.n : Int))) (t0.c : Int)).n : Int) ∧ True ∧ ((Sl.cut t0 1 (0 : Int) (IntKind.wrap .i64 ((t0.n : Int) + (t2.n : Int))) (t0.c : Int)).c : Int) ≤ ((Sl.cut t0 1 (0 : Int) (IntKind.wrap .i64 ((t0.n : Int) + (t2.n : Int))) (t0.c : Int)).c : Int)) <| call rot [Sl.v (Sl.cut (Sl.cut t0 1 (0 : Int) (IntKind.wrap .i64 ((t0.n : Int) + (t2.n : Int))) (t0.c : Int)) 1 t1 ((Sl.cut t0 1 (0 : Int) (IntKind.wrap .i64 ((t0.n : Int) + (t2.n : Int))) (t0.c : Int)).n : Int) ((Sl.cut t0 1 (0 : Int) (IntKind.wrap .i64 ((t0.n : Int) + (t2.n : Int))) (t0.c : Int)).c : Int)), .int .i64 (t2.n : Int)] X fun v_ M => ( K (Sl.cut t0 1 (0 : Int) (IntKind.wrap .i64 ((t0.n : Int) + (t2.n : Int))) (t0.c : Int))) M)) M)))

def delG (el by_ : Nat) (zs : List Value) (t0 : Sl) (t1 : Int) (t2 : Int) (K : Sl → Mem → Prop) (X : List PanicEntry → Mem → Prop) : Mem → Prop :=
  must (0 ≤ t1 ∧ t1 ≤ t2 ∧ t2 ≤ (t0.n : Int) ∧ (t0.n : Int) ≤ (t0.c : Int)) <| ite' (t1 == t2) (K t0) (must (0 ≤ (0 : Int) ∧ (0 : Int) ≤ t1 ∧ t1 ≤ (t0.c : Int) ∧ (t0.c : Int) ≤ (t0.c : Int)) <| must (0 ≤ t2 ∧ t2 ≤ (t0.n : Int) ∧ True ∧ (t0.c : Int) ≤ (t0.c : Int)) <| appS el 1 by_ zs (Sl.cut t0 1 (0 : Int) t1 (t0.c : Int)) (Sl.cut t0 1 t2 (t0.n : Int) (t0.c : Int)) fun x4 => must (0 ≤ (x4.n : Int) ∧ (x4.n : Int) ≤ (t0.n : Int) ∧ (t0.n : Int) ≤ (x4.c : Int) ∧ (x4.c : Int) ≤ (x4.c : Int)) <| clr zs (Sl.cut x4 1 (x4.n : Int) (t0.n : Int) (x4.c : Int)) <| K x4)

theorem ins280 : S280 = insG 9 16 333 334 [.string (⟨#[]⟩ : ByteArray)] := rfl
theorem ins281 : S281 = insG 3 8 335 336 [.int .i64 0] := rfl
theorem del331 : S331 = delG 9 16 [.string (⟨#[]⟩ : ByteArray)] := rfl
theorem del332 : S332 = delG 3 8 [.int .i64 0] := rfl

/-! ### slices.overlaps of rows in two blocks -/
def OvOk (f : Nat) : Prop := ∃ (fn : Func) (tS tR e : Nat), Tryz.prog.funcs[f]? = some fn ∧ (fn.name == "runtime.NumGoroutine") = false ∧ fn.body.isNone = true ∧ Extern.findNext fn = none ∧
  Extern.find fn = some (Extern.SlicesOverlaps.overlaps #[tS, tS] #[tR]) ∧ Tryz.prog.underlying tS = some (.slice e) ∧ (Tryz.prog.info? e).map (·.size) = some 1
theorem ov333 : OvOk 333 := ⟨Tryz.f333, 36, 4, 9, Tryz.func333, by kernel_rfl, by kernel_rfl, by kernel_rfl, by kernel_rfl, by kernel_rfl, by kernel_rfl⟩
theorem ov335 : OvOk 335 := ⟨Tryz.f335, 109, 4, 3, Tryz.func335, by kernel_rfl, by kernel_rfl, by kernel_rfl, by kernel_rfl, by kernel_rfl, by kernel_rfl⟩
theorem cut_base {b n c k : Nat} {hi mx : Int} : Sl.cut ⟨some (b, 0), n, c⟩ k 0 hi mx = ⟨some (b, 0), hi.toNat, mx.toNat⟩ := by
  unfold Sl.cut
  simp only [Option.map_some, enc_base]
  have e : (0 : Int).toNat = 0 := rfl
  rw [e, Nat.zero_mul, Nat.add_zero, Nat.sub_zero, Nat.sub_zero]
  simp only [enc_base]
  congr 1
  split
  · split
    · rfl
    · split <;> rfl
  · split <;> rfl
theorem callE_ov {f : Nat} (hf : OvOk f) {vb vo b o tA tB m vc lb cb : Nat} {cA cB : List Value} {X : List PanicEntry → Mem → Prop} {κ : Value → Mem → Prop} {M : Mem} (hA : M vb = some (.cells cA.toArray tA (0, 0))) (hB : M b = some (.cells cB.toArray tB (0, 0))) (hn : vb ≠ b) (h0 : cB.length ≠ 0) (hm : m ≠ 0) (hlb : lb ≠ 0)
    (h : κ (.bool false) M) : callE f [Sl.v ⟨some (vb, vo), m, vc⟩, Sl.v ⟨some (b, o), lb, cb⟩] X κ M := by
  obtain ⟨fn, tS, tR, e, h1, h2, h3, h4, h5, h6, h7⟩ := hf
  obtain ⟨i, h8, h9⟩ := Option.map_eq_some_iff.1 h7
  intro ro w hw
  have gA := hw _ _ hA
  have gB := hw _ _ hB
  have := Lib.run_overlaps_apart (P := Tryz.prog) w tS tR e h6 1 (fun w => by simp [sizeOf, typeInfo, h8, h9]) ⟨vb, vo, none⟩ ⟨b, o, none⟩ m vc lb cb hn tA tB cA.length cB.length
    (by simp [World.shape?, gA]) (by simp [World.shape?, gB]) h0 (by simp [World.frozen?, gA]) (by simp [World.frozen?, gA])
  show Res Tryz.prog ro M w κ X ((callFunc f #[Sl.v ⟨some (vb, vo), m, vc⟩, Sl.v ⟨some (b, o), lb, cb⟩]).run Tryz.prog w)
  rw [run_callFunc_extern h1 h2 h3 h4 h5]
  simp only [Sl.v, adr_n hm, adr_n hlb]
  rw [this]
  exact ⟨M, hw, Fr.refl M w, h⟩

/-! ### cells of a block -/
theorem putL_eq (L : List Value) (off : Nat) (news : List Value) (h : off + news.length ≤ L.length) : putL L off news = L.take off ++ news ++ L.drop (off + news.length) := by
  have h1 : (L.take off).length = off := by rw [List.length_take]; omega
  have := putL_app news (L.take off) (L.drop off) (by rw [List.length_drop]; omega)
  rw [List.take_append_drop, h1, List.drop_drop] at this
  exact this
theorem rdc_bl {M : Mem} {b off t : Nat} {L news : List Value} {fr : Nat × Nat} (h : M b = some (.cells L.toArray t fr)) (hn : ∀ j v, news[j]? = some v → L[off + j]? = some v) : rdc M (some (b, off)) news := fun j v hv => by
  simp only [cel, h, List.getElem?_toArray]; exact hn j v hv
theorem cp_ {M : Mem} {b off t : Nat} {L news : List Value} {s z : Sl} {F : HP} {κ : Int → Mem → Prop} (h : At (bl b (.cells L.toArray t (0, 0)) * F) M) (hd : s.a = some (b, off)) (hr : rdc M z.a news) (hl : news.length = min z.n s.n) (h1 : ∀ v ∈ news, v.oneCell' = true)
    (hlt : off + news.length ≤ L.length) (hκ : ∀ n M', At (bl b (.cells (L.take off ++ news ++ L.drop (off + news.length)).toArray t (0, 0)) * F) M' → κ n M') : cpS 1 s z κ M := by
  refine ⟨news, hr, by rw [hl, Nat.mul_one], h1, .inr ⟨(b, off), hd, fun j hj => ⟨_, _, _, h.blk, by simp only [List.size_toArray]; omega, by simp⟩, hκ _ _ ?_⟩⟩
  rw [stos_upd news M L off h.blk, putL_eq _ _ _ hlt]
  exact h.upd _

theorem splitA {α : Type} (A : List α) (B : List α) : (A ++ B).take A.length = A ∧ (A ++ B).drop A.length = B := by simp
theorem setA {α : Type} (A : List α) (z v : α) (B : List α) : (A ++ z :: B).take A.length ++ [v] ++ (A ++ z :: B).drop (A.length + 1) = A ++ v :: B := by
  have : A ++ z :: B = (A ++ [z]) ++ B := by simp
  rw [(splitA A (z :: B)).1]
  have h2 : (A ++ z :: B).drop (A.length + 1) = B := by
    rw [this]
    have := (splitA (A ++ [z]) B).2
    rw [List.length_append, List.length_singleton] at this; exact this
  rw [h2]; simp
theorem growL {α : Type} (A Zs Z D : List α) (v : α) (i : Nat) (hA : A.length = i) (hZ : Zs.length = D.length + 1) :
    List.take (i + 1) (List.take i (A ++ Zs ++ Z) ++ [v] ++ List.drop (i + 1) (A ++ Zs ++ Z)) ++ D ++ List.drop (i + 1 + D.length) (List.take i (A ++ Zs ++ Z) ++ [v] ++ List.drop (i + 1) (A ++ Zs ++ Z)) = (A ++ v :: D) ++ Z := by
  subst hA
  cases Zs with
  | nil => simp at hZ
  | cons z Zs =>
    have e : A ++ (z :: Zs) ++ Z = A ++ z :: (Zs ++ Z) := by simp
    rw [e, setA]
    have e2 : A ++ v :: (Zs ++ Z) = (A ++ [v] ++ Zs) ++ Z := by simp
    have h1 : (A ++ v :: (Zs ++ Z)).take (A.length + 1) = A ++ [v] := by
      have := (splitA (A ++ [v]) (Zs ++ Z)).1
      rw [List.length_append, List.length_singleton] at this
      rw [← this]; simp
    have h2 : (A ++ v :: (Zs ++ Z)).drop (A.length + 1 + D.length) = Z := by
      rw [e2]
      have := (splitA (A ++ [v] ++ Zs) Z).2
      rw [List.length_append, List.length_append, List.length_singleton] at this
      have hl : A.length + 1 + D.length = A.length + 1 + Zs.length := by simp at hZ; omega
      rw [hl]; exact this
    rw [h1, h2]; simp
theorem roomL {α : Type} (vs : List α) (j v : α) (junk : List α) (i : Nat) (hi : i ≤ vs.length) :
    List.take i (List.take (i + 1) (vs ++ j :: junk) ++ vs.drop i ++ List.drop (i + 1 + (vs.drop i).length) (vs ++ j :: junk)) ++ [v] ++ List.drop (i + 1) (List.take (i + 1) (vs ++ j :: junk) ++ vs.drop i ++ List.drop (i + 1 + (vs.drop i).length) (vs ++ j :: junk)) = (vs.take i ++ v :: vs.drop i) ++ junk := by
  have h2 : List.drop (i + 1 + (vs.drop i).length) (vs ++ j :: junk) = junk := by
    have e : vs ++ j :: junk = (vs ++ [j]) ++ junk := by simp
    rw [e]
    have := (splitA (vs ++ [j]) junk).2
    rw [List.length_append, List.length_singleton] at this
    have hl : i + 1 + (vs.drop i).length = vs.length + 1 := by rw [List.length_drop]; omega
    rw [hl]; exact this
  rw [h2]
  obtain ⟨A, hA⟩ : ∃ A, List.take (i + 1) (vs ++ j :: junk) = A := ⟨_, rfl⟩
  have hAl : A.length = i + 1 := by rw [← hA]; simp; omega
  have h3 : List.take i (A ++ vs.drop i ++ junk) = vs.take i := by
    rw [List.append_assoc, List.take_append_of_le_length (by omega), ← hA, List.take_take, Nat.min_eq_left (by omega), List.take_append_of_le_length hi]
  have h4 : List.drop (i + 1) (A ++ vs.drop i ++ junk) = vs.drop i ++ junk := by
    rw [List.append_assoc, ← hAl]; simp
  rw [hA, h3, h4]; simp

section
variable {el by_ ov rot : Nat} {zs : List Value} {s : Sl} {vs : List Value} {v : Value} {i : Nat} {vb tv : Nat} {F : HP} {K : Sl → Mem → Prop} {X : List PanicEntry → Mem → Prop} {M : Mem}
theorem insG_ (hov : OvOk ov) (hz : zs.length = 1) (hz1 : ∀ v ∈ zs, v.oneCell' = true) (hby : by_ ≤ 16) (h : At (arr s el 1 vs * (cl vb (tv, [v]) * F)) M) (hi : i ≤ vs.length) (h1 : ∀ v ∈ vs, v.oneCell' = true) (hv1 : v.oneCell' = true) (hn : vs.length ≤ 1000000000)
    (hK : ∀ r M', At (arr r el 1 (vs.take i ++ v :: vs.drop i) * (cl vb (tv, [v]) * F)) M' → K r M') : insG el by_ ov rot zs s i ⟨some (vb, 0), 1, 1⟩ K X M := by
  have hl := h.arr_len
  rw [Nat.mul_one] at hl
  obtain ⟨hl, hc, hbig⟩ := hl
  have hx : rdc M (some (vb, 0)) [v] := fun j w hw => by
    match j, hw with
    | 0, hw => cases hw; exact h.cel (b := vb) rfl
  have hb1 : (s.n + 1) * by_ ≤ 1000000001 * 16 := Nat.mul_le_mul (by omega) hby
  have e1 : ((1 : Nat) : Int) = 1 := rfl
  unfold insG
  simp only [e1]
  refine must_ ⟨by omega, by omega, trivial, Int.le_refl _⟩ (iteF rfl (ite_ (fun hc1 => ?_) (fun hc1 => ?_)))
  · have : i = vs.length := by simp at hc1; omega
    subst this
    refine arr_app (s := s) (x := ⟨some (vb, 0), 1, 1⟩) (news := [v]) h hz hx rfl (fun w hw => by simp at hw; subst hw; exact hv1) (by simp only; omega) (by simp only; omega) fun r M' h' _ => hK r M' ?_
    rw [List.take_length, List.drop_length]; exact h'
  have hi' : i < vs.length := by simp at hc1; omega
  have w1 : IntKind.wrap .i64 ((s.n : Int) + 1) = (s.n : Int) + 1 := w64 (by omega) (by omega)
  have w2 : IntKind.wrap .i64 ((i : Int) + 1) = (i : Int) + 1 := w64 (by omega) (by omega)
  rcases h.open_ with ⟨rfl, rfl, _⟩ | ⟨b, junk, g1, g2, g3, g4, g5, hB⟩
  · simp at hi'
  rw [Nat.mul_one] at g2 g3
  have hd1 : ∀ w ∈ vs.drop i, w.oneCell' = true := fun w hw => h1 w (List.mem_of_mem_drop hw)
  have hv1' : ∀ w ∈ [v], w.oneCell' = true := fun w hw => by simp at hw; subst hw; exact hv1
  have hdl : (vs.drop i).length = s.n - i := by rw [List.length_drop]; omega
  obtain ⟨sa, sn, sc⟩ := s
  simp only at *
  subst g1
  refine ite_ (fun hc2 => ?_) (fun hc2 => ?_)
  · -- it grows
    have hlt : sc < sn + 1 := by
      have := of_decide_eq_true hc2
      rw [w1] at this; omega
    have w3 : IntKind.wrap .i64 (IntKind.wrap .i64 ((sn : Int) + 1) - (i : Int)) = ((sn + 1 - i : Nat) : Int) := by rw [w1, w64 (by omega) (by omega)]; omega
    refine must_ ⟨by omega, by omega, by omega, by omega⟩ ?_
    rw [w3]
    have hcut : Sl.cut ⟨some (b, 0), sn, sc⟩ 1 0 i sc = ⟨some (b, 0), i, sc⟩ := by
      rw [cut_base]; simp
    rw [hcut]
    refine ⟨vs.take i, rdc_bl hB.blk fun j w hw => ?_, by simp; omega, hz, Nat.one_pos, hz1, by omega, ?_, by simp; omega, fun hcc => absurd hcc (by simp; omega), fun _ c nb k1 k2 k3 => ?_⟩
    · rw [Nat.zero_add]
      have hj : j < i := by
        have := (List.getElem?_eq_some_iff.1 hw).1
        rw [List.length_take] at this; omega
      rw [List.getElem?_take_of_lt hj] at hw
      rw [List.getElem?_append_left (by omega)]; exact hw
    · simp only [Int.toNat_natCast]
      have : i + (sn + 1 - i) = sn + 1 := by omega
      rw [this]; omega
    · simp only [Int.toNat_natCast] at k1 ⊢
      obtain ⟨Zs, hZs⟩ : ∃ Zs, (Builtin.zeroCells zs.toArray (sn + 1 - i)).toList = Zs := ⟨_, rfl⟩
      have hZl : Zs.length = sn + 1 - i := by rw [← hZs, zeroCells_len, hz, Nat.mul_one]
      obtain ⟨Z, hZ⟩ : ∃ Z, (Builtin.zeroCells zs.toArray (c - (i + (sn + 1 - i)))).toList = Z := ⟨_, rfl⟩
      have hZl' : Z.length = c - (sn + 1) := by rw [← hZ, zeroCells_len, hz, Nat.mul_one]; omega
      rw [hZs, hZ]
      have hN : At (bl nb (.cells (vs.take i ++ Zs ++ Z).toArray el (0, 0)) * (bl b (.cells (vs ++ junk).toArray el (0, 0)) * (cl vb (tv, [v]) * F))) _ := hB.new k3 (.cells (vs.take i ++ Zs ++ Z).toArray el (0, 0))
      have hcut1 : Sl.cut ⟨some (nb, 0), i + (sn + 1 - i), c⟩ 1 (i : Int) ((i + (sn + 1 - i) : Nat) : Int) c = ⟨some (nb, i), sn + 1 - i, c - i⟩ := by
        rw [cut_mid (by omega)]; simp <;> omega
      have hcut2 : Sl.cut ⟨some (nb, 0), i + (sn + 1 - i), c⟩ 1 ((i : Int) + 1) ((i + (sn + 1 - i) : Nat) : Int) c = ⟨some (nb, i + 1), sn - i, c - (i + 1)⟩ := by
        have h2 : ((i : Int) + 1).toNat = i + 1 := by omega
        rw [cut_mid (by omega)]; simp [h2] <;> omega
      have hcut3 : Sl.cut ⟨some (b, 0), sn, sc⟩ 1 (i : Int) sn sc = ⟨some (b, i), sn - i, sc - i⟩ := by
        rw [cut_mid (by omega)]; simp
      refine must_ ⟨by omega, by simp; omega, trivial, Int.le_refl _⟩ ?_
      rw [hcut1]
      have hxN : rdc (M.upd nb (.cells (vs.take i ++ Zs ++ Z).toArray el (0, 0))) (some (vb, 0)) [v] := (Sub.upd k3 _).rdc hx
      refine cp_ (z := ⟨some (vb, 0), 1, 1⟩) hN rfl hxN (by simp; omega) hv1' (by simp; omega) fun n1 M1 hM1 => ?_
      refine must_ ⟨by omega, by rw [w2]; simp; omega, trivial, Int.le_refl _⟩ (must_ ⟨by omega, by omega, trivial, Int.le_refl _⟩ ?_)
      rw [w2, hcut2, hcut3]
      have hb2 : At (bl b (.cells (vs ++ junk).toArray el (0, 0)) * (bl nb _ * (cl vb (tv, [v]) * F))) M1 := hM1.cast (by ac_rfl)
      refine cp_ hM1 rfl (rdc_bl hb2.blk fun j w hw => ?_) (by simp; omega) hd1 (by simp; omega) fun n2 M2 hM2 => hK _ M2 ?_
      · rw [List.getElem?_drop] at hw
        rw [List.getElem?_append_left (List.getElem?_eq_some_iff.1 hw).1]; exact hw
      · have e : (List.take (i + 1) (List.take i (vs.take i ++ Zs ++ Z) ++ [v] ++ List.drop (i + [v].length) (vs.take i ++ Zs ++ Z)) ++ vs.drop i ++ List.drop (i + 1 + (vs.drop i).length) (List.take i (vs.take i ++ Zs ++ Z) ++ [v] ++ List.drop (i + [v].length) (vs.take i ++ Zs ++ Z))) = (vs.take i ++ v :: vs.drop i) ++ Z := by
          exact growL (vs.take i) Zs Z (vs.drop i) v i (by simp; omega) (by omega)
        rw [e] at hM2
        have := hM2.close (s := ⟨some (nb, 0), i + (sn + 1 - i), c⟩) (k := 1) rfl (by simp; omega) (by simp; omega) (by simp; omega) k2
        exact this.use
  · -- there is room
    have hle : sn + 1 ≤ sc := by
      have := of_decide_eq_false hc2
      rw [w1] at this; omega
    cases junk with
    | nil => simp at g3; omega
    | cons j junk =>
    have hcut0 : Sl.cut ⟨some (b, 0), sn, sc⟩ 1 0 ((sn : Int) + 1) sc = ⟨some (b, 0), sn + 1, sc⟩ := by
      have h2 : ((sn : Int) + 1).toNat = sn + 1 := by omega
      rw [cut_base]; simp [h2]
    have hcut1 : Sl.cut ⟨some (b, 0), sn + 1, sc⟩ 1 ((i : Int) + 1) ((sn + 1 : Nat) : Int) sc = ⟨some (b, i + 1), sn - i, sc - (i + 1)⟩ := by
      have h2 : ((i : Int) + 1).toNat = i + 1 := by omega
      by_cases hsc : i + 1 < sc
      · rw [cut_mid (by omega)]; simp [h2] <;> omega
      · exfalso; omega
    have hcut2 : Sl.cut ⟨some (b, 0), sn + 1, sc⟩ 1 (i : Int) ((sn + 1 : Nat) : Int) sc = ⟨some (b, i), sn + 1 - i, sc - i⟩ := by
      rw [cut_mid (by omega)]; simp
    have hne : vb ≠ b := fun h => by
      have h2 : At (bl b (.cells (vs ++ j :: junk).toArray el (0, 0)) * (bl vb (.cells [v].toArray tv (0, 0)) * F)) M := hB
      exact h2.ne h.symm
    refine must_ ⟨by omega, by rw [w1]; omega, by rw [w1]; omega, Int.le_refl _⟩ ?_
    rw [w1, hcut0, w2]
    simp only
    refine must_ ⟨by omega, by omega, trivial, Int.le_refl _⟩ ?_
    rw [hcut1]
    have hAv : M vb = some (.cells [v].toArray tv (0, 0)) := At.blk (h.r)
    have hBb := hB.blk
    have hz0 : (vs ++ j :: junk).length ≠ 0 := by simp
    have hg : ∀ κ : Value → Mem → Prop, κ (.bool false) M → callE ov [Sl.v ⟨some (vb, 0), 1, 1⟩, Sl.v ⟨some (b, i + 1), sn - i, sc - (i + 1)⟩] (fun _ _ => False) κ M := fun κ hκ => by
      exact @callE_ov ov hov vb 0 b (i + 1) tv el 1 1 (sn - i) (sc - (i + 1)) [v] (vs ++ j :: junk) (fun _ _ => False) κ M hAv hBb hne hz0 (by decide) (by omega) hκ
    refine @hg _ ?_
    refine ⟨false, rfl, iteT rfl ?_⟩
    refine must_ ⟨by omega, by omega, trivial, Int.le_refl _⟩ (must_ ⟨by omega, by omega, trivial, Int.le_refl _⟩ ?_)
    rw [hcut2]
    refine cp_ hB rfl (rdc_bl hB.blk fun q w hw => ?_) (by simp; omega) hd1 (by simp; omega) fun n1 M1 hM1 => ?_
    · rw [List.getElem?_drop] at hw
      rw [List.getElem?_append_left (List.getElem?_eq_some_iff.1 hw).1]; exact hw
    · refine must_ ⟨by omega, by omega, trivial, Int.le_refl _⟩ ?_
      have hx1 : rdc M1 (some (vb, 0)) [v] := fun q w hw => by
        match q, hw with
        | 0, hw => cases hw; exact hM1.cel (b := vb) rfl
      refine cp_ (z := ⟨some (vb, 0), 1, 1⟩) hM1 rfl hx1 (by simp; omega) hv1' (by simp; omega) fun n2 M2 hM2 => hK _ M2 ?_
      have e := roomL vs j v junk i (by omega)
      simp only [List.length_singleton] at hM2
      rw [e] at hM2
      exact hM2.close (s := ⟨some (b, 0), sn + 1, sc⟩) (k := 1) rfl (by simp; omega) (by simp at g3 ⊢; omega) (by simp; omega) g5
end
end Go.Proofs.YtdndpmlapcbjaaaGreat

namespace Go.Proofs.YtdndpmlapcbjaaaGreat
open Go Go.RowKit
set_option linter.unusedSimpArgs false
set_option linter.unusedVariables false

section
variable {el by_ : Nat} {zs : List Value} {s : Sl} {vs : List Value} {i : Nat} {F : HP} {K : Sl → Mem → Prop} {X : List PanicEntry → Mem → Prop} {M : Mem}
theorem delL {α : Type} (vs junk Z : List α) (i : Nat) (hi : i < vs.length) (hZ : Z.length = 1) :
    (List.take (vs.length - 1) (List.take i (vs ++ junk) ++ vs.drop (i + 1) ++ List.drop (i + (vs.drop (i + 1)).length) (vs ++ junk)) ++ Z ++ List.drop (vs.length - 1 + Z.length) (List.take i (vs ++ junk) ++ vs.drop (i + 1) ++ List.drop (i + (vs.drop (i + 1)).length) (vs ++ junk))) = (vs.take i ++ vs.drop (i + 1)) ++ (Z ++ junk) := by
  have hd : i + (vs.drop (i + 1)).length = vs.length - 1 := by rw [List.length_drop]; omega
  have e1 : List.take i (vs ++ junk) = vs.take i := List.take_append_of_le_length (by omega)
  have hA : (vs.take i ++ vs.drop (i + 1)).length = vs.length - 1 := by simp; omega
  rw [e1, hd, hZ]
  obtain ⟨A, hAe⟩ : ∃ A, vs.take i ++ vs.drop (i + 1) = A := ⟨_, rfl⟩
  rw [hAe] at hA ⊢
  have e2 : List.take (vs.length - 1) (A ++ List.drop (vs.length - 1) (vs ++ junk)) = A := by rw [← hA]; simp
  have e3 : List.drop (vs.length - 1 + 1) (A ++ List.drop (vs.length - 1) (vs ++ junk)) = junk := by
    have h1 : vs.length - 1 + 1 = vs.length := by omega
    have h2 : (A ++ List.drop (vs.length - 1) (vs ++ junk)).drop (A.length + 1) = junk := by
      rw [← List.drop_drop, (splitA _ _).2, List.drop_drop, h1, (splitA _ _).2]
    rw [hA] at h2; exact h2
  rw [e2, e3, List.append_assoc]
theorem delG_ (hz : zs.length = 1) (hz1 : ∀ v ∈ zs, v.oneCell' = true) (hby : by_ ≤ 16) (h : At (arr s el 1 vs * F) M) (hi : i < vs.length) (h1 : ∀ v ∈ vs, v.oneCell' = true) (hn : vs.length ≤ 1000000000)
    (hK : ∀ r M', At (arr r el 1 (vs.take i ++ vs.drop (i + 1)) * F) M' → K r M') : delG el by_ zs s i ((i : Int) + 1) K X M := by
  have hl := h.arr_len
  rw [Nat.mul_one] at hl
  obtain ⟨hl, hc, hbig⟩ := hl
  rcases h.open_ with ⟨rfl, rfl, _⟩ | ⟨b, junk, g1, g2, g3, g4, g5, hB⟩
  · simp at hi
  rw [Nat.mul_one] at g2 g3
  obtain ⟨sa, sn, sc⟩ := s
  simp only at *
  subst g1
  unfold delG
  refine must_ ⟨by omega, by omega, by simp; omega, by simp; omega⟩ (iteF (by simp; omega) (must_ ⟨by omega, by omega, by simp; omega, by omega⟩ (must_ ⟨by omega, by simp; omega, trivial, Int.le_refl _⟩ ?_)))
  have hcut0 : Sl.cut ⟨some (b, 0), sn, sc⟩ 1 0 (i : Int) sc = ⟨some (b, 0), i, sc⟩ := by rw [cut_base]; simp
  rw [hcut0]
  have htn : ((i : Int) + 1).toNat = i + 1 := by omega
  have hsc : 0 < sc := by omega
  obtain ⟨Z, hZ⟩ : ∃ Z, (Builtin.zeroCells zs.toArray 1).toList = Z := ⟨_, rfl⟩
  have hZl : Z.length = 1 := by rw [← hZ, zeroCells_len, hz]
  have hZ1 : ∀ v ∈ Z, v.oneCell' = true := by rw [← hZ]; exact zeroCells_one hz1 1
  have hb1 : (sn - 1) * by_ ≤ 1000000001 * 16 := Nat.mul_le_mul (by omega) hby
  have hin : i + (sn - (i + 1)) = sn - 1 := by omega
  have fin : ∀ M2, At (bl b (.cells (List.take i (vs ++ junk) ++ vs.drop (i + 1) ++ List.drop (i + (vs.drop (i + 1)).length) (vs ++ junk)).toArray el (0, 0)) * F) M2 →
      must (0 ≤ ((sn - 1 : Nat) : Int) ∧ ((sn - 1 : Nat) : Int) ≤ (sn : Int) ∧ (sn : Int) ≤ (sc : Int) ∧ (sc : Int) ≤ (sc : Int)) (clr zs (Sl.cut ⟨some (b, 0), sn - 1, sc⟩ 1 ((sn - 1 : Nat) : Int) (sn : Int) (sc : Int)) (K ⟨some (b, 0), sn - 1, sc⟩)) M2 := by
    intro M2 hM2
    refine must_ ⟨by omega, by omega, by omega, Int.le_refl _⟩ ?_
    have hcut3 : Sl.cut ⟨some (b, 0), sn - 1, sc⟩ 1 ((sn - 1 : Nat) : Int) (sn : Int) (sc : Int) = ⟨some (b, sn - 1), 1, sc - (sn - 1)⟩ := by
      have : ¬ (sc = sn - 1) := by omega
      rw [cut_mid (by omega)]; simp <;> omega
    rw [hcut3]
    refine .inr ⟨(b, sn - 1), rfl, by rw [hZ]; exact hZ1, ?_, ?_⟩
    · rw [hZ, hZl]
      intro j hj
      exact ⟨_, _, _, hM2.blk, by simp; omega, by simp⟩
    · simp only [hZ]
      rw [stos_upd Z M2 _ (sn - 1) hM2.blk, putL_eq _ _ _ (by simp; omega)]
      have e := delL vs junk Z i hi hZl
      rw [g2] at e
      rw [e]
      exact hK _ _ ((hM2.upd _).close (s := ⟨some (b, 0), sn - 1, sc⟩) (k := 1) rfl (by simp; omega) (by simp at g3 ⊢; omega) (by simp; omega) g5)
  have hcutn : (Sl.cut ⟨some (b, 0), sn, sc⟩ 1 ((i : Int) + 1) (sn : Int) (sc : Int)).n = sn - (i + 1) := by simp [Sl.cut, htn]
  refine ⟨vs.take i, vs.drop (i + 1), rdc_bl hB.blk fun j w hw => ?_, by simp; omega, ?_, by rw [hcutn]; simp; omega, fun v hv => h1 v (List.mem_of_mem_drop hv), by rw [hcutn, hin]; omega, by rw [hcutn, hin]; omega, fun _ => .inr ⟨(b, 0), rfl, fun j hj => ⟨_, _, _, hB.blk, by simp at hj ⊢; omega, by simp⟩, ?_⟩, fun hcc => absurd hcc (by rw [hcutn]; simp; omega)⟩
  · rw [Nat.zero_add]
    have hj : j < i := by
      have := (List.getElem?_eq_some_iff.1 hw).1
      rw [List.length_take] at this; omega
    rw [List.getElem?_take_of_lt hj] at hw
    rw [List.getElem?_append_left (by omega)]; exact hw
  · by_cases hq : sc = i + 1
    · have : vs.drop (i + 1) = [] := List.drop_of_length_le (by omega)
      rw [this]
      have : (Sl.cut ⟨some (b, 0), sn, sc⟩ 1 ((i : Int) + 1) (sn : Int) (sc : Int)).a = some (b, 0) := by simp [Sl.cut, htn, hq, enc_base]
      rw [this]
      intro j v hv; simp at hv
    · have : (Sl.cut ⟨some (b, 0), sn, sc⟩ 1 ((i : Int) + 1) (sn : Int) (sc : Int)).a = some (b, i + 1) := by rw [cut_mid (by omega)]; simp [htn]
      rw [this]
      refine rdc_bl hB.blk fun j w hw => ?_
      rw [List.getElem?_drop] at hw
      rw [List.getElem?_append_left (List.getElem?_eq_some_iff.1 hw).1]; exact hw
  · simp only
    rw [hcutn, hin]
    have e0 : ((b, 0) : PA).2 + i * 1 = i := by simp
    rw [e0, stos_upd _ M _ i hB.blk, putL_eq _ _ _ (by simp; omega)]
    exact fin _ (hB.upd _)
end
end Go.Proofs.YtdndpmlapcbjaaaGreat

namespace Go.Proofs.YtdndpmlapcbjaaaGreat
open Go Go.RowKit
set_option linter.unusedSimpArgs false
set_option linter.unusedVariables false

/-! ### what a row says -/
abbrev RowL := List (ByteArray × Int)
def Srt (l : RowL) : Prop := l.Pairwise fun x y => slt x.1 y.1 = true
def rpos (l : RowL) (k : ByteArray) : Nat := (l.takeWhile fun x => slt x.1 k).length
def rget (l : RowL) (k : ByteArray) : Option Int := match l[rpos l k]? with
  | some x => if x.1 = k then some x.2 else none
  | none => none
def rput (l : RowL) (k : ByteArray) (v : Int) : RowL := if (rget l k).isSome then l.set (rpos l k) (k, v) else l.take (rpos l k) ++ (k, v) :: l.drop (rpos l k)
def rdel (l : RowL) (k : ByteArray) : RowL := if (rget l k).isSome then l.take (rpos l k) ++ l.drop (rpos l k + 1) else l
theorem rpos_le (l : RowL) (k : ByteArray) : rpos l k ≤ l.length := by
  unfold rpos
  exact (List.takeWhile_sublist _).length_le
theorem takeWhile_len {α : Type} (p : α → Bool) : ∀ (l : List α) (i : Nat), i ≤ l.length → (∀ (j : Nat) x, j < i → l[j]? = some x → p x = true) → (∀ x, l[i]? = some x → p x = false) → (l.takeWhile p).length = i := by
  intro l
  induction l with
  | nil => intro i h _ _; simp at h; simp [h]
  | cons a l ih =>
    intro i h h1 h2
    cases i with
    | zero =>
      have := h2 a rfl
      simp [List.takeWhile, this]
    | succ i =>
      have ha := h1 0 a (Nat.zero_lt_succ _) rfl
      simp only [List.takeWhile, ha, List.length_cons]
      rw [ih i (by simp at h; omega) (fun j x hj hx => h1 (j + 1) x (by omega) hx) (fun x hx => h2 x hx)]
theorem rget_lt {l : RowL} {k : ByteArray} (h : (rget l k).isSome = true) : ∃ v, l[rpos l k]? = some (k, v) ∧ rget l k = some v ∧ rpos l k < l.length := by
  unfold rget at h ⊢
  cases hx : l[rpos l k]? with
  | none => rw [hx] at h; cases h
  | some x =>
    rw [hx] at h
    simp only at h ⊢
    by_cases hk : x.1 = k
    · rw [if_pos hk] at h ⊢
      exact ⟨x.2, by rw [← hk], rfl, (List.getElem?_eq_some_iff.1 hx).1⟩
    · rw [if_neg hk] at h; cases h

/-! ### where a row lies -/
def rowA (b : Nat) (l : RowL) : HP := ex fun x : Sl × Sl => cl b (111, [Sl.v x.1, Sl.v x.2]) * (arr x.1 9 1 (l.map fun y => Value.string y.1) * arr x.2 3 1 (l.map fun y => vi y.2))
section
variable {b : Nat} {l : RowL} {k : ByteArray} {v : Int} {F H : HP} {M : Mem} {X : List PanicEntry → Mem → Prop}
theorem row_open (h : At (rowA b l * F) M) : ∃ s t : Sl, At (cl b (111, [Sl.v s, Sl.v t]) * (arr s 9 1 (l.map fun y => Value.string y.1) * (arr t 3 1 (l.map fun y => vi y.2) * F))) M := by
  obtain ⟨⟨s, t⟩, h⟩ := h.of_ex
  exact ⟨s, t, h.cast (by ac_rfl)⟩
theorem row_close {s t : Sl} (h : At (cl b (111, [Sl.v s, Sl.v t]) * (arr s 9 1 (l.map fun y => Value.string y.1) * (arr t 3 1 (l.map fun y => vi y.2) * F))) M) : At (rowA b l * F) M :=
  At.ex (s, t) (h.cast (by ac_rfl))
theorem row_close_ {s t : Sl} {us ws : List Value} {F1 F2 F3 : HP} (h : At H M) [p1 : Pick (cl b) H (111, [Sl.v s, Sl.v t]) F1] [p2 : Pick (arr s 9 1) F1 us F2] [p3 : Pick (arr t 3 1) F2 ws F3] (e1 : us = l.map fun y => Value.string y.1) (e2 : ws = l.map fun y => vi y.2) :
    At (rowA b l * F3) M := by
  subst e1; subst e2
  refine row_close (s := s) (t := t) ?_
  rw [← p3.eq, ← p2.eq, ← p1.eq]; exact h
theorem row_closeU {s t : Sl} {us ws : List Value} {G F1 F2 F3 F4 : HP} (h : At H M) [p1 : Pick (cl b) H (111, [Sl.v s, Sl.v t]) F1] [p2 : Pick (arr s 9 1) F1 us F2] [p3 : Pick (arr t 3 1) F2 ws F3] [p4 : Use G F3 F4] (e1 : us = l.map fun y => Value.string y.1) (e2 : ws = l.map fun y => vi y.2) :
    At (rowA b l * G) M := by
  have := row_close_ (b := b) (l := l) (s := s) (t := t) (F1 := F1) (F2 := F2) (F3 := F3) h e1 e2
  rw [p4.eq, ← sm_assoc] at this; exact this.l
theorem str_one (l : RowL) : ∀ v ∈ l.map (fun y => Value.string y.1), v.oneCell' = true := fun v hv => by
  obtain ⟨x, _, rfl⟩ := List.mem_map.1 hv; rfl
theorem num_one (l : RowL) : ∀ v ∈ l.map (fun y => vi y.2), v.oneCell' = true := fun v hv => by
  obtain ⟨x, _, rfl⟩ := List.mem_map.1 hv; rfl

theorem c206 {K : Int → Bool → Mem → Prop} (h : At (rowA b l * F) M) (hs : Srt l) (hn : l.length ≤ 1000000000) (hK : K (rpos l k) (rget l k).isSome M) : S206 (some (b, 0)) k K X M := by
  obtain ⟨s, t, h1⟩ := row_open h
  unfold S206
  refine iteF rfl (nn_ (ldL_ h1 rfl ?_))
  have h2 : At (arr s 9 1 ((l.map (·.1)).map Value.string) * (cl b (111, [Sl.v s, Sl.v t]) * (arr t 3 1 (l.map fun y => vi y.2) * F))) M := h1.cast (by rw [List.map_map]; simp only [Function.comp_def]; ac_rfl)
  refine br283 (K := fun i q => K i q) (c283 h2 (by simpa using hn) ?_ fun i hi g1 g2 => ?_)
  · intro i j x y hij hx hy
    rw [List.getElem?_map] at hx hy
    obtain ⟨x', hx1, rfl⟩ := Option.map_eq_some_iff.1 hx
    obtain ⟨y', hy1, rfl⟩ := Option.map_eq_some_iff.1 hy
    obtain ⟨q1, rfl⟩ := List.getElem?_eq_some_iff.1 hx1
    obtain ⟨q2, rfl⟩ := List.getElem?_eq_some_iff.1 hy1
    exact List.pairwise_iff_getElem.1 hs i j q1 q2 hij
  · rw [List.length_map] at hi
    have e : rpos l k = i := takeWhile_len _ l i hi (fun j x hj hx => g1 j x.1 hj (by rw [List.getElem?_map, hx]; rfl)) (fun x hx => g2 i x.1 (Nat.le_refl _) (by rw [List.getElem?_map, hx]; rfl))
    have e2 : (rget l k).isSome = decide ((l.map (·.1))[i]? = some k) := by
      unfold rget
      rw [e, List.getElem?_map]
      cases l[i]? with
      | none => simp
      | some x =>
        simp only [Option.map_some, Option.some.injEq]
        by_cases hk : x.1 = k <;> simp [hk]
    rw [← e2, ← e]; exact hK
theorem call206 {K : Int → Bool → Mem → Prop} (h : At (rowA b l * F) M) (hs : Srt l) (hn : l.length ≤ 1000000000) (hK : K (rpos l k) (rget l k).isSome M) :
    call 206 [ptr (some (b, 0)), .string k] X (fun v_ M => ∃ (i : Int) (q : Bool), v_ = .tuple #[.int .i64 i, .bool q] ∧ K i q M) M := br206 (K := K) (c206 h hs hn hK)
theorem call130 {K : Int → Bool → Mem → Prop} (h : At (rowA b l * F) M) (hs : Srt l) (hn : l.length ≤ 1000000000) (hK : K ((rget l k).getD 0) (rget l k).isSome M) :
    call 130 [ptr (some (b, 0)), .string k] X (fun v_ M => ∃ (i : Int) (q : Bool), v_ = .tuple #[.int .i64 i, .bool q] ∧ K i q M) M := by
  refine br130 (K := K) ?_
  unfold S130
  refine call206 h hs hn ?_
  refine ite_ (fun hc => ?_) (fun hc => ?_)
  · obtain ⟨v, g1, g2, g3⟩ := rget_lt hc
    obtain ⟨s, t, h1⟩ := row_open h
    refine nn_ (ldL_ h1 rfl (ix1_ 3 (v := vi v) h1 (by omega) (by simp [g1]) fun q hq => ldIq hq ?_))
    unfold S130_1
    rw [g2] at hK ⊢; exact hK
  · have : rget l k = none := by simpa using hc
    unfold S130_1
    rw [this] at hK ⊢; exact hK
theorem call204 {K : Int → Mem → Prop} (h : At (rowA b l * F) M) (hK : K l.length M) :
    call 204 [ptr (some (b, 0))] X (fun v_ M => ∃ i : Int, v_ = .int .i64 i ∧ K i M) M := by
  refine br204 (K := K) ?_
  unfold S204
  obtain ⟨s, t, h1⟩ := row_open h
  have hl := (h1.pick (A := arr s 9 1)).arr_len.1
  simp only [List.length_map, Nat.mul_one] at hl
  refine iteF rfl (nn_ (ldL_ h1 rfl ?_))
  rw [← hl]; exact hK

/-! ### Put and Drop -/
theorem call280_ {s : Sl} {i vb tv : Nat} {vs : List Value} {w : Value} {F1 F2 : HP} {κ : Sl → Mem → Prop} (h : At H M) [p1 : Pick (arr s 9 1) H vs F1] [p2 : Pick (cl vb) F1 (tv, [w]) F2] (hi : i ≤ vs.length) (h1 : ∀ v ∈ vs, v.oneCell' = true) (hw : w.oneCell' = true) (hn : vs.length ≤ 1000000000)
    (hκ : ∀ r M', At (arr r 9 1 (vs.take i ++ w :: vs.drop i) * (cl vb (tv, [w]) * F2)) M' → κ r M') : call 280 [Sl.v s, .int .i64 i, Sl.v ⟨some (vb, 0), 1, 1⟩] X (fun v_ M => ∃ r : Sl, v_ = Sl.v r ∧ κ r M) M := by
  refine br280 (K := κ) ?_
  rw [ins280]
  exact insG_ ov333 rfl (by intro v hv; simp at hv; subst hv; rfl) (by decide) ((h.cast p1.eq).cast (by rw [p2.eq])) hi h1 hw hn hκ
theorem call281_ {s : Sl} {i vb tv : Nat} {vs : List Value} {w : Value} {F1 F2 : HP} {κ : Sl → Mem → Prop} (h : At H M) [p1 : Pick (arr s 3 1) H vs F1] [p2 : Pick (cl vb) F1 (tv, [w]) F2] (hi : i ≤ vs.length) (h1 : ∀ v ∈ vs, v.oneCell' = true) (hw : w.oneCell' = true) (hn : vs.length ≤ 1000000000)
    (hκ : ∀ r M', At (arr r 3 1 (vs.take i ++ w :: vs.drop i) * (cl vb (tv, [w]) * F2)) M' → κ r M') : call 281 [Sl.v s, .int .i64 i, Sl.v ⟨some (vb, 0), 1, 1⟩] X (fun v_ M => ∃ r : Sl, v_ = Sl.v r ∧ κ r M) M := by
  refine br281 (K := κ) ?_
  rw [ins281]
  exact insG_ ov335 rfl (by intro v hv; simp at hv; subst hv; rfl) (by decide) ((h.cast p1.eq).cast (by rw [p2.eq])) hi h1 hw hn hκ
theorem call331_ {s : Sl} {i : Nat} {j : Int} {vs : List Value} {F1 : HP} {κ : Sl → Mem → Prop} (h : At H M) [p1 : Pick (arr s 9 1) H vs F1] (hj : j = (i : Int) + 1) (hi : i < vs.length) (h1 : ∀ v ∈ vs, v.oneCell' = true) (hn : vs.length ≤ 1000000000)
    (hκ : ∀ r M', At (arr r 9 1 (vs.take i ++ vs.drop (i + 1)) * F1) M' → κ r M') : call 331 [Sl.v s, .int .i64 i, .int .i64 j] X (fun v_ M => ∃ r : Sl, v_ = Sl.v r ∧ κ r M) M := by
  refine br331 (K := κ) ?_
  rw [del331, hj]
  exact delG_ rfl (by intro v hv; simp at hv; subst hv; rfl) (by decide) (h.cast p1.eq) hi h1 hn hκ
theorem call332_ {s : Sl} {i : Nat} {j : Int} {vs : List Value} {F1 : HP} {κ : Sl → Mem → Prop} (h : At H M) [p1 : Pick (arr s 3 1) H vs F1] (hj : j = (i : Int) + 1) (hi : i < vs.length) (h1 : ∀ v ∈ vs, v.oneCell' = true) (hn : vs.length ≤ 1000000000)
    (hκ : ∀ r M', At (arr r 3 1 (vs.take i ++ vs.drop (i + 1)) * F1) M' → κ r M') : call 332 [Sl.v s, .int .i64 i, .int .i64 j] X (fun v_ M => ∃ r : Sl, v_ = Sl.v r ∧ κ r M) M := by
  refine br332 (K := κ) ?_
  rw [del332, hj]
  exact delG_ rfl (by intro v hv; simp at hv; subst hv; rfl) (by decide) (h.cast p1.eq) hi h1 hn hκ

theorem call199 {K : Bool → Mem → Prop} (h : At (rowA b l * F) M) (hs : Srt l) (hn : l.length ≤ 1000000000) (hK : ∀ q M', At (rowA b (rput l k v) * F) M' → K q M') :
    call 199 [ptr (some (b, 0)), .string k, .int .i64 v] X (fun v_ M => ∃ q : Bool, v_ = .bool q ∧ K q M) M := by
  refine br199 (K := K) ?_
  unfold S199
  refine iteF rfl (call206 h hs hn (ite_ (fun hc => ?_) (fun hc => ?_)))
  · obtain ⟨v0, g1, g2, g3⟩ := rget_lt hc
    obtain ⟨s, t, h1⟩ := row_open h
    have hl := (h1.pick (A := arr t 3 1)).arr_len.1
    simp only [List.length_map, Nat.mul_one] at hl
    refine nn_ (ldL_ h1 rfl (ixS_ 3 h1 (by omega) (by omega) fun q hq hst => ?_))
    obtain ⟨q1, q2⟩ := hst M _ h1.pick rfl 0 (vi v) (by decide)
    refine ⟨q1, hK _ _ ?_⟩
    have e : rput l k v = l.set (rpos l k) (k, v) := by rw [rput, if_pos hc]
    rw [e]
    refine row_close (s := s) (t := t) (q2.cast ?_)
    have e1 : (l.set (rpos l k) (k, v)).map (fun y => Value.string y.1) = l.map fun y => Value.string y.1 := by
      rw [List.map_set]; exact set_same (by simp [g1])
    have e2 : (l.set (rpos l k) (k, v)).map (fun y => vi y.2) = (l.map fun y => vi y.2).set (((rpos l k : Nat) : Int).toNat * 1 + 0) (vi v) := by rw [List.map_set]; simp
    rw [e1, e2]
    ac_rfl
  · obtain ⟨s, t, h1⟩ := row_open h
    have hp := rpos_le l k
    have e : rput l k v = l.take (rpos l k) ++ (k, v) :: l.drop (rpos l k) := by rw [rput, hc]; rfl
    have e1 : ((l.map fun y => Value.string y.1).take (rpos l k) ++ .string k :: (l.map fun y => Value.string y.1).drop (rpos l k)) = (rput l k v).map fun y => Value.string y.1 := by
      rw [e, List.map_append, List.map_cons, List.map_take, List.map_drop]
    have e2 : ((l.map fun y => vi y.2).take (rpos l k) ++ vi v :: (l.map fun y => vi y.2).drop (rpos l k)) = (rput l k v).map fun y => vi y.2 := by
      rw [e, List.map_append, List.map_cons, List.map_take, List.map_drop]
    have a1 := str_one l
    have a2 := num_one l
    have a3 : rpos l k ≤ (l.map fun y => Value.string y.1).length := by simpa using hp
    have a4 : rpos l k ≤ (l.map fun y => vi y.2).length := by simpa using hp
    have a5 : (l.map fun y => Value.string y.1).length ≤ 1000000000 := by simpa using hn
    have a6 : (l.map fun y => vi y.2).length ≤ 1000000000 := by simpa using hn
    refine nn_ (ldL_ h1 rfl ?_)
    clear h
    repeat' first
      | exact hK _ _ (row_closeU ‹_› e1 e2)
      | refine both_ ?_ ?_
      | refine ldL_ ‹_› rfl ?_
      | refine newc_ ‹_› fun _ _ _ => ?_
      | refine call280_ ‹_› a3 a1 rfl a5 fun _ _ _ => ?_
      | refine call281_ ‹_› a4 a2 rfl a6 fun _ _ _ => ?_
      | refine st0_ ‹_› fun _ _ => ?_
      | refine st1_ ‹_› fun _ _ => ?_
theorem call279 {K : Bool → Mem → Prop} (h : At (rowA b l * F) M) (hs : Srt l) (hn : l.length ≤ 1000000000) (hK : ∀ q M', At (rowA b (rdel l k) * F) M' → K q M') :
    call 279 [ptr (some (b, 0)), .string k] X (fun v_ M => ∃ q : Bool, v_ = .bool q ∧ K q M) M := by
  refine br279 (K := K) ?_
  unfold S279
  refine call206 h hs hn (ite_ (fun hc => ?_) (fun hc => ?_))
  · obtain ⟨v0, g1, g2, g3⟩ := rget_lt hc
    obtain ⟨s, t, h1⟩ := row_open h
    have e : rdel l k = l.take (rpos l k) ++ l.drop (rpos l k + 1) := by rw [rdel, if_pos hc]
    have e1 : ((l.map fun y => Value.string y.1).take (rpos l k) ++ (l.map fun y => Value.string y.1).drop (rpos l k + 1)) = (rdel l k).map fun y => Value.string y.1 := by
      rw [e, List.map_append, List.map_take, List.map_drop]
    have e2 : ((l.map fun y => vi y.2).take (rpos l k) ++ (l.map fun y => vi y.2).drop (rpos l k + 1)) = (rdel l k).map fun y => vi y.2 := by
      rw [e, List.map_append, List.map_take, List.map_drop]
    have a1 := str_one l
    have a2 := num_one l
    have a3 : rpos l k < (l.map fun y => Value.string y.1).length := by simpa using g3
    have a4 : rpos l k < (l.map fun y => vi y.2).length := by simpa using g3
    have a5 : (l.map fun y => Value.string y.1).length ≤ 1000000000 := by simpa using hn
    have a6 : (l.map fun y => vi y.2).length ≤ 1000000000 := by simpa using hn
    have a7 : IntKind.wrap .i64 ((rpos l k : Int) + 1) = (rpos l k : Int) + 1 := w64 (by omega) (by omega)
    refine nn_ (ldL_ h1 rfl ?_)
    clear h
    repeat' first
      | exact hK _ _ (row_closeU ‹_› e1 e2)
      | refine both_ ?_ ?_
      | refine ldL_ ‹_› rfl ?_
      | refine call331_ ‹_› a7 a3 a1 a5 fun _ _ _ => ?_
      | refine call332_ ‹_› a7 a4 a2 a6 fun _ _ _ => ?_
      | refine st0_ ‹_› fun _ _ => ?_
      | refine st1_ ‹_› fun _ _ => ?_
  · have e : rdel l k = l := by rw [rdel, hc]; rfl
    exact hK _ _ (by rw [e]; exact h)
end
end Go.Proofs.YtdndpmlapcbjaaaGreat

namespace Go.Proofs.YtdndpmlapcbjaaaGreat
open Go Go.RowKit
set_option linter.unusedSimpArgs false
set_option linter.unusedVariables false

section
variable {F H : HP} {M : Mem} {s : Sl} {vs : List Value} {κ : Sl → Mem → Prop} {X : List PanicEntry → Mem → Prop}
/-- slices.Clone of elements of one cell. -/
theorem cloneA {el by_ : Nat} {zs : List Value} (hz : zs.length = 1) (h : At H M) (hr : rdc M s.a vs) (hl : vs.length = s.n) (h1 : ∀ v ∈ vs, v.oneCell' = true) (hby : by_ ≤ 24) (hn : s.n ≤ 1000000000)
    (hκ : ∀ r M', Sub M M' → At (arr r el 1 vs * H) M' → r.n = s.n → κ r M') :
    ite' s.a.isNone (κ ⟨none, 0, 0⟩) (new (.cells #[] el (0, 0)) fun b1 => appS el 1 by_ zs ⟨some (b1, 0), 0, 0⟩ s fun x => κ x) M := by
  have hb1 : s.n * by_ ≤ 1000000000 * 24 := Nat.mul_le_mul hn hby
  refine clone_ hz hr hl h1 (by omega) (by omega) (fun ha => ?_) (fun r b M' g1 g2 g3 g4 => hκ r M' g4 (h.of_OR g1 g3 g4) g2)
  have h0 : vs = [] := by rw [ha] at hr; exact hr
  subst h0
  refine hκ _ M (Sub.refl M) ?_ (by simp at hl; exact hl)
  have : arr ⟨none, 0, 0⟩ el 1 [] = tt := arr_nil
  rw [this, tt_star]; exact h
theorem callK154_ (h : At H M) (hr : rdc M s.a vs) (hl : vs.length = s.n) (h1 : ∀ v ∈ vs, v.oneCell' = true) (hn : s.n ≤ 1000000000) (hκ : ∀ r M', At (arr r 9 1 vs * H) M' → r.n = s.n → Sub M M' → κ r M') :
    callK 154 [Sl.v s] (fun v_ M => ∃ r : Sl, v_ = Sl.v r ∧ κ r M) M := by
  refine (br154 (K := fun r M' => Sub M M' ∧ κ r M') ?_).mono (fun v M' ⟨r, g1, g2, g3⟩ => ⟨g2, r, g1, g3⟩) (fun _ _ h => h)
  unfold S154
  exact cloneA (κ := fun r M' => Sub M M' ∧ κ r M') rfl h hr hl h1 (by decide) hn fun r M' g1 g2 g3 => ⟨g1, hκ r M' g2 g3 g1⟩
theorem callK276_ (h : At H M) (hr : rdc M s.a vs) (hl : vs.length = s.n) (h1 : ∀ v ∈ vs, v.oneCell' = true) (hn : s.n ≤ 1000000000) (hκ : ∀ r M', At (arr r 3 1 vs * H) M' → r.n = s.n → Sub M M' → κ r M') :
    callK 276 [Sl.v s] (fun v_ M => ∃ r : Sl, v_ = Sl.v r ∧ κ r M) M := by
  refine (br276 (K := fun r M' => Sub M M' ∧ κ r M') ?_).mono (fun v M' ⟨r, g1, g2, g3⟩ => ⟨g2, r, g1, g3⟩) (fun _ _ h => h)
  unfold S276
  exact cloneA (κ := fun r M' => Sub M M' ∧ κ r M') rfl h hr hl h1 (by decide) hn fun r M' g1 g2 g3 => ⟨g1, hκ r M' g2 g3 g1⟩
end
theorem cut0 (s : Sl) : Sl.cut s 1 0 s.n s.c = s := by
  obtain ⟨a, n, c⟩ := s
  cases a with
  | none => simp [Sl.cut]
  | some p =>
    simp [Sl.cut]
    intro h1 h2 h3
    exact absurd h1 (h2 h3)
theorem callV194 {X : List PanicEntry → Mem → Prop} {κ : Value → Mem → Prop} {M : Mem} (h : κ (.int .i64 0) M) : callV (.func (.func 194) #[] #[]) [] X κ M := by
  intro ro
  have h0 : Spec Tryz.prog 194 #[] M κ X := (br194 (K := fun r M' => r = 0 ∧ κ (.int .i64 r) M') (by unfold S194; exact ⟨rfl, h⟩)).mono (fun v M' ⟨r, g1, g2, g3⟩ => by rw [g1]; exact g3) (fun _ _ h => h)
  exact @callV_func Tryz.prog ro M 194 [] [] [] κ X Tryz.call194 h0
/-- sets.Row.Each, as it is ranged over; no round stops it. -/
theorem it275 {σ : Type} {y : Value} {b1 b2 rb : Nat} {l : RowL} (C : σ → HP) (R : σ → Nat → Prop) {K : Mem → Prop} {X : List PanicEntry → Mem → Prop} {F : HP} {M : Mem} {x0 : σ}
    (step : ∀ x i k v M G (κ : Value → Mem → Prop), R x i → l[i]? = some (k, v) → At (C x * G) M → (∀ x' M', R x' (i + 1) → At (C x' * G) M' → κ (.bool true) M') → callV y [.string k, vi v] (fun _ _ => False) κ M)
    (fin : ∀ x M, R x l.length → At (C x) M → K M) (hR : R x0 0) (h : At (C x0) M) (hb1 : cel M (b1, 0) = some (ptr (some (rb, 0)))) (hb2 : cel M (b2, 0) = some (.func (.func 194) #[] #[])) (hr : At (rowA rb l * F) M) (hn : l.length ≤ 1000000000) :
    S275 y (some (b1, 0)) (some (b2, 0)) K X M := by
  obtain ⟨s, t, hrow⟩ := row_open hr
  have hsl := (hrow.pick (A := arr s 9 1)).arr_len
  have htl := (hrow.pick (A := arr t 3 1)).arr_len
  have hsr := (hrow.pick (A := arr s 9 1)).rdc
  have htr := (hrow.pick (A := arr t 3 1)).rdc
  simp only [List.length_map, Nat.mul_one] at hsl htl
  unfold S275
  refine nn_ (ldPq hb1 (iteF rfl (nn_ ⟨_, hb2, ?_⟩)))
  refine @callV194 _ _ _ ⟨0, rfl, ?_⟩
  refine ldPq hb1 (nn_ (ldL_ hrow rfl (must_ ⟨Int.le_refl _, by omega, trivial, Int.le_refl _⟩ (ldPq hb1 (nn_ (ldL_ hrow rfl (must_ ⟨Int.le_refl _, by omega, trivial, Int.le_refl _⟩ ?_)))))))
  rw [cut0, cut0]
  refine callK154_ h hsr (by simpa using hsl.1) (str_one l) (by omega) fun r1 M1 h1 hn1 hs1 => callK276_ h1 (hs1.rdc htr) (by simpa using htl.1) (num_one l) (by omega) fun r2 M2 h2 hn2 hs2 => ?_
  unfold S275_2
  refine Lp_of (σ := Int) (fun i M' => 0 ≤ i ∧ i ≤ l.length ∧ ∃ x, R x i.toNat ∧ At (C x * (arr r1 9 1 (l.map fun y => Value.string y.1) * arr r2 3 1 (l.map fun y => vi y.2))) M') (fun i => l.length - i.toNat) ?_ ⟨Int.le_refl _, by omega, x0, hR, h2.cast (by ac_rfl)⟩
  rintro i M' next ⟨i0, i1, x, hx, h3⟩ hnx
  unfold S275_2b
  refine ite_ (fun hc => ?_) (fun hc => ?_)
  · have hlt : i < l.length := by have := of_decide_eq_true hc; omega
    obtain ⟨⟨k, v⟩, hkv⟩ : ∃ kv, l[i.toNat]? = some kv := ⟨_, List.getElem?_eq_getElem (by omega)⟩
    refine ix1_ 9 (v := .string k) h3 i0 (by simp [hkv]) fun q hq => ix1_ 3 (v := vi v) h3 i0 (by simp [hkv]) fun q' hq' => ldSq hq (ldIq hq' ?_)
    refine step x i.toNat k v M' _ _ hx hkv h3 fun x' M4 hx' h4 => ⟨true, rfl, iteF rfl ?_⟩
    rw [w64 (by omega) (by omega)]
    refine hnx _ _ ⟨by omega, by omega, x', ?_, h4⟩ (by omega)
    have : (i + 1).toNat = i.toNat + 1 := by omega
    rw [this]; exact hx'
  · have hge : i = l.length := by have := of_decide_eq_false hc; omega
    subst hge
    unfold S275_1
    exact fin x _ (by simpa using hx) h3.l

/-- The call that begins a range over a row. -/
theorem call117_ {rb : Nat} {H : HP} {M : Mem} {κ : Value → Mem → Prop} {X : List PanicEntry → Mem → Prop} (h : At H M)
    (hκ : ∀ b1 b2 M', At (cl b1 (108, [ptr (some (rb, 0))]) * (cl b2 (44, [.func (.func 194) #[] #[]]) * H)) M' → κ (.func (.func 275) #[] #[ptr (some (b1, 0)), ptr (some (b2, 0))]) M') :
    call 117 [ptr (some (rb, 0))] X (fun v_ M => ∃ r : Value, v_ = r ∧ κ r M) M := by
  refine br117 (K := κ) ?_
  unfold S117
  refine br193 (K := κ) ?_
  unfold S193
  refine newc_ h fun b1 M1 h1 => ⟨rfl, newc_ h1 fun b2 M2 h2 => hκ b1 b2 M2 (h2.cast (by ac_rfl))⟩

/-- A range over a row. -/
theorem rngRow {σ : Type} {b1 b2 rb : Nat} {l : RowL} {body : List Value → (Mem → Prop) → (Code → Mem → Prop) → Mem → Prop} {κ : Mem → Prop} {κj : Code → Mem → Prop} (C : σ → HP) (R : σ → Nat → Prop) {F : HP} {M : Mem} {x0 : σ}
    (h : At (C x0) M) (hR : R x0 0) (hb1 : cel M (b1, 0) = some (ptr (some (rb, 0)))) (hb2 : cel M (b2, 0) = some (.func (.func 194) #[] #[])) (hr : At (rowA rb l * F) M) (hn : l.length ≤ 1000000000)
    (step : ∀ x i k v M G (nx : Mem → Prop) (rt : Code → Mem → Prop), R x i → l[i]? = some (k, v) → At (C x * G) M → (∀ x' M', R x' (i + 1) → At (C x' * G) M' → nx M') → body [.string k, vi v] nx rt M)
    (fin : ∀ x M, R x l.length → At (C x) M → κ M) : rng (.func (.func 275) #[] #[ptr (some (b1, 0)), ptr (some (b2, 0))]) 2 body κ κj M := by
  have hsub : ∀ {b : Nat} {v : Value} {l_ : Nat} {oR : Obj}, M l_ = none → cel M (b, 0) = some v → cel (M.upd l_ oR) (b, 0) = some v := fun hl hc => (Sub.upd hl _).cel hc
  refine ⟨275, [ptr (some (b1, 0)), ptr (some (b2, 0))], rfl, Tryz.call275, fun y l_ oR oD hl law => ?_⟩
  refine br275 (it275 (l := l) (F := F) (rb := rb) (fun x => bl l_ oR * C x) R ?_ ?_ hR (h.new hl oR) (hsub hl hb1) (hsub hl hb2) (hr.sub (Sub.upd hl oR)) hn)
  · intro x i k v M' G κ' hx hkv h' hκ'
    have h2 : At (bl l_ oR * (C x * G)) M' := h'.cast (by ac_rfl)
    refine law _ κ' M' rfl h2.blk (step x i k v _ G _ _ hx hkv h2.del fun x' M3 hx' h3 hl3 => hκ' x' _ hx' ?_)
    exact (h3.new hl3 oR).cast (by ac_rfl)
  · intro x M' hx h'
    exact rfin h' fun M2 h2 => fin x M2 hx h2
end Go.Proofs.YtdndpmlapcbjaaaGreat

namespace Go.Proofs.YtdndpmlapcbjaaaGreat
open Go Go.RowKit
set_option linter.unusedSimpArgs false
set_option linter.unusedVariables false

/-! ### rows stay rising -/
theorem rput_len (l : RowL) (k : ByteArray) (v : Int) : (rput l k v).length ≤ l.length + 1 := by
  have := rpos_le l k
  unfold rput; split <;> simp <;> omega
theorem rdel_len (l : RowL) (k : ByteArray) : (rdel l k).length ≤ l.length := by
  have := rpos_le l k
  unfold rdel; split <;> simp <;> omega
theorem rpos_before {l : RowL} {k : ByteArray} : ∀ x ∈ l.take (rpos l k), slt x.1 k = true := by
  intro x hx
  have : l.take (rpos l k) = l.takeWhile fun x => slt x.1 k := by
    unfold rpos
    exact List.prefix_iff_eq_take.1 (List.takeWhile_prefix _) |>.symm
  rw [this] at hx
  have h := List.all_takeWhile (p := fun (x : ByteArray × Int) => slt x.1 k) (l := l)
  rw [List.all_eq_true] at h
  exact h x hx
theorem rpos_at {l : RowL} {k : ByteArray} {x : ByteArray × Int} (h : l[rpos l k]? = some x) : slt x.1 k = false := by
  have key : ∀ (l : RowL), (∀ x, l[(l.takeWhile fun x => slt x.1 k).length]? = some x → slt x.1 k = false) := by
    intro l
    induction l with
    | nil => intro x hx; simp at hx
    | cons a l ih =>
      intro x hx
      cases ha : slt a.1 k with
      | false => simp [List.takeWhile, ha] at hx; rw [← hx]; exact ha
      | true => simp [List.takeWhile, ha] at hx; exact ih x hx
  exact key l x h
theorem rpos_behind {l : RowL} {k : ByteArray} (hs : Srt l) (hn : rget l k = none) : ∀ x ∈ l.drop (rpos l k), slt k x.1 = true := by
  intro x hx
  cases hd : l.drop (rpos l k) with
  | nil => rw [hd] at hx; cases hx
  | cons y ys =>
    have hy : l[rpos l k]? = some y := by
      have := List.getElem?_drop (xs := l) (i := rpos l k) (j := 0)
      rw [hd] at this; simpa using this.symm
    have h1 := rpos_at hy
    have h2 : slt k y.1 = true := by
      cases h3 : slt k y.1 with
      | true => rfl
      | false =>
        have := slt_total h1 h3
        unfold rget at hn
        rw [hy] at hn
        simp [this] at hn
    have hp : Srt (l.drop (rpos l k)) := hs.sublist (List.drop_sublist _ _)
    rw [hd] at hx hp
    rcases List.mem_cons.1 hx with rfl | hx
    · exact h2
    · exact slt_trans h2 (List.rel_of_pairwise_cons hp hx)
theorem Srt.put {l : RowL} {k : ByteArray} {v : Int} (hs : Srt l) : Srt (rput l k v) := by
  unfold rput
  split
  · rename_i hc
    obtain ⟨v0, g1, g2, g3⟩ := rget_lt hc
    unfold Srt
    rw [List.pairwise_iff_getElem]
    intro i j hi hj hij
    have := List.pairwise_iff_getElem.1 hs i j (by simpa using hi) (by simpa using hj) hij
    obtain ⟨q, e⟩ := List.getElem?_eq_some_iff.1 g1
    have key : ∀ (t : Nat) (ht : t < (l.set (rpos l k) (k, v)).length), ((l.set (rpos l k) (k, v))[t]).1 = (l[t]'(by simpa using ht)).1 := by
      intro t ht
      rw [List.getElem_set]
      split
      · rename_i h; subst h; rw [e]
      · rfl
    rw [key, key]; exact this
  · rename_i hc
    have hn : rget l k = none := by simpa using hc
    have hp := List.pairwise_append.1 (show Srt (l.take (rpos l k) ++ l.drop (rpos l k)) by rw [List.take_append_drop]; exact hs)
    refine List.pairwise_append.2 ⟨hp.1, List.pairwise_cons.2 ⟨fun x hx => rpos_behind hs hn x hx, hp.2.1⟩, fun x hx y hy => ?_⟩
    rcases List.mem_cons.1 hy with rfl | hy
    · exact rpos_before x hx
    · exact hp.2.2 x hx y hy
theorem Srt.del {l : RowL} {k : ByteArray} (hs : Srt l) : Srt (rdel l k) := by
  unfold rdel
  split
  · rename_i hc
    have e : l.take (rpos l k) ++ l.drop (rpos l k + 1) = l.eraseIdx (rpos l k) := by rw [List.eraseIdx_eq_take_drop_succ]
    rw [e]
    exact hs.sublist (List.eraseIdx_sublist _ _)
  · exact hs
theorem mem_rput {l : RowL} {k : ByteArray} {v : Int} {x : ByteArray × Int} (h : x ∈ rput l k v) : x ∈ l ∨ x = (k, v) := by
  unfold rput at h
  split at h
  · rcases List.mem_or_eq_of_mem_set h with h | h
    · exact .inl h
    · exact .inr h
  · rcases List.mem_append.1 h with h | h
    · exact .inl (List.mem_of_mem_take h)
    · rcases List.mem_cons.1 h with h | h
      · exact .inr h
      · exact .inl (List.mem_of_mem_drop h)
theorem mem_rdel {l : RowL} {k : ByteArray} {x : ByteArray × Int} (h : x ∈ rdel l k) : x ∈ l := by
  unfold rdel at h
  split at h
  · rcases List.mem_append.1 h with h | h
    · exact List.mem_of_mem_take h
    · exact List.mem_of_mem_drop h
  · exact h
theorem rget_mem {l : RowL} {k : ByteArray} {v : Int} (h : rget l k = some v) : (k, v) ∈ l := by
  obtain ⟨v', g1, g2, _⟩ := rget_lt (l := l) (k := k) (by rw [h]; rfl)
  rw [h] at g2; cases g2
  exact List.mem_of_getElem? g1

/-! ### disk.apply, by a row -/
def rapply (l : RowL) (gone name : ByteArray) (file : Int) : RowL :=
  let l1 := if gone = ByteArray.empty then l else rdel l gone
  if name = ByteArray.empty then l1 else rput l1 name file
theorem bempty : (⟨#[]⟩ : ByteArray) = ByteArray.empty := rfl
theorem call198 {b : Nat} {l : RowL} {gone name : ByteArray} {file : Int} {F : HP} {K : Mem → Prop} {X : List PanicEntry → Mem → Prop} {M : Mem} (h : At (rowA b l * F) M) (hs : Srt l) (hn : l.length ≤ 1000000000)
    (hK : ∀ M', At (rowA b (rapply l gone name file) * F) M' → K M') : call 198 [ptr (some (b, 0)), .agg #[.string gone, .string name, .int .i64 file]] X (fun v_ M => K M) M := by
  refine br198 (K := K) ?_
  have fin : ∀ l1 M1, Srt l1 → l1.length ≤ 1000000000 → l1 = (if gone = ByteArray.empty then l else rdel l gone) → At (rowA b l1 * F) M1 → S198_1 (some (b, 0)) gone name file K X M1 := by
    intro l1 M1 g1 g2 g3 g4
    unfold S198_1
    rw [seq_eq, bempty]
    refine ite_ (fun hc => ?_) (fun hc => ?_)
    · simp at hc
      refine call199 g4 g1 g2 fun q M2 h2 => hK M2 ?_
      simp only [rapply, ← g3, if_neg hc]; exact h2
    · simp at hc
      refine hK M1 ?_
      simp only [rapply, ← g3, if_pos hc]; exact g4
  unfold S198
  rw [seq_eq, bempty]
  refine ite_ (fun hc => ?_) (fun hc => ?_)
  · simp at hc
    refine call279 h hs hn fun q M2 h2 => fin _ M2 hs.del (Nat.le_trans (rdel_len _ _) hn) (by rw [if_neg hc]) h2
  · simp at hc
    exact fin l M hs hn (by rw [if_pos hc]) h

/-! ### disks -/
structure DS where
  now : RowL
  fd : List (List UInt8)
  q : Int
  lim : Nat
structure DH where
  fl : Sl
  nb : Nat
  sb : Nat
  ch : Sl
  fs : List (Sl × Int)
  sl : RowL
  chv : List Value
  full : Bool
  calls : Int
def fcells (fs : List (Sl × Int)) : List Value := fs.flatMap fun x => [Sl.v x.1, vi x.2]
structure DS.Ok (d : DS) : Prop where
  srt : Srt d.now
  inj : ∀ x ∈ d.now, 0 ≤ x.2 ∧ x.2 < d.fd.length
  lim1 : d.fd.length ≤ d.lim
  lim2 : d.now.length ≤ d.lim
  big : d.lim ≤ 100000000
  sz : ∀ l ∈ d.fd, l.length ≤ 1048576
  qok : 0 ≤ d.q ∧ d.q ≤ 1000000000
structure DOk (d : DS) (h : DH) : Prop where
  ok : d.Ok
  len : h.fs.length = d.fd.length
  chl : h.chv.length ≤ 3 * d.lim
def dcells (d : DS) (h : DH) : List Value := [Sl.v h.fl, ptr (some (h.nb, 0)), ptr (some (h.sb, 0)), Sl.v h.ch, vi d.q, .bool h.full, .bool false, vi (-1), vi h.calls]
def dskA (p : Nat) (d : DS) : HP := ex fun h : DH => pu (DOk d h) * (cl p (115, dcells d h) * (arr h.fl 135 2 (fcells h.fs) * (bss (h.fs.map (·.1)) d.fd * (rowA h.nb d.now * (rowA h.sb h.sl * arr h.ch 221 3 h.chv)))))
section
variable {p : Nat} {d : DS} {F H : HP} {M : Mem} {X : List PanicEntry → Mem → Prop}
theorem dsk_open (h : At (dskA p d * F) M) : ∃ g : DH, DOk d g ∧ At (cl p (115, dcells d g) * (arr g.fl 135 2 (fcells g.fs) * (bss (g.fs.map (·.1)) d.fd * (rowA g.nb d.now * (rowA g.sb g.sl * (arr g.ch 221 3 g.chv * F)))))) M := by
  obtain ⟨g, h⟩ := h.of_ex
  rw [sm_assoc] at h
  obtain ⟨h1, h2⟩ := h.of_pu
  exact ⟨g, h1, h2.cast (by ac_rfl)⟩
theorem dsk_close (g : DH) (hd : DOk d g) (h : At (cl p (115, dcells d g) * (arr g.fl 135 2 (fcells g.fs) * (bss (g.fs.map (·.1)) d.fd * (rowA g.nb d.now * (rowA g.sb g.sl * (arr g.ch 221 3 g.chv * F)))))) M) : At (dskA p d * F) M := by
  refine At.ex g ?_
  rw [sm_assoc]
  exact At.pu (h.cast (by ac_rfl)) hd
theorem dskA_ok (h : At (dskA p d * F) M) : d.Ok := by
  obtain ⟨g, h1, _⟩ := dsk_open h; exact h1.ok
theorem fcells_len (fs : List (Sl × Int)) : (fcells fs).length = 2 * fs.length := by
  induction fs with
  | nil => rfl
  | cons x fs ih => simp only [fcells, List.flatMap_cons, List.length_append, List.length_cons, List.length_nil] at ih ⊢; omega
theorem fcells_at : ∀ {fs : List (Sl × Int)} {k : Nat} {s : Sl} {n : Int}, fs[k]? = some (s, n) → (fcells fs)[k * 2 + 0]? = some (Sl.v s) ∧ (fcells fs)[k * 2 + 1]? = some (vi n) := by
  intro fs
  induction fs with
  | nil => intro k s n h; cases h
  | cons x fs ih =>
    intro k s n h
    cases k with
    | zero => cases h; exact ⟨rfl, rfl⟩
    | succ k =>
      have := ih (k := k) (by simpa using h)
      have e : ∀ j, (fcells (x :: fs))[(k + 1) * 2 + j]? = (fcells fs)[k * 2 + j]? := by
        intro j
        have : (k + 1) * 2 + j = (k * 2 + j) + 1 + 1 := by omega
        rw [this]; rfl
      rw [e, e]; exact this
theorem fcells_set : ∀ {fs : List (Sl × Int)} {k : Nat} {s s' : Sl} {n n' : Int}, fs[k]? = some (s, n) → (fcells fs).set (k * 2) (Sl.v s') = fcells (fs.set k (s', n)) ∧ (fcells fs).set (k * 2 + 1) (vi n') = fcells (fs.set k (s, n')) := by
  intro fs
  induction fs with
  | nil => intro k s s' n n' h; cases h
  | cons x fs ih =>
    intro k s s' n n' h
    cases k with
    | zero => cases h; exact ⟨rfl, rfl⟩
    | succ k =>
      have := ih (k := k) (s' := s') (n' := n') (by simpa using h)
      have e : ∀ j v, (fcells (x :: fs)).set ((k + 1) * 2 + j) v = Sl.v x.1 :: vi x.2 :: (fcells fs).set (k * 2 + j) v := by
        intro j v
        have : (k + 1) * 2 + j = (k * 2 + j) + 1 + 1 := by omega
        rw [this]; rfl
      have e0 := e 0 (Sl.v s')
      simp only [Nat.add_zero] at e0
      rw [e0, e, this.1, this.2]
      exact ⟨rfl, rfl⟩
theorem fcells_snoc (fs : List (Sl × Int)) (s : Sl) (n : Int) : fcells (fs ++ [(s, n)]) = fcells fs ++ [Sl.v s, vi n] := by simp [fcells]

theorem call196 {K : Bool → Mem → Prop} (h : At (dskA p d * F) M) (hK : ∀ M', At (dskA p d * F) M' → K true M') :
    call 196 [ptr (some (p, 0))] X (fun v_ M => ∃ r : Bool, v_ = .bool r ∧ K r M) M := by
  refine br196 (K := K) ?_
  obtain ⟨g, hd, h1⟩ := dsk_open h
  unfold dcells at h1
  unfold S196
  refine iteF rfl (nn_ (ldB_ h1 rfl ?_))
  unfold S196_1
  refine iteF rfl (nn_ (ldI_ h1 rfl (st8_ h1 fun M2 h2 => ldI_ h2 rfl (iteF rfl ?_))))
  unfold S196_2
  refine nn_ (ldI_ h2 rfl (st7_ h2 fun M3 h3 => ldB_ (s := false) h3 rfl (hK M3 ?_)))
  exact dsk_close { g with calls := IntKind.wrap .i64 (g.calls + 1) } ⟨hd.ok, hd.len, hd.chl⟩ h3
end
end Go.Proofs.YtdndpmlapcbjaaaGreat

namespace Go.Proofs.YtdndpmlapcbjaaaGreat
open Go Go.RowKit
set_option linter.unusedSimpArgs false
set_option linter.unusedVariables false

/-- A cell of a row of one's own is stored into. -/
theorem arr_st {s : Sl} {el k b off : Nat} {vs : List Value} {v : Value} {F : HP} {M : Mem} (h : At (arr s el k vs * F) M) (ha : s.a = some (b, 0)) (hlt : off < vs.length) : wr M (b, off) ∧ At (arr s el k (vs.set off v) * F) (sto M (b, off) v) := by
  rcases h.open_ with ⟨rfl, rfl, _⟩ | ⟨b', junk, g1, g2, g3, g4, g5, hB⟩
  · simp at hlt
  rw [ha] at g1
  cases g1
  refine ⟨⟨_, _, _, hB.blk, by simp only [List.size_toArray, List.length_append]; omega, by simp⟩, ?_⟩
  rw [sto_upd hB.blk, List.setIfInBounds_toArray, List.set_append_left _ _ hlt]
  exact (hB.upd _).close ha (by rw [List.length_set]; exact g2) (by rw [← g3]; simp) g4 g5
theorem st_arr {s : Sl} (el k : Nat) {b off : Nat} {vs : List Value} {v : Value} {F H : HP} {M : Mem} {κ : Mem → Prop} (h : At H M) [hp : Pick (arr s el k) H vs F] (ha : s.a = some (b, 0)) (hlt : off < vs.length) (hκ : ∀ M', At (arr s el k (vs.set off v) * F) M' → κ M') : st (b, off) v κ M := by
  obtain ⟨h1, h2⟩ := arr_st (v := v) (h.cast hp.eq) ha hlt
  exact ⟨h1, hκ _ h2⟩
theorem arr_cel {s : Sl} (el k : Nat) {b off : Nat} {vs : List Value} {v : Value} {F H : HP} {M : Mem} (h : At H M) [hp : Pick (arr s el k) H vs F] (ha : s.a = some (b, 0)) (hv : vs[off]? = some v) : cel M (b, off) = some v := by
  have hr := (h.cast hp.eq).rdc
  rw [ha] at hr
  have := hr off v hv
  simpa using this

/-! ### the bytes of files -/
theorem bss_get : ∀ {ss : List Sl} {ls : List (List UInt8)} {k : Nat} {s : Sl} {l : List UInt8}, ss[k]? = some s → ls[k]? = some l → Ent (bss ss ls) (bs s l) := by
  intro ss
  induction ss with
  | nil => intro ls k s l h; cases h
  | cons x ss ih =>
    intro ls k s l h1 h2
    cases ls with
    | nil => cases h2
    | cons y ls =>
      cases k with
      | zero => cases h1; cases h2; exact Ent.l _ _
      | succ k => exact (Ent.r _ _).trans (ih (by simpa using h1) (by simpa using h2))
theorem bss_set : ∀ {ss : List Sl} {ls : List (List UInt8)} {k : Nat} {s' : Sl} {l' : List UInt8}, Ent (bs s' l' * bss ss ls) (bss (ss.set k s') (ls.set k l')) := by
  intro ss
  induction ss with
  | nil =>
    intro ls k s' l'
    cases ls with
    | nil => exact fun _ _ => trivial
    | cons y ls => cases k <;> exact Ent.r _ _
  | cons x ss ih =>
    intro ls k s' l'
    cases ls with
    | nil => cases k <;> exact Ent.r _ _
    | cons y ls =>
      cases k with
      | zero => exact Ent.star (Ent.refl _) (Ent.r _ _)
      | succ k =>
        show Ent (bs s' l' * (bs x y * bss ss ls)) (bs x y * bss (ss.set k s') (ls.set k l'))
        rw [sm_left]
        exact Ent.star (Ent.refl _) ih
theorem At.bssget {ss : List Sl} {ls : List (List UInt8)} {k : Nat} {s : Sl} {l : List UInt8} {F : HP} {M : Mem} (h : At (bss ss ls * F) M) (h1 : ss[k]? = some s) (h2 : ls[k]? = some l) : At (bs s l * (bss ss ls * F)) M :=
  h.dup ((Ent.l _ _).trans (bss_get h1 h2)) (pers_bs s l)

section
variable {p : Nat} {d : DS} {F H : HP} {M : Mem} {X : List PanicEntry → Mem → Prop}
theorem idx_lt {n : ByteArray} {i : Int} (hd : d.Ok) (h : rget d.now n = some i) : 0 ≤ i ∧ i.toNat < d.fd.length := by
  have := hd.inj _ (rget_mem h)
  simp only at this
  omega
/-- Disk.at, the disk being open. -/
theorem call63o {n : ByteArray} {fl : Sl} {nb : Nat} {tl fcs : List Value} {F1 F2 F3 : HP} {K : Option PA → Bool → Mem → Prop} (hd : d.Ok) (h : At H M) [p1 : Pick (cl p) H (115, Sl.v fl :: ptr (some (nb, 0)) :: tl) F1] [p2 : Pick (rowA nb) H d.now F2] [p3 : Pick (arr fl 135 2) H fcs F3]
    (hl : fcs.length = 2 * d.fd.length) (h1 : ∀ i b, rget d.now n = some i → fl.a = some (b, 0) → K (some (b, i.toNat * 2)) true M) (h2 : rget d.now n = none → K none false M) :
    call 63 [ptr (some (p, 0)), .string n] X (fun v_ M => ∃ (r : Option PA) (q : Bool), v_ = .tuple #[ptr r, .bool q] ∧ K r q M) M := by
  refine br63 (K := K) ?_
  have hA : At (arr fl 135 2 fcs * F3) M := h.cast p3.eq
  have hn : d.now.length ≤ 1000000000 := by have := hd.lim2; have := hd.big; omega
  unfold S63
  refine iteF rfl (nn_ (ldP_ h rfl (call130 (h.cast p2.eq) hd.srt hn (ite_ (fun hc => ?_) (fun hc => ?_)))))
  · have hg : rget d.now n = none := by simpa using hc
    exact h2 hg
  · have hg : (rget d.now n).isSome = true := by simpa using hc
    obtain ⟨i, hi⟩ := Option.isSome_iff_exists.1 hg
    obtain ⟨i0, i1⟩ := idx_lt hd hi
    rw [hi]
    refine ldL_ h rfl ?_
    have hlen := hA.arr_len
    rcases hA.open_ with ⟨rfl, rfl, _⟩ | ⟨b, junk, g1, _⟩
    · simp at hl; omega
    · refine ⟨(b, 0), g1, i0, by simp only [Option.getD_some]; omega, ?_⟩
      have := h1 i b hi g1
      simpa using this

/-! ### check -/
def dchk (d : DS) (there : Bool) (ns : List ByteArray) : Int :=
  if ns.all mayName = true then (if there = true then (match ns with
    | n :: _ => if (rget d.now n).isSome = true then 0 else 3
    | [] => 0) else 0) else 1
theorem call197_ {s : ByteArray} {K : Bool → Mem → Prop} (hs : s.size ≤ 9223372036854775807) (h : K (mayName s) M) : call 197 [.string s] X (fun v_ M => ∃ r : Bool, v_ = .bool r ∧ K r M) M := br197 (K := K) (c197 hs h)
theorem call120_ {there : Bool} {s : Sl} {ns : List ByteArray} {K : Int → Mem → Prop} (h : At (dskA p d * F) M) (hs : ∀ M', At F M' → rdc M' s.a (ns.map Value.string)) (hl : s.n = ns.length) (hb : ns.length ≤ 1000) (hz : ∀ n ∈ ns, n.size ≤ 9223372036854775807) (ht : there = true → ns ≠ [])
    (hK : ∀ M', At (dskA p d * F) M' → K (dchk d there ns) M') : call 120 [ptr (some (p, 0)), .bool there, Sl.v s] X (fun v_ M => ∃ r : Int, v_ = .int .i64 r ∧ K r M) M := by
  refine br120 (K := K) ?_
  unfold S120
  refine call196 h fun M1 h1 => iteF rfl ?_
  have hr := hs M1 h1.r
  have at_ : ∀ (i : Int) (n : ByteArray) (κ : PA → Mem → Prop), 0 ≤ i → ns[i.toNat]? = some n → (∀ q, cel M1 q = some (.string n) → κ q M1) → ix s 1 i κ M1 := by
    intro i n κ i0 hn hκ
    have hlt := (List.getElem?_eq_some_iff.1 hn).1
    cases ha : s.a with
    | none =>
      rw [ha] at hr
      have h0 : ns = [] := by simpa [rdc] using hr
      subst h0; simp at hlt
    | some q =>
      rw [ha] at hr
      refine ⟨q, ha, i0, by omega, hκ _ ?_⟩
      have := hr i.toNat (.string n) (by simp [hn])
      simpa using this
  unfold S120_2
  refine Lp_of (σ := Int) (fun i M' => M' = M1 ∧ 0 ≤ i ∧ i ≤ ns.length ∧ (ns.take i.toNat).all mayName = true) (fun i => ns.length - i.toNat) ?_ ⟨rfl, Int.le_refl _, Int.natCast_nonneg _, by simp⟩
  rintro i M' next ⟨rfl, i0, i1, i2⟩ hnx
  unfold S120_2b
  refine ite_ (fun hc => ?_) (fun hc => ?_)
  · have hlt : i < ns.length := by have := of_decide_eq_true hc; omega
    obtain ⟨n, hn⟩ : ∃ n, ns[i.toNat]? = some n := ⟨_, List.getElem?_eq_getElem (by omega)⟩
    refine at_ i n _ i0 hn fun q hq => ldSq hq (call197_ (hz n (List.mem_of_getElem? hn)) (ite_ (fun hm => ?_) (fun hm => ?_)))
    · have : ns.all mayName = false := by
        rw [List.all_eq_false]
        exact ⟨n, List.mem_of_getElem? hn, by simpa using hm⟩
      have hk := hK M' h1
      unfold dchk at hk; rw [this] at hk; exact hk
    · rw [w64 (by omega) (by omega)]
      refine hnx _ _ ⟨rfl, by omega, by omega, ?_⟩ (by omega)
      have : (i + 1).toNat = i.toNat + 1 := by omega
      rw [this, List.take_add_one, hn, List.all_append, i2]
      simpa using hm
  · have hge : i = ns.length := by have := of_decide_eq_false hc; omega
    subst hge
    have hall : ns.all mayName = true := by simpa using i2
    have hk := hK M' h1
    unfold dchk at hk; rw [if_pos hall] at hk
    unfold S120_1
    refine ite_ (fun hth => ?_) (fun hth => ?_)
    · subst hth
      rw [if_pos rfl] at hk
      match ns, ht rfl, at_, hk with
      | n :: ns', _, at_, hk =>
        refine at_ 0 n _ (Int.le_refl _) rfl fun q hq => ldSq hq ?_
        obtain ⟨g, hd, h2⟩ := dsk_open h1
        unfold dcells at h2
        refine call63o (d := d) (fcs := fcells g.fs) hd.ok h2 (by rw [fcells_len, hd.len]) (fun i b hi _ => iteF rfl ?_) (fun hi => iteT rfl ?_)
        · unfold S120_3
          simp only at hk
          rw [hi] at hk; exact hk
        · simp only at hk
          rw [hi] at hk; exact hk
    · subst hth
      unfold S120_3
      simpa using hk

/-! ### turn -/
def DS.turn (d : DS) (gone name : ByteArray) (file : Int) : DS := { d with now := rapply d.now gone name file, lim := d.lim + 1 }
theorem rapply_ok {l : RowL} {gone name : ByteArray} {file : Int} (hs : Srt l) : Srt (rapply l gone name file) := by
  simp only [rapply]
  split <;> split <;> first | exact hs | exact hs.del | exact hs.put | exact hs.del.put
theorem rapply_len (l : RowL) (gone name : ByteArray) (file : Int) : (rapply l gone name file).length ≤ l.length + 1 := by
  have h1 := rdel_len l gone
  have h2 := rput_len l name file
  have h3 := rput_len (rdel l gone) name file
  simp only [rapply]
  split <;> split <;> omega
theorem rapply_mem {l : RowL} {gone name : ByteArray} {file : Int} {x : ByteArray × Int} (h : x ∈ rapply l gone name file) : x ∈ l ∨ (name ≠ ByteArray.empty ∧ x = (name, file)) := by
  simp only [rapply] at h
  split at h
  · split at h
    · exact .inl h
    · exact .inl (mem_rdel h)
  · rename_i hne
    rcases mem_rput h with h | h
    · split at h
      · exact .inl h
      · exact .inl (mem_rdel h)
    · exact .inr ⟨hne, h⟩
theorem turn_ok {gone name : ByteArray} {file : Int} (hd : d.Ok) (hb : d.lim + 1 ≤ 100000000) (hf : name ≠ ByteArray.empty → 0 ≤ file ∧ file < d.fd.length) : (d.turn gone name file).Ok :=
  ⟨rapply_ok hd.srt, fun x hx => by
    rcases rapply_mem hx with h | ⟨h1, rfl⟩
    · exact hd.inj x h
    · exact hf h1, Nat.le_trans hd.lim1 (Nat.le_succ _), Nat.le_trans (rapply_len _ _ _ _) (Nat.succ_le_succ hd.lim2), hb, hd.sz, hd.qok⟩
theorem call121_ {gone name : ByteArray} {file : Int} {K : Mem → Prop} (h : At (dskA p d * F) M) (hb : d.lim + 1 ≤ 100000000) (hf : name ≠ ByteArray.empty → 0 ≤ file ∧ file < d.fd.length) (hK : ∀ M', At (dskA p (d.turn gone name file) * F) M' → K M') :
    call 121 [ptr (some (p, 0)), .agg #[.string gone, .string name, .int .i64 file]] X (fun v_ M => K M) M := by
  refine br121 (K := K) ?_
  obtain ⟨g, hd, h1⟩ := dsk_open h
  have hl2 := hd.ok.lim2
  have hbg := hd.ok.big
  have hchl := hd.chl
  have hlen := (h1.pick (A := arr g.ch 221 3)).arr_len
  unfold dcells at h1
  unfold S121
  refine nn_ (ldP_ h1 rfl (call198 (h1.pick (A := rowA g.nb)) hd.ok.srt (by omega) fun M2 h2 => ldL_ h2 rfl (newc_ h2 fun b9 M3 h3 => ?_)))
  refine arr_app (s := g.ch) (vs := g.chv) (x := ⟨some (b9, 0), 1, 1⟩) (news := [.string gone, .string name, .int .i64 file]) h3 rfl ?_ rfl ?_ ?_ ?_ fun r M4 h4 hn4 => st3_ h4 fun M5 h5 => hK M5 (dsk_close { g with ch := r, chv := g.chv ++ [.string gone, .string name, .int .i64 file] } ⟨turn_ok hd.ok hb hf, hd.len, ?_⟩ (by simp only [dcells, DS.turn]; exact h5.use))
  · intro j v hv
    match j, hv with
    | 0, hv => cases hv; exact h3.cel (b := b9) rfl
    | 1, hv => cases hv; exact h3.cel (b := b9) rfl
    | 2, hv => cases hv; exact h3.cel (b := b9) rfl
  · intro v hv; simp at hv; rcases hv with rfl | rfl | rfl <;> rfl
  · simp; omega
  · simp; omega
  · simp [DS.turn]; omega
end
end Go.Proofs.YtdndpmlapcbjaaaGreat

namespace Go.Proofs.YtdndpmlapcbjaaaGreat
open Go Go.RowKit
set_option linter.unusedSimpArgs false
set_option linter.unusedVariables false

theorem rput_snoc {l : RowL} {k : ByteArray} {v : Int} (h : Srt (l ++ [(k, v)])) : rput l k v = l ++ [(k, v)] := by
  have hb : ∀ x ∈ l, slt x.1 k = true := fun x hx => (List.pairwise_append.1 h).2.2 x hx _ (List.mem_singleton.2 rfl)
  have hp : rpos l k = l.length := takeWhile_len _ l l.length (Nat.le_refl _) (fun j x _ hx => hb x (List.mem_of_getElem? hx)) (fun x hx => by simp at hx)
  have hg : rget l k = none := by
    unfold rget
    rw [hp]; simp
  rw [rput, hg]
  simp [hp]
theorem row_new {b : Nat} {F : HP} {M : Mem} (h : At (cl b (111, [Sl.v ⟨none, 0, 0⟩, Sl.v ⟨none, 0, 0⟩]) * F) M) : At (rowA b [] * F) M := by
  refine row_close (s := ⟨none, 0, 0⟩) (t := ⟨none, 0, 0⟩) ?_
  simp only [List.map_nil, arr_nil, tt_star]; exact h

theorem call122_ {nb : Nat} {l : RowL} {F : HP} {M : Mem} {K : Option PA → Mem → Prop} {X : List PanicEntry → Mem → Prop} (h : At (rowA nb l * F) M) (hs : Srt l) (hn : l.length ≤ 1000000000)
    (hK : ∀ r M', At (rowA r l * (rowA nb l * F)) M' → K (some (r, 0)) M') : call 122 [ptr (some (nb, 0))] X (fun v_ M => ∃ r : Option PA, v_ = ptr r ∧ K r M) M := by
  refine br122 (K := K) ?_
  unfold S122
  refine newc_ h fun b1 M1 h1 => newc_ (row_new h1) fun b2 M2 h2 => st0_ h2 fun M3 h3 => call117_ h3 fun c1 c2 M4 h4 => ?_
  unfold S122_1
  refine rngRow (σ := RowL) (fun x => rowA b1 x * (cl b2 (108, [ptr (some (b1, 0))]) * (rowA nb l * F))) (fun x i => x = l.take i) (x0 := []) h4.use rfl (h4.cel (b := c1) rfl) (h4.cel (b := c2) rfl) (h4.pick (A := rowA nb)) hn ?_ ?_
  · rintro x i k v M5 G nx rt rfl hkv h5 hnx
    refine ⟨k, v, rfl, ?_⟩
    unfold S122_1b
    have hlen : (l.take i).length ≤ l.length := by simp; omega
    have hs' : Srt (l.take i ++ [(k, v)]) := by
      have : l.take i ++ [(k, v)] = l.take (i + 1) := by rw [List.take_add_one, hkv]; rfl
      rw [this]; exact hs.sublist (List.take_sublist _ _)
    refine ldP_ h5 rfl (call199 (h5.cast (sm_assoc _ _ _)) (hs.sublist (List.take_sublist _ _)) (by omega) fun q M6 h6 => hnx (l.take (i + 1)) M6 rfl ?_)
    rw [rput_snoc hs'] at h6
    have : l.take i ++ [(k, v)] = l.take (i + 1) := by rw [List.take_add_one, hkv]; rfl
    rw [this] at h6
    exact h6.use
  · rintro x M5 rfl h5
    rw [List.take_length] at h5
    exact ldP_ h5 rfl (hK b1 M5 h5.use)

/-! ### Used -/
def lenAt (fd : List (List UInt8)) (i : Int) : Nat := ((fd[i.toNat]?).map List.length).getD 0
def usedOf (fd : List (List UInt8)) (l : RowL) : Nat := (l.map fun x => lenAt fd x.2).sum
def DS.used (d : DS) : Nat := usedOf d.fd d.now
theorem lenAt_le {d : DS} (hd : d.Ok) (i : Int) : lenAt d.fd i ≤ 1048576 := by
  unfold lenAt
  cases hx : d.fd[i.toNat]? with
  | none => simp
  | some x => simpa using hd.sz x (List.mem_of_getElem? hx)
theorem usedOf_le {d : DS} (hd : d.Ok) : ∀ l : RowL, usedOf d.fd l ≤ l.length * 1048576 := by
  intro l
  induction l with
  | nil => simp [usedOf]
  | cons x l ih =>
    have := lenAt_le hd x.2
    simp only [usedOf, List.map_cons, List.sum_cons, List.length_cons] at ih ⊢
    omega
theorem usedOf_take {fd : List (List UInt8)} {l : RowL} {i : Nat} {x : ByteArray × Int} (h : l[i]? = some x) : usedOf fd (l.take (i + 1)) = usedOf fd (l.take i) + lenAt fd x.2 := by
  rw [usedOf, List.take_add_one, h, List.map_append, List.sum_append]; simp [usedOf]

section
variable {p : Nat} {d : DS} {F H : HP} {M : Mem} {X : List PanicEntry → Mem → Prop}
/-- A file of an open disk: its slice, and its bytes. -/
theorem file_at {g : DH} {i : Int} {G : HP} (hd : DOk d g) (h : At (bss (g.fs.map (·.1)) d.fd * G) M) (h0 : 0 ≤ i) (h1 : i < d.fd.length) : ∃ s n l, g.fs[i.toNat]? = some (s, n) ∧ d.fd[i.toNat]? = some l ∧ (fcells g.fs)[i.toNat * 2 + 0]? = some (Sl.v s) ∧ At (bs s l * (bss (g.fs.map (·.1)) d.fd * G)) M ∧ s.n = l.length := by
  have hl := hd.len
  obtain ⟨⟨s, n⟩, hf⟩ : ∃ x, g.fs[i.toNat]? = some x := ⟨_, List.getElem?_eq_getElem (by omega)⟩
  obtain ⟨l, hll⟩ : ∃ x, d.fd[i.toNat]? = some x := ⟨_, List.getElem?_eq_getElem (by omega)⟩
  have h2 := h.bssget (k := i.toNat) (by rw [List.getElem?_map, hf]; rfl) hll
  exact ⟨s, n, l, hf, hll, (fcells_at hf).1, h2, (h2.byt (s := s)).len⟩

theorem call205o {K : Int → Mem → Prop} {g : DH} (hd : DOk d g) (h0 : At (cl p (115, dcells d g) * (arr g.fl 135 2 (fcells g.fs) * (bss (g.fs.map (·.1)) d.fd * (rowA g.nb d.now * (rowA g.sb g.sl * (arr g.ch 221 3 g.chv * F)))))) M)
    (hK : ∀ M', At (cl p (115, dcells d g) * (arr g.fl 135 2 (fcells g.fs) * (bss (g.fs.map (·.1)) d.fd * (rowA g.nb d.now * (rowA g.sb g.sl * (arr g.ch 221 3 g.chv * F)))))) M' → K d.used M') :
    call 205 [ptr (some (p, 0))] X (fun v_ M => ∃ r : Int, v_ = .int .i64 r ∧ K r M) M := by
  refine br205 (K := K) ?_
  have hlim := hd.ok.lim2
  have hbig := hd.ok.big
  have hfl := fcells_len g.fs
  have hfn := hd.len
  have hu := usedOf_le hd.ok
  unfold dcells at h0
  unfold S205
  refine newc_ h0 fun b1 M1 h1 => newc_ h1 fun b2 M2 h2 => st0_ h2 fun M3 h3 => ldP_ h3 rfl (iteT rfl (ldP_ h3 rfl (nn_ (ldP_ h3 rfl (call117_ h3 fun c1 c2 M4 h4 => ?_)))))
  unfold S205_2
  refine rngRow (σ := Int) (fun x => cl b2 (3, [vi x]) * (cl b1 (26, [ptr (some (p, 0))]) * (cl p (115, [Sl.v g.fl, ptr (some (g.nb, 0)), ptr (some (g.sb, 0)), Sl.v g.ch, vi d.q, .bool g.full, .bool false, vi (-1), vi g.calls]) * (arr g.fl 135 2 (fcells g.fs) * (bss (g.fs.map (·.1)) d.fd * (rowA g.nb d.now * (rowA g.sb g.sl * (arr g.ch 221 3 g.chv * F))))))))
    (fun x i => x = usedOf d.fd (d.now.take i)) (x0 := 0) h4.use (by simp [usedOf]) (h4.cel (b := c1) rfl) (h4.cel (b := c2) rfl) (h4.pick (A := rowA g.nb)) (by omega) ?_ ?_
  · rintro x i k v M5 G nx rt hx hkv h5 hnx
    refine ⟨k, v, rfl, ?_⟩
    unfold S205_2b
    obtain ⟨v0, v1⟩ := hd.ok.inj _ (List.mem_of_getElem? hkv)
    simp only at v0 v1
    obtain ⟨s, n, l, f1, f2, f3, f4, f5⟩ := file_at (i := v) (G := cl b2 (3, [vi x]) * (cl b1 (26, [ptr (some (p, 0))]) * (cl p (115, [Sl.v g.fl, ptr (some (g.nb, 0)), ptr (some (g.sb, 0)), Sl.v g.ch, vi d.q, .bool g.full, .bool false, vi (-1), vi g.calls]) * (arr g.fl 135 2 (fcells g.fs) * (rowA g.nb d.now * (rowA g.sb g.sl * (arr g.ch 221 3 g.chv * (F * G)))))))) hd (h5.cast (by ac_rfl)) v0 v1
    have hal := (h5.pick (A := arr g.fl 135 2)).arr_len.1
    refine ldI_ h5 rfl (ldP_ h5 rfl (nn_ (ldL_ h5 rfl (ix_ 135 h5 v0 (by omega) fun q hq => ldLq (by have := hq 0 _ f3; simpa using this) (st0_ h5 fun M6 h6 => hnx (x + l.length) M6 ?_ ?_)))))
    · rw [usedOf_take hkv, hx, lenAt, f2]; simp
    · have e : IntKind.wrap .i64 (x + (s.n : Int)) = x + l.length := by
        have h1 := hu (d.now.take i)
        have h2 := hd.ok.sz l (List.mem_of_getElem? f2)
        simp at h1
        have h3 : min i d.now.length ≤ d.now.length := Nat.min_le_right _ _
        have h4 : min i d.now.length * 1048576 ≤ d.now.length * 1048576 := Nat.mul_le_mul_right _ h3
        rw [f5, w64 (by omega) (by omega)]
      rw [e] at h6
      exact h6.use
  · rintro x M5 hx h5
    rw [List.take_length] at hx
    unfold S205_1
    refine ldI_ h5 rfl ?_
    rw [hx]
    exact hK M5 (by unfold dcells; exact h5.use)
end
end Go.Proofs.YtdndpmlapcbjaaaGreat

namespace Go.Proofs.YtdndpmlapcbjaaaGreat
open Go Go.RowKit
set_option linter.unusedSimpArgs false
set_option linter.unusedVariables false

def DS.more (d : DS) : DS := { d with fd := d.fd ++ [[]], lim := d.lim + 1 }
def DS.create (d : DS) (n : ByteArray) : Int × DS := if dchk d false [n] ≠ 0 then (dchk d false [n], d) else
  if (rget d.now n).isSome = false ∧ 1024 ≤ d.now.length then (2, d) else (0, d.more.turn ByteArray.empty n d.fd.length)
def DS.dataAt (d : DS) (i : Int) : List UInt8 := (d.fd[i.toNat]?).getD []
def DS.append (d : DS) (n : ByteArray) (b : List UInt8) : Int × DS := if dchk d true [n] ≠ 0 then (dchk d true [n], d) else
  let i := (rget d.now n).getD 0
  if 1048576 < (d.dataAt i).length + b.length then (2, d) else if d.q < d.used + b.length then (4, d) else (0, { d with fd := d.fd.set i.toNat (d.dataAt i ++ b) })
def DS.rename (d : DS) (n m : ByteArray) : Int × DS := if dchk d true [n, m] ≠ 0 then (dchk d true [n, m], d) else (0, d.turn n m ((rget d.now n).getD 0))
def DS.remove (d : DS) (n : ByteArray) : Int × DS := if dchk d true [n] ≠ 0 then (dchk d true [n], d) else (0, d.turn n ByteArray.empty 0)
def DS.sync (d : DS) (n : ByteArray) : Int × DS := if dchk d true [n] ≠ 0 then (dchk d true [n], d) else (0, d)

theorem dchk_zero {d : DS} {n : ByteArray} {ns : List ByteArray} (h : dchk d true (n :: ns) = 0) : (n :: ns).all mayName = true ∧ ∃ i, rget d.now n = some i := by
  unfold dchk at h
  split at h
  · rename_i hm
    simp only [if_true] at h
    split at h
    · rename_i hs
      exact ⟨hm, Option.isSome_iff_exists.1 hs⟩
    · cases h
  · cases h
theorem name_ne {n : ByteArray} (h : mayName n = true) : n ≠ ByteArray.empty := by
  rintro rfl
  simp [mayName] at h
theorem bs_nil {F : HP} {M : Mem} (h : At F M) : At (bs ⟨none, 0, 0⟩ [] * F) M := h.dup (fun m _ => BS.nil _) (pers_bs _ _)

section
variable {p : Nat} {d : DS} {F H : HP} {M : Mem} {X : List PanicEntry → Mem → Prop}
theorem names1 {b : Nat} {n : ByteArray} {M' : Mem} (h : At (cl b (9, [.string n]) * F) M') : rdc M' (some (b, 0)) ([n].map Value.string) := fun j v hv => by
  match j, hv with
  | 0, hv => cases hv; exact h.cel (b := b) rfl
theorem names2 {b : Nat} {n m : ByteArray} {M' : Mem} (h : At (cl b (9, [.string n, .string m]) * F) M') : rdc M' (some (b, 0)) ([n, m].map Value.string) := fun j v hv => by
  match j, hv with
  | 0, hv => cases hv; exact h.cel (b := b) rfl
  | 1, hv => cases hv; exact h.cel (b := b) rfl
/-- A call that looks first at one name. -/
theorem begin1 {n : ByteArray} {there : Bool} {κ : Int → Mem → Prop} (h : At (dskA p d * F) M) (hz : n.size ≤ 9223372036854775807) (hκ : ∀ M', At (dskA p d * F) M' → κ (dchk d there [n]) M') :
    new (.cells #[.string n] 9 (0, 0)) (fun b1 => call 120 [ptr (some (p, 0)), .bool there, Sl.v ⟨some (b1, 0), 1, 1⟩] X fun v_ M => ∃ r : Int, v_ = .int .i64 r ∧ κ r M) M := by
  refine newc_ h fun b M1 h1 => call120_ (ns := [n]) (F := cl b (9, [.string n]) * F) (h1.cast (by ac_rfl)) (fun M' h' => names1 h') rfl (by simp) (by intro x hx; simp at hx; subst hx; exact hz) (by intro _ h; cases h) fun M2 h2 => hκ M2 h2.use

theorem more_ok (hd : d.Ok) (hb : d.lim + 1 ≤ 100000000) : d.more.Ok :=
  ⟨hd.srt, fun x hx => by have := hd.inj x hx; simp [DS.more]; omega, by have := hd.lim1; simp [DS.more]; omega, by have := hd.lim2; simp [DS.more]; omega, hb, fun l hl => by
    rcases List.mem_append.1 hl with h | h
    · exact hd.sz l h
    · simp at h; subst h; simp, hd.qok⟩
theorem call126_ {n : ByteArray} {K : Int → Mem → Prop} (h : At (dskA p d * F) M) (hb : d.lim + 2 ≤ 100000000) (hz : n.size ≤ 9223372036854775807) (hK : ∀ M', At (dskA p (d.create n).2 * F) M' → K (d.create n).1 M') :
    call 126 [ptr (some (p, 0)), .string n] X (fun v_ M => ∃ r : Int, v_ = .int .i64 r ∧ K r M) M := by
  refine br126 (K := K) ?_
  unfold S126
  refine begin1 h hz fun M1 h1 => ite_ (fun hc => ?_) (fun hc => ?_)
  · have hc' : dchk d false [n] ≠ 0 := by simpa using hc
    have := hK M1
    rw [DS.create, if_pos hc'] at this
    exact this h1
  have hc' : ¬ (dchk d false [n] ≠ 0) := by simpa using hc
  rw [DS.create, if_neg hc'] at hK
  have fin : ∀ q M2, At (dskA p d * F) M2 → q = decide ((rget d.now n).isSome = false ∧ 1024 ≤ d.now.length) → S126_1 (some (p, 0)) n q K X M2 := by
    intro q M2 h2 hq
    unfold S126_1
    refine ite_ (fun hqt => ?_) (fun hqf => ?_)
    · rw [hqt] at hq
      rw [if_pos (of_decide_eq_true hq.symm)] at hK
      exact hK M2 h2
    · rw [hqf] at hq
      rw [if_neg (of_decide_eq_false hq.symm)] at hK
      obtain ⟨g, hd, h3⟩ := dsk_open h2
      have hlen := (h3.pick (A := arr g.fl 135 2)).arr_len
      have hfl := fcells_len g.fs
      have hfn := hd.len
      have l1 := hd.ok.lim1
      have lb := hd.ok.big
      unfold dcells at h3
      refine nn_ (ldL_ h3 rfl (newc_ h3 fun b15 M4 h4 => ?_))
      refine arr_app (s := g.fl) (vs := fcells g.fs) (x := ⟨some (b15, 0), 1, 1⟩) (news := [Sl.v ⟨none, 0, 0⟩, vi 0]) h4 rfl ?_ rfl ?_ ?_ ?_ fun r M5 h5 hn5 => st0_ h5 fun M6 h6 => ldL_ h6 rfl ?_
      · intro j v hv
        match j, hv with
        | 0, hv => cases hv; exact h4.cel (b := b15) rfl
        | 1, hv => cases hv; exact h4.cel (b := b15) rfl
      · intro v hv; simp at hv; rcases hv with rfl | rfl <;> rfl
      · simp; omega
      · simp; omega
      · have e : IntKind.wrap .i64 ((r.n : Int) - 1) = d.fd.length := by
          have e0 : (r.n : Int) = (g.fl.n : Int) + 1 := by rw [hn5]; simp
          rw [e0, w64 (by omega) (by omega)]; omega
        rw [e]
        have h7 : At (dskA p d.more * F) M6 := by
          refine dsk_close { g with fl := r, fs := g.fs ++ [(⟨none, 0, 0⟩, 0)] } ⟨more_ok hd.ok (by omega), by simp [DS.more, hfn], by have := hd.chl; simp [DS.more]; omega⟩ ?_
          simp only [dcells, DS.more, List.map_append, List.map_cons, List.map_nil, fcells_snoc]
          have hl : (g.fs.map (·.1)).length = d.fd.length := by simp [hfn]
          rw [bss_snoc hl]
          exact (bs_nil h6).use
        exact call121_ h7 (by simp [DS.more]; omega) (fun _ => by simp [DS.more]; omega) fun M8 h8 => hK M8 h8
  obtain ⟨g, hd, h3⟩ := dsk_open h1
  unfold dcells at h3
  refine call63o (d := d) (fcs := fcells g.fs) hd.ok h3 (by rw [fcells_len, hd.len]) (fun i b hi _ => iteF rfl ?_) (fun hi => iteT rfl ?_)
  · exact fin false M1 h1 (by rw [hi]; simp)
  · refine nn_ (ldP_ h3 rfl (call204 (h3.pick (A := rowA g.nb)) ?_))
    refine fin _ M1 h1 ?_
    rw [hi]
    simp
    omega
theorem call57_ {n : ByteArray} {K : Int → Mem → Prop} (h : At (dskA p d * F) M) (hb : d.lim + 1 ≤ 100000000) (hz : n.size ≤ 9223372036854775807) (hK : ∀ M', At (dskA p (d.remove n).2 * F) M' → K (d.remove n).1 M') :
    call 57 [ptr (some (p, 0)), .string n] X (fun v_ M => ∃ r : Int, v_ = .int .i64 r ∧ K r M) M := by
  refine br57 (K := K) ?_
  unfold S57
  refine begin1 h hz fun M1 h1 => ite_ (fun hc => ?_) (fun hc => ?_)
  · have hc' : dchk d true [n] ≠ 0 := by simpa using hc
    have := hK M1
    rw [DS.remove, if_pos hc'] at this
    exact this h1
  · have hc' : ¬ (dchk d true [n] ≠ 0) := by simpa using hc
    rw [DS.remove, if_neg hc'] at hK
    exact call121_ h1 hb (fun hne => absurd rfl hne) fun M2 h2 => hK M2 h2
theorem call129_ {n m : ByteArray} {K : Int → Mem → Prop} (h : At (dskA p d * F) M) (hb : d.lim + 1 ≤ 100000000) (hz : n.size ≤ 9223372036854775807) (hz' : m.size ≤ 9223372036854775807) (hK : ∀ M', At (dskA p (d.rename n m).2 * F) M' → K (d.rename n m).1 M') :
    call 129 [ptr (some (p, 0)), .string n, .string m] X (fun v_ M => ∃ r : Int, v_ = .int .i64 r ∧ K r M) M := by
  refine br129 (K := K) ?_
  unfold S129
  refine newc_ h fun b M1 h1 => call120_ (ns := [n, m]) (F := cl b (9, [.string n, .string m]) * F) (h1.cast (by ac_rfl)) (fun M' h' => names2 h') rfl (by simp) (by intro x hx; simp at hx; rcases hx with rfl | rfl <;> assumption) (by intro _ h; cases h) fun M2 h2 => ite_ (fun hc => ?_) (fun hc => ?_)
  · have hc' : dchk d true [n, m] ≠ 0 := by simpa using hc
    have := hK M2
    rw [DS.rename, if_pos hc'] at this
    exact this h2.use
  · have hc' : ¬ (dchk d true [n, m] ≠ 0) := by simpa using hc
    rw [DS.rename, if_neg hc'] at hK
    obtain ⟨hm, i, hi⟩ := dchk_zero (Classical.not_not.1 hc')
    obtain ⟨g, hd, h3⟩ := dsk_open h2
    have l2 := hd.ok.lim2
    have lb := hd.ok.big
    unfold dcells at h3
    obtain ⟨i0, i1⟩ := idx_lt hd.ok hi
    refine nn_ (ldP_ h3 rfl (call130 (h3.pick (A := rowA g.nb)) hd.ok.srt (by omega) (call121_ h2 hb (fun _ => by rw [hi]; simp; omega) fun M4 h4 => hK M4 h4.use)))
theorem call128_ {n : ByteArray} {K : Int → Mem → Prop} (h : At (dskA p d * F) M) (hz : n.size ≤ 9223372036854775807) (hK : ∀ M', At (dskA p (d.sync n).2 * F) M' → K (d.sync n).1 M') :
    call 128 [ptr (some (p, 0)), .string n] X (fun v_ M => ∃ r : Int, v_ = .int .i64 r ∧ K r M) M := by
  refine br128 (K := K) ?_
  unfold S128
  refine begin1 h hz fun M1 h1 => ite_ (fun hc => ?_) (fun hc => ?_)
  · have hc' : dchk d true [n] ≠ 0 := by simpa using hc
    have := hK M1
    rw [DS.sync, if_pos hc'] at this
    exact this h1
  · have hc' : ¬ (dchk d true [n] ≠ 0) := by simpa using hc
    rw [DS.sync, if_neg hc'] at hK
    obtain ⟨hm, i, hi⟩ := dchk_zero (Classical.not_not.1 hc')
    obtain ⟨g, hd, h3⟩ := dsk_open h1
    have hfl := fcells_len g.fs
    have hfn := hd.len
    obtain ⟨i0, i1⟩ := idx_lt hd.ok hi
    unfold dcells at h3
    refine call63o (d := d) (fcs := fcells g.fs) hd.ok h3 (by omega) (fun j b hj hfb => nn_ ?_) (fun hn => by rw [hi] at hn; cases hn)
    rw [hi] at hj; cases hj
    obtain ⟨s, m, l, f1, f2, f3, f4, f5⟩ := file_at (i := i) (G := cl p (115, dcells d g) * (arr g.fl 135 2 (fcells g.fs) * (rowA g.nb d.now * (rowA g.sb g.sl * (arr g.ch 221 3 g.chv * F))))) hd (h3.cast (by unfold dcells; ac_rfl)) i0 (by omega)
    refine ldLq (arr_cel 135 2 h3 hfb (by simpa using f3)) (st_arr 135 2 h3 hfb (by rw [hfl]; omega) fun M4 h4 => hK M4 ?_)
    rw [(fcells_set (s' := s) (n' := (s.n : Int)) f1).2] at h4
    refine dsk_close { g with fs := g.fs.set i.toNat (s, (s.n : Int)) } ⟨hd.ok, by simp [hfn], hd.chl⟩ ?_
    have e : (g.fs.set i.toNat (s, (s.n : Int))).map (·.1) = g.fs.map (·.1) := by rw [List.map_set]; exact set_same (by simp [f1])
    simp only [dcells, e]
    exact h4.use
theorem call58_ {K : Int → Mem → Prop} (h : At (dskA p d * F) M) (hK : ∀ M', At (dskA p d * F) M' → K 0 M') :
    call 58 [ptr (some (p, 0))] X (fun v_ M => ∃ r : Int, v_ = .int .i64 r ∧ K r M) M := by
  refine br58 (K := K) ?_
  unfold S58
  refine call120_ (ns := []) (s := ⟨none, 0, 0⟩) h (fun M' h' => rfl) rfl (by decide) (by intro x hx; cases hx) (by intro h; cases h) fun M1 h1 => iteF rfl ?_
  obtain ⟨g, hd, h3⟩ := dsk_open h1
  have l2 := hd.ok.lim2
  have lb := hd.ok.big
  unfold dcells at h3
  refine nn_ (ldP_ h3 rfl (call122_ (h3.pick (A := rowA g.nb)) hd.ok.srt (by omega) fun r M4 h4 => st2_ h4 fun M5 h5 => st3_ h5 fun M6 h6 => hK M6 ?_))
  refine dsk_close { g with sb := r, sl := d.now, ch := ⟨none, 0, 0⟩, chv := [] } ⟨hd.ok, hd.len, Nat.zero_le _⟩ ?_
  simp only [dcells, arr_nil, tt_star]
  exact h6.use
theorem call16_ {n : ByteArray} {K : Sl → Int → Mem → Prop} (h : At (dskA p d * F) M) (h1 : ∀ i r M', rget d.now n = some i → At (arr r 5 1 (cb (d.dataAt i)) * (dskA p d * F)) M' → K r 0 M') (h2 : rget d.now n = none → K ⟨none, 0, 0⟩ 3 M) :
    call 16 [ptr (some (p, 0)), .string n] X (fun v_ M => ∃ (r : Sl) (q : Int), v_ = .tuple #[Sl.v r, .int .i64 q] ∧ K r q M) M := by
  refine br16 (K := K) ?_
  unfold S16
  obtain ⟨g, hd, h3⟩ := dsk_open h
  have hfl := fcells_len g.fs
  have hfn := hd.len
  unfold dcells at h3
  refine call63o (d := d) (fcs := fcells g.fs) hd.ok h3 (by omega) (fun i b hi hfb => iteF rfl (nn_ ?_)) (fun hi => iteT rfl (h2 hi))
  obtain ⟨i0, i1⟩ := idx_lt hd.ok hi
  obtain ⟨s, m, l, f1, f2, f3, f4, f5⟩ := file_at (i := i) (G := cl p (115, dcells d g) * (arr g.fl 135 2 (fcells g.fs) * (rowA g.nb d.now * (rowA g.sb g.sl * (arr g.ch 221 3 g.chv * F))))) hd (h3.cast (by unfold dcells; ac_rfl)) i0 (by omega)
  have hsz := hd.ok.sz l (List.mem_of_getElem? f2)
  refine ldLq (arr_cel 135 2 h3 hfb (by simpa using f3)) ?_
  have hda : d.dataAt i = l := by simp [DS.dataAt, f2]
  have hbs := f4.byt (s := s)
  refine br64 (K := fun r M' => K r 0 M') (c64 hbs (by omega) fun r M' g1 g2 g3 => h1 i r M' hi ?_)
  rw [hda]
  rcases g3 with rfl | ⟨b', g3, g4⟩
  · have h0 : l = [] := List.length_eq_zero_iff.1 g1.len.symm
    subst h0
    have : arr ⟨none, 0, 0⟩ 5 1 (cb []) = tt := arr_nil
    rw [this, tt_star]; exact h.sub g2
  · exact h.of_OR g3 g4 g2

/-! ### Append -/
/-- An append to a shared slice that is full. -/
theorem app_shared {s x : Sl} {l l2 : List UInt8} {κ : Sl → Mem → Prop} (h : At H M) (hs : Ent H (bs s l)) (hc : s.c = s.n) (hx : BS M x l2) (hl : l.length + l2.length ≤ 1000000000)
    (hκ : ∀ r M', At (bs r (l ++ l2) * H) M' → κ r M') : appS 5 1 1 [.int .u8 0] s x κ M := by
  have h2 : At (bs s l * H) M := h.dup hs (pers_bs s l)
  have hb := h2.byt (s := s)
  have e1 := hb.len
  have e2 := hx.len
  by_cases h0 : x.n = 0
  · have hl2 : l2 = [] := List.length_eq_zero_iff.1 (by omega)
    subst hl2
    refine ⟨cb l, [], hb.rd, by rw [cb_length]; omega, ?_, by simp [h0], by simp, by omega, by omega, fun _ => .inl ⟨rfl, ?_⟩, fun hcc => absurd hcc (by omega)⟩
    · exact hx.rd
    · have : (⟨s.a, s.n + x.n, s.c⟩ : Sl) = s := by obtain ⟨a, n, c⟩ := s; simp [h0]
      rw [this]
      refine hκ s M ?_
      rw [List.append_nil]; exact h2
  · refine app_fresh (vs := cb l) (news := cb l2) hb.rd (by rw [cb_length]; omega) rfl hx.rd (by rw [cb_length]; omega) cb_one (by omega) (by omega) (by omega) fun r b M' g1 g2 g3 g4 => hκ r M' ?_
    have hsub : Sub M M' := fun c o hc => by rw [g4 c (fun h => by rw [h, g3] at hc; cases hc)]; exact hc
    have g5 : At (arr r 5 1 (cb l ++ cb l2) * H) M' := h.of_OR g1 g3 hsub
    rw [← cb_app] at g5
    exact g5.share
theorem append_ok {n : Nat} {l : List UInt8} (hd : d.Ok) (hl : l.length ≤ 1048576) : ({ d with fd := d.fd.set n l } : DS).Ok :=
  ⟨hd.srt, fun x hx => by have := hd.inj x hx; simp; omega, by have := hd.lim1; simp; omega, hd.lim2, hd.big, fun x hx => by
    rcases List.mem_or_eq_of_mem_set hx with h | h
    · exact hd.sz x h
    · rw [h]; exact hl, hd.qok⟩
theorem call127_ {n : ByteArray} {s2 : Sl} {b2 : List UInt8} {K : Int → Mem → Prop} (h : At (dskA p d * F) M) (hz : n.size ≤ 9223372036854775807) [kb : Knb F s2 b2] (hb2 : b2.length ≤ 900000000) (hK : ∀ M', At (dskA p (d.append n b2).2 * F) M' → K (d.append n b2).1 M') :
    call 127 [ptr (some (p, 0)), .string n, Sl.v s2] X (fun v_ M => ∃ r : Int, v_ = .int .i64 r ∧ K r M) M := by
  refine br127 (K := K) ?_
  have hs2 := (h.r.byt (s := s2)).len
  unfold S127
  refine begin1 h hz fun M1 h1 => ite_ (fun hc => ?_) (fun hc => ?_)
  · have hc' : dchk d true [n] ≠ 0 := by simpa using hc
    have := hK M1
    rw [DS.append, if_pos hc'] at this
    exact this h1
  · have hc' : ¬ (dchk d true [n] ≠ 0) := by simpa using hc
    rw [DS.append, if_neg hc'] at hK
    obtain ⟨hm, i, hi⟩ := dchk_zero (Classical.not_not.1 hc')
    obtain ⟨g, hd, h3⟩ := dsk_open h1
    have hfl := fcells_len g.fs
    have hfn := hd.len
    have hq := hd.ok.qok
    have hlim2 := hd.ok.lim2
    have hbig := hd.ok.big
    obtain ⟨i0, i1⟩ := idx_lt hd.ok hi
    have hu := usedOf_le hd.ok d.now
    unfold dcells at h3
    refine call63o (d := d) (fcs := fcells g.fs) hd.ok h3 (by omega) (fun j b hj hfb => nn_ ?_) (fun hn => by rw [hi] at hn; cases hn)
    rw [hi] at hj; cases hj
    obtain ⟨s, m, l, f1, f2, f3, f4, f5⟩ := file_at (i := i) (G := cl p (115, dcells d g) * (arr g.fl 135 2 (fcells g.fs) * (rowA g.nb d.now * (rowA g.sb g.sl * (arr g.ch 221 3 g.chv * F))))) hd (h3.cast (by unfold dcells; ac_rfl)) i0 (by omega)
    have hsz := hd.ok.sz l (List.mem_of_getElem? f2)
    have hda : d.dataAt i = l := by simp [DS.dataAt, f2]
    rw [hi] at hK
    simp only [Option.getD_some, hda] at hK
    refine ldLq (arr_cel 135 2 h3 hfb (by simpa using f3)) (ite_ (fun hbigc => ?_) (fun hbigc => ?_))
    · have : 1048576 < l.length + b2.length := by
        have := of_decide_eq_true hbigc
        rw [w64 (by omega) (by omega)] at this; omega
      rw [if_pos this] at hK
      exact hK M1 h1
    · have hno : ¬ (1048576 < l.length + b2.length) := by
        have := of_decide_eq_false hbigc
        rw [w64 (by omega) (by omega)] at this; omega
      rw [if_neg hno] at hK
      have fin : ∀ M4 q, q = decide (d.q < d.used + b2.length) → At (cl p (115, dcells d g) * (arr g.fl 135 2 (fcells g.fs) * (bss (g.fs.map (·.1)) d.fd * (rowA g.nb d.now * (rowA g.sb g.sl * (arr g.ch 221 3 g.chv * F)))))) M4 → S127_1 (some (p, 0)) s2 (some (b, i.toNat * 2)) q K X M4 := by
        intro M4 q hqq k3
        unfold S127_1
        have k0 := k3
        unfold dcells at k3
        have hcel := arr_cel (v := Sl.v s) 135 2 k3 hfb (by simpa using f3)
        refine ite_ (fun hqt => ?_) (fun hqf => ?_)
        · rw [hqt] at hqq
          rw [if_pos (of_decide_eq_true hqq.symm)] at hK
          exact nn_ (st5_ k3 fun M5 h5 => hK M5 (dsk_close { g with full := true } ⟨hd.ok, hd.len, hd.chl⟩ (by simp only [dcells]; exact h5.use)))
        · rw [hqf] at hqq
          rw [if_neg (of_decide_eq_false hqq.symm)] at hK
          have f4' := At.bssget (k := i.toNat) (s := s) (l := l) (k0.cast (G := bss (g.fs.map (·.1)) d.fd * (cl p (115, dcells d g) * (arr g.fl 135 2 (fcells g.fs) * (rowA g.nb d.now * (rowA g.sb g.sl * (arr g.ch 221 3 g.chv * F)))))) (by ac_rfl)) (by rw [List.getElem?_map, f1]; rfl) f2
          have hbs := f4'.byt (s := s)
          have hcap := hbs.cap
          refine nn_ (ldLq hcel (ldLq hcel (ldLq hcel (must_ ⟨Int.le_refl _, by omega, Int.le_refl _, by omega⟩ ?_))))
          refine app_shared (l := l) (l2 := b2) k3 (fun m hm => ?_) (by simp [Sl.cut]) (k3.byt (s := s2)) (by omega) fun r M5 h5 => st_arr 135 2 h5 hfb (by omega) fun M6 h6 => hK M6 ?_
          · have hm2 : (bss (g.fs.map (·.1)) d.fd).P m := (Ent.l _ _) _ ((Ent.r _ _) _ ((Ent.r _ _) _ hm))
            have hm3 : BS (erm (shp m)) s l := bss_get (k := i.toNat) (by rw [List.getElem?_map, f1]; rfl) f2 m hm2
            have hcut := hm3.cut (lo := 0) (hi := s.n) (mx := s.n) (Int.le_refl _) (by omega) (by omega) (Int.le_refl _) (by omega)
            have e1 : ((l.drop (0 : Int).toNat).take ((s.n : Int).toNat - (0 : Int).toNat)) = l := by simp [f5]
            rw [e1] at hcut; exact hcut
          · rw [(fcells_set (s' := r) (n' := 0) f1).1] at h6
            refine dsk_close { g with fs := g.fs.set i.toNat (r, m) } ⟨append_ok hd.ok (by simp; omega), by simp [hd.len], hd.chl⟩ ?_
            simp only [dcells, List.map_set]
            have h7 : At (bs r (l ++ b2) * bss (g.fs.map (·.1)) d.fd * (cl p (115, [Sl.v g.fl, ptr (some (g.nb, 0)), ptr (some (g.sb, 0)), Sl.v g.ch, vi d.q, .bool g.full, .bool false, vi (-1), vi g.calls]) * (arr g.fl 135 2 (fcells (g.fs.set i.toNat (r, m))) * (rowA g.nb d.now * (rowA g.sb g.sl * (arr g.ch 221 3 g.chv * F)))))) M6 := h6.use
            exact At.use (H := bss ((g.fs.map (·.1)).set i.toNat r) (d.fd.set i.toNat (l ++ b2)) * _) (h7.imp (Ent.star bss_set (Ent.refl _)))
      have hu1 : (d.used : Int) ≤ 1000000000000000 := by
        have : d.used ≤ d.now.length * 1048576 := hu
        omega
      have hdec : decide ((s2.n : Int) > IntKind.wrap .i64 (d.q - d.used)) = decide (d.q < d.used + b2.length) := by
        rw [w64 (by omega) (by omega)]
        exact decide_eq_decide.2 ⟨fun h => by omega, fun h => by omega⟩
      refine nn_ (both_ (ldI_ h3 rfl (call205o hd (by unfold dcells; exact h3) fun M4 h4 => fin M4 _ hdec h4)) (call205o hd (by unfold dcells; exact h3) fun M4 h4 => ldI_ (b := p) (t := 115) (vs := dcells d g) h4 rfl (fin M4 _ hdec h4)))
end
end Go.Proofs.YtdndpmlapcbjaaaGreat

namespace Go.Proofs.YtdndpmlapcbjaaaGreat
open Go Go.RowKit
set_option linter.unusedSimpArgs false
set_option linter.unusedVariables false

def DS.view (d : DS) : List (ByteArray × List UInt8) := d.now.map fun x => (x.1, d.dataAt x.2)
def ecells (as_ : List (ByteArray × Sl)) : List Value := as_.flatMap fun x => [Value.string x.1, Sl.v x.2]
theorem ecells_len (fs : List (ByteArray × Sl)) : (ecells fs).length = 2 * fs.length := by
  induction fs with
  | nil => rfl
  | cons x fs ih => simp only [ecells, List.flatMap_cons, List.length_append, List.length_cons, List.length_nil] at ih ⊢; omega
theorem ecells_at : ∀ {fs : List (ByteArray × Sl)} {k : Nat} {n : ByteArray} {s : Sl}, fs[k]? = some (n, s) → (ecells fs)[k * 2 + 0]? = some (.string n) ∧ (ecells fs)[k * 2 + 1]? = some (Sl.v s) := by
  intro fs
  induction fs with
  | nil => intro k s n h; cases h
  | cons x fs ih =>
    intro k n s h
    cases k with
    | zero => cases h; exact ⟨rfl, rfl⟩
    | succ k =>
      have := ih (k := k) (by simpa using h)
      have e : ∀ j, (ecells (x :: fs))[(k + 1) * 2 + j]? = (ecells fs)[k * 2 + j]? := by
        intro j
        have : (k + 1) * 2 + j = (k * 2 + j) + 1 + 1 := by omega
        rw [this]; rfl
      rw [e, e]; exact this
theorem sts2_ {b t : Nat} {a0 a1 v0 v1 : Value} {F H : HP} {M : Mem} {κ : Mem → Prop} (h : At H M) [hp : Pick (cl b) H (t, [a0, a1]) F] (hκ : ∀ M', At (cl b (t, [v0, v1]) * F) M' → κ M') : sts (b, 0) [v0, v1] κ M := by
  have hA : At (cl b (t, [a0, a1]) * F) M := h.cast hp.eq
  have hB : M b = some (.cells [a0, a1].toArray t (0, 0)) := At.blk hA
  refine ⟨fun j hj => ⟨_, _, _, hB, by simp at hj ⊢; exact hj, by simp⟩, ?_⟩
  rw [stos_upd [v0, v1] M [a0, a1] 0 hB]
  exact hκ _ (At.upd hA _)

section
variable {p : Nat} {d : DS} {F H : HP} {M : Mem} {X : List PanicEntry → Mem → Prop}
/-- Disk.Each, as it is ranged over; no round stops it. -/
theorem it116 {σ : Type} {y : Value} {b1 : Nat} (C : σ → HP) (R : σ → Nat → Prop) {K : Mem → Prop} {C1 : HP} {x0 : σ} (h : At (cl b1 (26, [ptr (some (p, 0))]) * C x0) M) (hC : C x0 = dskA p d * C1) (hR : R x0 0)
    (step : ∀ x i n l s M G (κ : Value → Mem → Prop), R x i → d.view[i]? = some (n, l) → At (bs s l * (C x * G)) M → (∀ x' M', R x' (i + 1) → At (C x' * G) M' → κ (.bool true) M') → callV y [.string n, Sl.v s] X κ M)
    (fin : ∀ x M, R x d.view.length → At (C x) M → K M) : S116 y (some (b1, 0)) K X M := by
  have h0 : At (dskA p d * (C1 * cl b1 (26, [ptr (some (p, 0))]))) M := h.cast (by rw [hC]; ac_rfl)
  obtain ⟨g, hd, h1⟩ := dsk_open h0
  have hok := hd.ok
  have hlim2 := hd.ok.lim2
  have hbig := hd.ok.big
  have hfl := fcells_len g.fs
  have hfn := hd.len
  unfold dcells at h1
  unfold S116
  refine nn_ (ldP_ h1 rfl (iteF rfl (newc_ h1 fun b5 M2 h2 => ldP_ h2 rfl (nn_ (ldP_ h2 rfl (call117_ h2 fun c1 c2 M4 h4 => ?_))))))
  unfold S116_1
  refine rngRow (σ := Sl × List (ByteArray × Sl) × List (List UInt8)) (fun x => cl b5 (49, [Sl.v x.1]) * (arr x.1 141 2 (ecells x.2.1) * (bss (x.2.1.map (·.2)) x.2.2 * (cl b1 (26, [ptr (some (p, 0))]) *
      (cl p (115, [Sl.v g.fl, ptr (some (g.nb, 0)), ptr (some (g.sb, 0)), Sl.v g.ch, vi d.q, .bool g.full, .bool false, vi (-1), vi g.calls]) * (arr g.fl 135 2 (fcells g.fs) * (bss (g.fs.map (·.1)) d.fd * (rowA g.nb d.now * (rowA g.sb g.sl * (arr g.ch 221 3 g.chv * C1))))))))))
    (fun x i => x.2.1.map (·.1) = (d.now.take i).map (·.1) ∧ x.2.2 = (d.now.take i).map (fun z => d.dataAt z.2) ∧ x.2.1.length = x.2.2.length) (x0 := (⟨none, 0, 0⟩, [], [])) ?_ ⟨rfl, rfl, rfl⟩ (h4.cel (b := c1) rfl) (h4.cel (b := c2) rfl) (h4.pick (A := rowA g.nb)) (by omega) ?_ ?_
  · simp only [ecells, List.flatMap_nil, arr_nil, bss, List.map_nil, tt_star]
    exact h4.use
  · rintro ⟨r, as_, dls⟩ i k v M5 G nx rt ⟨e1, e2, e3⟩ hkv h5 hnx
    simp only at e1 e2 e3 h5
    refine ⟨k, v, rfl, ?_⟩
    unfold S116_1b
    obtain ⟨v0, v1⟩ := hok.inj _ (List.mem_of_getElem? hkv)
    simp only at v0 v1
    obtain ⟨s, n, l, f1, f2, f3, f4, f5⟩ := file_at (i := v) (G := cl b5 (49, [Sl.v r]) * (arr r 141 2 (ecells as_) * (bss (as_.map (·.2)) dls * (cl b1 (26, [ptr (some (p, 0))]) *
      (cl p (115, [Sl.v g.fl, ptr (some (g.nb, 0)), ptr (some (g.sb, 0)), Sl.v g.ch, vi d.q, .bool g.full, .bool false, vi (-1), vi g.calls]) * (arr g.fl 135 2 (fcells g.fs) * (rowA g.nb d.now * (rowA g.sb g.sl * (arr g.ch 221 3 g.chv * (C1 * G)))))))))) hd (h5.cast (by ac_rfl)) v0 v1
    have hal := (h5.pick (A := arr g.fl 135 2)).arr_len.1
    have hrl := (h5.pick (A := arr r 141 2)).arr_len.1
    rw [ecells_len] at hrl
    have hsz := hok.sz l (List.mem_of_getElem? f2)
    have hil : (d.now.take i).length ≤ d.now.length := by simp; omega
    have hasl : as_.length = (d.now.take i).length := by rw [e3, e2, List.length_map]
    refine ldL_ h5 rfl (nn_ (ldP_ h5 rfl (nn_ (ldL_ h5 rfl (ix_ 135 h5 v0 (by omega) fun q hq => ldLq (by have := hq 0 _ f3; simpa using this) (callK64_ (l := l) f4 (by omega) fun r7 M7 h7 => newc_ h7.share fun b33 M8 h8 => ?_))))))
    refine arr_app (s := r) (vs := ecells as_) (x := ⟨some (b33, 0), 1, 1⟩) (news := [.string k, Sl.v r7]) h8 rfl ?_ rfl ?_ ?_ ?_ fun r9 M9 h9 hn9 => st0_ h9 fun M10 h10 => hnx (r9, as_ ++ [(k, r7)], dls ++ [l]) M10 ⟨?_, ?_, ?_⟩ ?_
    · intro j w hw
      match j, hw with
      | 0, hw => cases hw; exact h8.cel (b := b33) rfl
      | 1, hw => cases hw; exact h8.cel (b := b33) rfl
    · intro w hw; simp at hw; rcases hw with rfl | rfl <;> rfl
    · simp only; omega
    · simp only; omega
    · rw [List.take_add_one, hkv]; simp [e1]
    · rw [List.take_add_one, hkv]; simp [e2, DS.dataAt, f2]
    · simp [e3]
    · have e4 : ecells (as_ ++ [(k, r7)]) = ecells as_ ++ [.string k, Sl.v r7] := by simp [ecells]
      simp only [e4, List.map_append, List.map_cons, List.map_nil]
      rw [bss_snoc (by simp [e3])]
      exact h10.use
  · rintro ⟨r, as_, dls⟩ M5 ⟨e1, e2, e3⟩ h5
    simp only at e1 e2 e3 h5
    rw [List.take_length] at e1 e2
    have hal : as_.length = d.now.length := by rw [e3, e2, List.length_map]
    have hrl := (h5.pick (A := arr r 141 2)).arr_len.1
    rw [ecells_len] at hrl
    have hvl : d.view.length = d.now.length := by simp [DS.view]
    refine ldL_ h5 rfl ?_
    have h6 : At (dskA p d * (C1 * (cl b5 (49, [Sl.v r]) * (arr r 141 2 (ecells as_) * (bss (as_.map (·.2)) dls * cl b1 (26, [ptr (some (p, 0))])))))) M5 := dsk_close g hd (by unfold dcells; exact h5.use)
    have h7 : At (C x0 * (arr r 141 2 (ecells as_) * bss (as_.map (·.2)) dls)) M5 := by rw [hC]; exact h6.use
    unfold S116_3
    refine Lp_of (σ := Int) (fun i M' => 0 ≤ i ∧ i ≤ as_.length ∧ ∃ x, R x i.toNat ∧ At (C x * (arr r 141 2 (ecells as_) * bss (as_.map (·.2)) dls)) M') (fun i => as_.length - i.toNat) ?_ ⟨Int.le_refl _, Int.natCast_nonneg _, x0, hR, h7⟩
    rintro i M' next ⟨i0, i1, x, hx, h8⟩ hnx
    unfold S116_3b
    refine ite_ (fun hc => ?_) (fun hc => ?_)
    · have hlt : i < as_.length := by have := of_decide_eq_true hc; omega
      obtain ⟨⟨n, s⟩, hns⟩ : ∃ kv, as_[i.toNat]? = some kv := ⟨_, List.getElem?_eq_getElem (by omega)⟩
      obtain ⟨z, hz⟩ : ∃ z, d.now[i.toNat]? = some z := ⟨_, List.getElem?_eq_getElem (by omega)⟩
      have en : n = z.1 := by
        have : (as_.map (·.1))[i.toNat]? = (d.now.map (·.1))[i.toNat]? := by rw [e1]
        rw [List.getElem?_map, List.getElem?_map, hns, hz] at this
        simpa using this
      have hview : d.view[i.toNat]? = some (n, d.dataAt z.2) := by
        rw [DS.view, List.getElem?_map, hz, en]; rfl
      have hdl : dls[i.toNat]? = some (d.dataAt z.2) := by rw [e2, List.getElem?_map, hz]; rfl
      obtain ⟨c0, c1⟩ := ecells_at hns
      refine ix_ 141 h8 i0 (by omega) fun q hq => ldSq (by have := hq 0 _ c0; simpa using this) (ldLq (hq 1 _ c1) (newc_ h8 fun b45 M9 h9 => sts2_ h9 fun M10 h10 => ldS_ h10 rfl (ldL_ h10 rfl ?_)))
      have h11 : At (bs s (d.dataAt z.2) * (C x * (arr r 141 2 (ecells as_) * (bss (as_.map (·.2)) dls * cl b45 (141, [.string n, Sl.v s]))))) M10 :=
        (At.bssget (k := i.toNat) (s := s) (l := d.dataAt z.2) (h10.cast (G := bss (as_.map (·.2)) dls * (C x * (arr r 141 2 (ecells as_) * cl b45 (141, [.string n, Sl.v s])))) (by ac_rfl)) (by rw [List.getElem?_map, hns]; rfl) hdl).cast (by ac_rfl)
      refine step x i.toNat n _ s M10 _ _ hx hview h11 fun x' M11 hx' h12 => ⟨true, rfl, iteF rfl ?_⟩
      rw [w64 (by omega) (by omega)]
      refine hnx _ _ ⟨by omega, by omega, x', ?_, h12.use⟩ (by omega)
      have : (i + 1).toNat = i.toNat + 1 := by omega
      rw [this]; exact hx'
    · have hge : i = as_.length := by have := of_decide_eq_false hc; omega
      subst hge
      unfold S116_2
      exact fin x M' (by rw [hvl, ← hal]; simpa using hx) h8.l
theorem call54_ {κ : Value → Mem → Prop} (h : At H M) (hκ : ∀ b1 M', At (cl b1 (26, [ptr (some (p, 0))]) * H) M' → κ (.func (.func 116) #[] #[ptr (some (b1, 0))]) M') :
    call 54 [ptr (some (p, 0))] X (fun v_ M => ∃ r : Value, v_ = r ∧ κ r M) M := by
  refine br54 (K := κ) ?_
  unfold S54
  exact newc_ h fun b1 M1 h1 => hκ b1 M1 h1
/-- A range over a disk. -/
theorem rngDisk {σ : Type} {b1 : Nat} {body : List Value → (Mem → Prop) → (Code → Mem → Prop) → Mem → Prop} {κ : Mem → Prop} {κj : Code → Mem → Prop} (C : σ → HP) (R : σ → Nat → Prop) {C1 : HP} {x0 : σ}
    (h : At (cl b1 (26, [ptr (some (p, 0))]) * C x0) M) (hC : C x0 = dskA p d * C1) (hR : R x0 0)
    (step : ∀ x i n l s M G (nx : Mem → Prop) (rt : Code → Mem → Prop), R x i → d.view[i]? = some (n, l) → At (bs s l * (C x * G)) M → (∀ x' M', R x' (i + 1) → At (C x' * G) M' → nx M') → body [.string n, Sl.v s] nx rt M)
    (fin : ∀ x M, R x d.view.length → At (C x) M → κ M) : rng (.func (.func 116) #[] #[ptr (some (b1, 0))]) 2 body κ κj M := by
  refine ⟨116, [ptr (some (b1, 0))], rfl, Tryz.call116, fun y l_ oR oD hl law => ?_⟩
  refine br116 (it116 (p := p) (d := d) (C1 := bl l_ oR * C1) (x0 := x0) (fun x => bl l_ oR * C x) R ?_ (by rw [hC, sm_left]) hR ?_ ?_)
  · exact (h.new hl oR).use
  · intro x i n l s M' G κ' hx hkv h' hκ'
    have h2 : At (bl l_ oR * (bs s l * (C x * G))) M' := h'.cast (by ac_rfl)
    refine law _ κ' M' rfl h2.blk (step x i n l s _ G _ _ hx hkv h2.del fun x' M3 hx' h3 hl3 => hκ' x' _ hx' ?_)
    exact (h3.new hl3 oR).cast (by ac_rfl)
  · intro x M' hx h'
    exact rfin h' fun M2 h2 => fin x M2 hx h2

theorem call53_ {K : Bool → Mem → Prop} (h : At (dskA p d * F) M) (hK : K false M) : call 53 [ptr (some (p, 0))] X (fun v_ M => ∃ r : Bool, v_ = .bool r ∧ K r M) M := by
  refine br53 (K := K) ?_
  obtain ⟨g, hd, h1⟩ := dsk_open h
  unfold dcells at h1
  unfold S53
  exact iteF rfl (nn_ (ldB_ (s := false) h1 rfl hK))
def DS.empty (q : Int) : DS := ⟨[], [], q, 0⟩
theorem call11_ {q : Int} {K : Option PA → Mem → Prop} (h : At H M) (h0 : 0 ≤ q) (h1 : q ≤ 1000000000) (hK : ∀ p M', At (dskA p (DS.empty q) * H) M' → K (some (p, 0)) M') :
    call 11 [.int .i64 q] X (fun v_ M => ∃ r : Option PA, v_ = ptr r ∧ K r M) M := by
  refine br11 (K := K) ?_
  unfold S11
  refine newc_ h fun b1 M1 h2 => newc_ (row_new h2) fun b2 M2 h3 => newc_ (row_new h3) fun b3 M3 h4 => hK b3 M3 ?_
  have e : (if (0 : Int) > q then 0 else q) = q := if_neg (by omega)
  rw [e] at h4
  refine dsk_close ⟨⟨none, 0, 0⟩, b1, b2, ⟨none, 0, 0⟩, [], [], [], false, 0⟩ ⟨⟨List.Pairwise.nil, (fun x hx => by cases hx), Nat.le_refl _, Nat.le_refl _, by simp [DS.empty], (fun x hx => by cases hx), h0, h1⟩, rfl, Nat.zero_le _⟩ ?_
  simp only [dcells, DS.empty, fcells, List.flatMap_nil, arr_nil, List.map_nil, bss, tt_star]
  exact h4.use

/-- Disk.List. -/
theorem call14_ {K : Sl → Mem → Prop} (h : At (dskA p d * F) M) (hK : ∀ r M', At (arr r 9 1 (d.now.map fun x => Value.string x.1) * (dskA p d * F)) M' → K r M') :
    call 14 [ptr (some (p, 0))] X (fun v_ M => ∃ r : Sl, v_ = Sl.v r ∧ K r M) M := by
  refine br14 (K := K) ?_
  have hok := dskA_ok h
  have hl2 := hok.lim2
  have hbig := hok.big
  unfold S14
  refine newc_ h fun b1 M1 h1 => call54_ (p := p) h1 fun c1 M2 h2 => ?_
  unfold S14_1
  have hvl : d.view.length = d.now.length := by simp [DS.view]
  refine rngDisk (p := p) (d := d) (σ := Sl × List Value) (fun x => dskA p d * (cl b1 (36, [Sl.v x.1]) * (arr x.1 9 1 x.2 * F))) (fun x i => x.2 = (d.now.take i).map fun x => Value.string x.1) (C1 := cl b1 (36, [Sl.v ⟨none, 0, 0⟩]) * (arr ⟨none, 0, 0⟩ 9 1 [] * F)) (x0 := (⟨none, 0, 0⟩, [])) ?_ rfl rfl ?_ ?_
  · simp only [arr_nil, tt_star]; exact h2.use
  · rintro ⟨r, vs⟩ i n l s M5 G nx rt e hv h5 hnx
    simp only at e h5
    refine ⟨n, s, rfl, ?_⟩
    unfold S14_1b
    have hi := (List.getElem?_eq_some_iff.1 hv).1
    rw [hvl] at hi
    have hrl := (h5.pick (A := arr r 9 1)).arr_len.1
    have hvsl : vs.length = (d.now.take i).length := by rw [e, List.length_map]
    have hil : (d.now.take i).length ≤ d.now.length := by simp; omega
    refine ldL_ h5 rfl (newc_ h5 fun b7 M6 h6 => ?_)
    refine arr_app (s := r) (vs := vs) (x := ⟨some (b7, 0), 1, 1⟩) (news := [.string n]) h6 rfl ?_ rfl ?_ ?_ ?_ fun r9 M9 h9 hn9 => st0_ h9 fun M10 h10 => hnx (r9, vs ++ [.string n]) M10 ?_ h10.use
    · intro j w hw
      match j, hw with
      | 0, hw => cases hw; exact h6.cel (b := b7) rfl
    · intro w hw; simp at hw; subst hw; rfl
    · simp only; omega
    · simp only; omega
    · have hz : ∃ z, d.now[i]? = some z ∧ z.1 = n := by
        rw [DS.view, List.getElem?_map] at hv
        obtain ⟨z, hz, e⟩ := Option.map_eq_some_iff.1 hv
        exact ⟨z, hz, (Prod.mk.inj e).1⟩
      obtain ⟨z, hz, rfl⟩ := hz
      rw [List.take_add_one, hz]; simp [e]
  · rintro ⟨r, vs⟩ M5 e h5
    simp only at e h5
    rw [hvl, List.take_length] at e
    subst e
    exact ldL_ h5 rfl (st0_ h5 fun M6 h6 => ldL_ h6 rfl (hK r M6 h6.use))
end
end Go.Proofs.YtdndpmlapcbjaaaGreat

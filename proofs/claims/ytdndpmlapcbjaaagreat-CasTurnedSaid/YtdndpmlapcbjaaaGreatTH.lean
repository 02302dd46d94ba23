/- Parts of the proof: Assertions, part m: digest; schedule, block, blocks. Assertions, part n: digest; block, blocks. Assertions, part o: digest; Hash, Sha, Name. Assertions, part p: digest.Sha, word.Hex, digest.Name, cas.FileOf. Assertions, part q: cas; FileOf, isSound, all. Assertions, part r: cas; find, free, write. Assertions, part s: cas; free, write, Put, Get, Drop. Assertions, part t: what rows say; cas.Open. Plain, part a: names that may be; what a write does to a disk. Plain, part b: an entry is parsed as what it was made of. Plain, part c: the document's example. Plain, part d: a turned byte is seen by the sum. Plain, part e: what the store keeps while things are put; a turned byte. Assertions, part u: the document's example; CasNobody. Assertions, part v: what is handed in as things to do, cut; Disk.Turn. -/
import Derived.Test.YtdndpmlapcbjaaaGreatTG
import Derived.Test.YtdndpmlapcbjaaaGreatTF
namespace Go.Proofs.YtdndpmlapcbjaaaGreat
open Go Go.RowKit
set_option linter.unusedSimpArgs false
set_option linter.unusedVariables false

/-- f at i, i + 1, .., n times. -/
def iter {α : Type} (f : Nat → α → α) : Nat → Nat → α → α
  | _, 0, a => a
  | i, n + 1, a => iter f (i + 1) n (f i a)
abbrev u32s (l : List Int) : List Value := l.map (Value.int .u32)

section
variable {F H : HP} {M : Mem} {b t n : Nat} {vs xs : List Value}
theorem ldA_ {κ : List Value → Mem → Prop} (h : At H M) [Pick (cl b) H (t, vs) F] (hl : vs.length = n) (hκ : κ vs M) : ldA n (b, 0) κ M :=
  ⟨vs, hl, fun i v hv => by have := h.cel (b := b) (off := i) hv; simpa using this, hκ⟩
theorem stA_ {κ : Mem → Prop} (h : At H M) [hp : Pick (cl b) H (t, vs) F] (hl : vs.length = n) (hx : xs.length = n) (h1 : ∀ v ∈ xs, v.oneCell' = true) (hκ : ∀ M', At (cl b (t, xs) * F) M' → κ M') : stA n (b, 0) xs κ M := by
  have hA : At (cl b (t, vs) * F) M := h.cast hp.eq
  have hB : M b = some (.cells vs.toArray t (0, 0)) := At.blk hA
  refine ⟨hx, h1, fun j hj => ⟨_, _, _, hB, by simp; omega, by simp⟩, ?_⟩
  rw [stos_upd xs M vs 0 hB, putL_eq _ _ _ (by omega)]
  have e : vs.take 0 ++ xs ++ vs.drop (0 + xs.length) = xs := by
    rw [List.drop_of_length_le (by omega)]; simp
  rw [e]
  exact hκ _ (At.upd hA _)
theorem sts8_ {a0 a1 a2 a3 a4 a5 a6 a7 v0 v1 v2 v3 v4 v5 v6 v7 : Value} {l : List Value} {κ : Mem → Prop} (h : At H M) [hp : Pick (cl b) H (t, a0 :: a1 :: a2 :: a3 :: a4 :: a5 :: a6 :: a7 :: l) F] (hκ : ∀ M', At (cl b (t, v0 :: v1 :: v2 :: v3 :: v4 :: v5 :: v6 :: v7 :: l) * F) M' → κ M') :
    sts (b, 0) [v0, v1, v2, v3, v4, v5, v6, v7] κ M := by
  have hA : At (cl b (t, a0 :: a1 :: a2 :: a3 :: a4 :: a5 :: a6 :: a7 :: l) * F) M := h.cast hp.eq
  have hB : M b = some (.cells (a0 :: a1 :: a2 :: a3 :: a4 :: a5 :: a6 :: a7 :: l).toArray t (0, 0)) := At.blk hA
  refine ⟨fun j hj => ⟨_, _, _, hB, by simp at hj ⊢; omega, by simp⟩, ?_⟩
  rw [stos_upd _ M _ 0 hB]
  exact hκ _ (At.upd hA _)
theorem ixA_ {i : Int} {κ : PA → Mem → Prop} {k : Nat} (h0 : 0 ≤ i) (h1 : i < n) (hκ : κ (b, i.toNat) M) (hk : k = 1) : ixA (b, 0) n k i κ M := by
  subst hk
  refine ⟨h0, h1, ?_⟩
  have : ((b, 0).1, (b, 0).2 + i.toNat * 1) = (b, i.toNat) := by simp
  rw [this]; exact hκ
end

def rot (x n : Int) : Int := ior .u32 (ishr .u32 x n) (ishl .u32 x (32 - n))
theorem callK394_ {x n : Int} {κ : Int → Mem → Prop} {M : Mem} (h0 : 0 ≤ n) (h1 : n ≤ 32) (h : κ (rot x n) M) : callK 394 [.int .u32 x, .int .i64 n] (fun v_ M => ∃ r : Int, v_ = .int .u32 r ∧ κ r M) M := by
  refine (br394 (K := fun r M' => Sub M M' ∧ κ r M') ?_).mono (fun v M' ⟨r, g1, g2, g3⟩ => ⟨g2, r, g1, g3⟩) (fun _ _ h => h)
  unfold S394
  have e : IntKind.wrap .i64 (32 - n) = 32 - n := w64 (by omega) (by omega)
  rw [e]
  exact ⟨h0, by omega, Sub.refl M, h⟩

/-! ### schedule -/
def bAt (b : List UInt8) (i : Nat) : Int := ((b[i]?).map fun x => (x.toNat : Int)).getD 0
def wordBE (b : List UInt8) (i : Nat) : Int := ior .u32 (ior .u32 (ior .u32 (ishl .u32 (IntKind.wrap .u32 (bAt b (4 * i))) 24) (ishl .u32 (IntKind.wrap .u32 (bAt b (4 * i + 1))) 16)) (ishl .u32 (IntKind.wrap .u32 (bAt b (4 * i + 2))) 8)) (IntKind.wrap .u32 (bAt b (4 * i + 3)))
def wAt (w : List Int) (i : Nat) : Int := (w[i]?).getD 0
def sch1 (b : List UInt8) (i : Nat) (w : List Int) : List Int := w.set i (wordBE b i)
def sch2 (t : Nat) (w : List Int) : List Int :=
  w.set t (IntKind.wrap .u32 ((IntKind.wrap .u32 ((IntKind.wrap .u32 (wAt w (t - 16) + (ixor .u32 (ixor .u32 (rot (wAt w (t - 15)) 7) (rot (wAt w (t - 15)) 18)) (ishr .u32 (wAt w (t - 15)) 3)))) + wAt w (t - 7))) + (ixor .u32 (ixor .u32 (rot (wAt w (t - 2)) 17) (rot (wAt w (t - 2)) 19)) (ishr .u32 (wAt w (t - 2)) 10))))
def sched (b : List UInt8) : List Int := iter sch2 16 48 (iter (sch1 b) 0 16 (List.replicate 64 0))
theorem iter_len {f : Nat → List Int → List Int} (hf : ∀ i l, (f i l).length = l.length) : ∀ n i l, (iter f i n l).length = l.length := by
  intro n
  induction n with
  | zero => intro i l; rfl
  | succ n ih => intro i l; rw [iter, ih, hf]
theorem sched_len (b : List UInt8) : (sched b).length = 64 := by
  rw [sched, iter_len (fun i l => by simp [sch2]), iter_len (fun i l => by simp [sch1]), List.length_replicate]
theorem wAt_some {w : List Int} {i : Nat} (h : i < w.length) : (u32s w)[i]? = some (.int .u32 (wAt w i)) := by
  simp [wAt, h]
section
variable {F H : HP} {M : Mem} {X : List PanicEntry → Mem → Prop}
theorem u32_one (w : List Int) : ∀ v ∈ u32s w, v.oneCell' = true := fun v hv => by
  obtain ⟨x, _, rfl⟩ := List.mem_map.1 hv; rfl
theorem u32_set (w : List Int) (i : Nat) (x : Int) : (u32s w).set i (.int .u32 x) = u32s (w.set i x) := by simp [List.map_set]
theorem BS.bAt {M : Mem} {s : Sl} {l : List UInt8} (h : BS M s l) {i : Int} {κ : PA → Mem → Prop} (h0 : 0 ≤ i) (h1 : i < l.length) (hk : ∀ q, cel M q = some (.int .u8 (YtdndpmlapcbjaaaGreat.bAt l i.toNat)) → κ q M) : YtdndpmlapcbjaaaGreat.ix s 1 i κ M := by
  obtain ⟨p, hp, hc⟩ := h.at (i := i.toNat) (by omega)
  refine ⟨p, hp, h0, by have := h.len; omega, hk _ ?_⟩
  have hlt : i.toNat < l.length := by omega
  simpa [YtdndpmlapcbjaaaGreat.bAt, hlt] using hc
theorem call392_ {s : Sl} {l : List UInt8} {K : List Value → Mem → Prop} (h : At F M) [Knb F s l] (hl : l.length = 64) (hK : ∀ M', At F M' → K (u32s (sched l)) M') :
    call 392 [Sl.v s] X (fun v_ M => ∃ r : List Value, v_ = .agg r.toArray ∧ K r M) M := by
  refine br392 (K := K) ?_
  unfold S392
  refine newc_ h fun b1 M1 h1 => ?_
  unfold S392_2
  refine Lp_of (σ := Int) (fun i M' => 0 ≤ i ∧ i ≤ 16 ∧ ∃ w : List Int, w.length = 64 ∧ iter (sch1 l) i.toNat (16 - i.toNat) w = iter (sch1 l) 0 16 (List.replicate 64 0) ∧ At (cl b1 (450, u32s w) * F) M') (fun i => 16 - i.toNat) ?_
    ⟨Int.le_refl _, by decide, List.replicate 64 0, by simp, rfl, by simpa using h1⟩
  rintro i M2 next ⟨i0, i1, w, hw, hit, h2⟩ hnx
  unfold S392_2b
  have hs2 : BS M2 s l := h2.byt
  refine ite_ (fun hc => ?_) (fun hc => ?_)
  · have hlt : i < 16 := of_decide_eq_true hc
    have w1 : IntKind.wrap .i64 (4 * i) = 4 * i := w64 (by omega) (by omega)
    have w2 : IntKind.wrap .i64 (4 * i + 1) = 4 * i + 1 := w64 (by omega) (by omega)
    have w3 : IntKind.wrap .i64 (4 * i + 2) = 4 * i + 2 := w64 (by omega) (by omega)
    have w4 : IntKind.wrap .i64 (4 * i + 3) = 4 * i + 3 := w64 (by omega) (by omega)
    have w5 : IntKind.wrap .i64 (i + 1) = i + 1 := w64 (by omega) (by omega)
    rw [w1, w2, w3, w4, w5]
    refine hs2.bAt (by omega) (by omega) fun q0 hq0 => hs2.bAt (by omega) (by omega) fun q1 hq1 => hs2.bAt (by omega) (by omega) fun q2 hq2 => hs2.bAt (by omega) (by omega) fun q3 hq3 =>
      ldIq hq0 (ldIq hq1 (ldIq hq2 (ldIq hq3 (ixA_ i0 (by omega) (st_ h2 (by simp; omega) (u32_set w _ _) fun M3 h3 => hnx _ _ ⟨by omega, by omega, _, ?_, ?_, h3⟩ (by omega)) rfl))))
    · simp [hw]
    · have e1 : (4 * i).toNat = 4 * i.toNat := by omega
      have e2 : (4 * i + 1).toNat = 4 * i.toNat + 1 := by omega
      have e3 : (4 * i + 2).toNat = 4 * i.toNat + 2 := by omega
      have e4 : (4 * i + 3).toNat = 4 * i.toNat + 3 := by omega
      have e5 : (i + 1).toNat = i.toNat + 1 := by omega
      have e6 : 16 - i.toNat = (16 - (i.toNat + 1)) + 1 := by omega
      rw [e6, iter] at hit
      rw [e1, e2, e3, e4, e5]
      exact hit
  · have hge : i = 16 := by have := of_decide_eq_false hc; omega
    subst hge
    have z1 : (16 : Int).toNat = 16 := rfl
    have hit' : w = iter (sch1 l) 0 16 (List.replicate 64 0) := by
      rw [z1, Nat.sub_self] at hit
      rw [← hit, iter]
    unfold S392_1 S392_4
    refine Lp_of (σ := Int) (fun t M' => 16 ≤ t ∧ t ≤ 64 ∧ ∃ w : List Int, w.length = 64 ∧ iter sch2 t.toNat (64 - t.toNat) w = sched l ∧ At (cl b1 (450, u32s w) * F) M') (fun i => 64 - i.toNat) ?_
      ⟨Int.le_refl _, by decide, w, hw, by rw [hit', sched]; rfl, h2⟩
    rintro t M3 next ⟨t0, t1, w, hw, hit, h3⟩ hnx
    unfold S392_4b
    refine ite_ (fun hc => ?_) (fun hc => ?_)
    · have hlt : t < 64 := of_decide_eq_true hc
      have w1 : IntKind.wrap .i64 (t - 15) = t - 15 := w64 (by omega) (by omega)
      have w2 : IntKind.wrap .i64 (t - 2) = t - 2 := w64 (by omega) (by omega)
      have w3 : IntKind.wrap .i64 (t - 16) = t - 16 := w64 (by omega) (by omega)
      have w4 : IntKind.wrap .i64 (t - 7) = t - 7 := w64 (by omega) (by omega)
      have w5 : IntKind.wrap .i64 (t + 1) = t + 1 := w64 (by omega) (by omega)
      have e1 : (t - 15).toNat = t.toNat - 15 := by omega
      have e2 : (t - 2).toNat = t.toNat - 2 := by omega
      have e3 : (t - 16).toNat = t.toNat - 16 := by omega
      have e4 : (t - 7).toNat = t.toNat - 7 := by omega
      rw [w1, w2, w3, w4, w5]
      refine ixA_ (by omega) (by omega) (ixA_ (by omega) (by omega) (ldI_ h3 (wAt_some (by omega)) (ldI_ h3 (wAt_some (by omega)) (ixA_ (by omega) (by omega) (ixA_ (by omega) (by omega) (ldI_ h3 (wAt_some (by omega)) (ldI_ h3 (wAt_some (by omega)) ?_)) rfl) rfl))) rfl) rfl
      refine callK394_ (by decide) (by decide) (callK394_ (by decide) (by decide) (callK394_ (by decide) (by decide) (callK394_ (by decide) (by decide) (ixA_ (by omega) (by omega) (st_ h3 (by simp; omega) (u32_set w _ _) fun M4 h4 => hnx _ _ ⟨by omega, by omega, _, ?_, ?_, h4⟩ (by omega)) rfl))))
      · simp [hw]
      · have e5 : (t + 1).toNat = t.toNat + 1 := by omega
        have e6 : 64 - t.toNat = (64 - (t.toNat + 1)) + 1 := by omega
        rw [e6, iter] at hit
        rw [e1, e2, e3, e4, e5]
        exact hit
    · have hge : t = 64 := by have := of_decide_eq_false hc; omega
      subst hge
      have z2 : (64 : Int).toNat = 64 := rfl
      have hit2 : w = sched l := by
        rw [z2, Nat.sub_self] at hit
        rw [← hit, iter]
      rw [hit2] at h3
      have hsl := sched_len l
      generalize sched l = w0 at h3 hsl hK
      unfold S392_3
      exact ldA_ h3 (by simp [hsl]) (stA_ h3 (by simp [hsl]) (by simp [hsl]) (u32_one _) fun M4 h4 => ldA_ h4 (by simp [hsl]) (hK M4 h4.r))
end
end Go.Proofs.YtdndpmlapcbjaaaGreat

namespace Go.Proofs.YtdndpmlapcbjaaaGreat
open Go Go.RowKit
set_option linter.unusedSimpArgs false
set_option linter.unusedVariables false

def kcs : List Int := [1116352408, 1899447441, 3049323471, 3921009573, 961987163, 1508970993, 2453635748, 2870763221, 3624381080, 310598401, 607225278, 1426881987, 1925078388, 2162078206, 2614888103, 3248222580, 3835390401, 4022224774, 264347078, 604807628, 770255983, 1249150122, 1555081692, 1996064986, 2554220882, 2821834349, 2952996808, 3210313671, 3336571891, 3584528711, 113926993, 338241895, 666307205, 773529912, 1294757372, 1396182291, 1695183700, 1986661051, 2177026350, 2456956037, 2730485921, 2820302411, 3259730800, 3345764771, 3516065817, 3600352804, 4094571909, 275423344, 430227734, 506948616, 659060556, 883997877, 958139571, 1322822218, 1537002063, 1747873779, 1955562222, 2024104815, 2227730452, 2361852424, 2428436474, 2756734187, 3204031479, 3329325298]
structure S8 where
  a : Int
  b : Int
  c : Int
  d : Int
  e : Int
  f : Int
  g : Int
  h : Int
def S8.l (s : S8) : List Int := [s.a, s.b, s.c, s.d, s.e, s.f, s.g, s.h]
abbrev S8.cs (s : S8) : List Value := [.int .u32 s.a, .int .u32 s.b, .int .u32 s.c, .int .u32 s.d, .int .u32 s.e, .int .u32 s.f, .int .u32 s.g, .int .u32 s.h]
def S8.v (s : S8) : Value := .agg #[.int .u32 s.a, .int .u32 s.b, .int .u32 s.c, .int .u32 s.d, .int .u32 s.e, .int .u32 s.f, .int .u32 s.g, .int .u32 s.h]
def rt1 (s : S8) (k w : Int) : Int := IntKind.wrap .u32 ((IntKind.wrap .u32 ((IntKind.wrap .u32 ((IntKind.wrap .u32 (s.h + (ixor .u32 (ixor .u32 (rot s.e 6) (rot s.e 11)) (rot s.e 25)))) + (ixor .u32 (iand .u32 s.e s.f) (iand .u32 (inot .u32 s.e) s.g)))) + k)) + w)
def rt2 (s : S8) : Int := IntKind.wrap .u32 ((ixor .u32 (ixor .u32 (rot s.a 2) (rot s.a 13)) (rot s.a 22)) + (ixor .u32 (ixor .u32 (iand .u32 s.a s.b) (iand .u32 s.a s.c)) (iand .u32 s.b s.c)))
def rnd (W : List Int) (t : Nat) (s : S8) : S8 := ⟨IntKind.wrap .u32 (rt1 s (wAt kcs t) (wAt W t) + rt2 s), s.a, s.b, s.c, IntKind.wrap .u32 (s.d + rt1 s (wAt kcs t) (wAt W t)), s.e, s.f, s.g⟩
def addS (v s : S8) : S8 := ⟨IntKind.wrap .u32 (v.a + s.a), IntKind.wrap .u32 (v.b + s.b), IntKind.wrap .u32 (v.c + s.c), IntKind.wrap .u32 (v.d + s.d), IntKind.wrap .u32 (v.e + s.e), IntKind.wrap .u32 (v.f + s.f), IntKind.wrap .u32 (v.g + s.g), IntKind.wrap .u32 (v.h + s.h)⟩
def block (s : S8) (b : List UInt8) : S8 := addS (iter (rnd (sched b)) 0 64 s) s
def add1 (s : List Int) (i : Nat) (v : List Int) : List Int := v.set i (IntKind.wrap .u32 (wAt v i + wAt s i))

section
variable {F H : HP} {M : Mem} {X : List PanicEntry → Mem → Prop}
theorem call393_ {K : List Value → Mem → Prop} (h : At F M) (hK : ∀ M', At F M' → K (u32s kcs) M') : call 393 [] X (fun v_ M => ∃ r : List Value, v_ = .agg r.toArray ∧ K r M) M := by
  refine br393 (K := K) ?_
  unfold S393
  refine newc_ h fun b1 M1 h1 => stA_ (xs := u32s kcs) h1 (by simp) rfl (u32_one _) fun M2 h2 => ?_
  have hl : (u32s kcs).length = 64 := rfl
  generalize u32s kcs = ks at h2 hl hK
  exact ldA_ h2 hl (hK M2 h2.r)
theorem call385_ {s : Sl} {l : List UInt8} {v : S8} {K : Int → Int → Int → Int → Int → Int → Int → Int → Mem → Prop} (h : At F M) [Knb F s l] (hl : l.length = 64)
    (hK : ∀ M', At F M' → K (block v l).a (block v l).b (block v l).c (block v l).d (block v l).e (block v l).f (block v l).g (block v l).h M') :
    call 385 [v.v, Sl.v s] X (fun v_ M => ∃ (r0 r1 r2 r3 r4 r5 r6 r7 : Int), v_ = .agg #[.int .u32 r0, .int .u32 r1, .int .u32 r2, .int .u32 r3, .int .u32 r4, .int .u32 r5, .int .u32 r6, .int .u32 r7] ∧ K r0 r1 r2 r3 r4 r5 r6 r7 M) M := by
  refine br385 (K := K) ?_
  unfold S385
  refine newc_ h fun b1 M1 h1 => call392_ h1 hl fun M2 h2 => call393_ h2 fun M3 h3 => newc_ h3 fun b5 M4 h4 => newc_ h4 fun b6 M5 h5 => ?_
  have hwl := sched_len l
  obtain ⟨W, hW⟩ : ∃ W, sched l = W := ⟨_, rfl⟩
  have hblk : block v l = addS (iter (rnd W) 0 64 v) v := by rw [block, hW]
  rw [hblk] at hK
  rw [hW] at hwl ⊢
  have hkl : kcs.length = 64 := rfl
  obtain ⟨fin, hfin⟩ : ∃ fin, iter (rnd W) 0 64 v = fin := ⟨_, rfl⟩
  rw [hfin] at hK
  refine stA_ (b := b5) h5 (by simp) (by simp [hwl]) (u32_one _) fun M6 h6 => stA_ (b := b6) h6 (by simp) (by simp [hkl]) (u32_one _) fun M7 h7 => ?_
  refine ldI_ h7 rfl (ldI_ h7 rfl (ldI_ h7 rfl (ldI_ h7 rfl (ldI_ h7 rfl (ldI_ h7 rfl (ldI_ h7 rfl (ldI_ h7 rfl (newc_ h7 fun b21 M8 h8 => sts8_ (b := b21) h8 fun M9 h9 => ?_))))))))
  unfold S385_2
  refine Lp_of (σ := Int) (fun t M' => 0 ≤ t ∧ t ≤ 64 ∧ ∃ x : S8, iter (rnd W) t.toNat (64 - t.toNat) x = fin ∧ At (cl b21 (431, x.cs) * (cl b6 (450, u32s kcs) * (cl b5 (450, u32s W) * (cl b1 (431, v.cs) * F)))) M') (fun i => 64 - i.toNat) ?_
    ⟨Int.le_refl _, by decide, v, hfin, h9.use⟩
  rintro t M10 next ⟨t0, t1, x, hit, h10⟩ hnx
  unfold S385_2b
  refine ite_ (fun hc => ?_) (fun hc => ?_)
  · have hlt : t < 64 := of_decide_eq_true hc
    have w5 : IntKind.wrap .i64 (t + 1) = t + 1 := w64 (by omega) (by omega)
    rw [w5]
    have e5 : (t + 1).toNat = t.toNat + 1 := by omega
    have e6 : 64 - t.toNat = (64 - (t.toNat + 1)) + 1 := by omega
    rw [e6, iter] at hit
    have hk : (u32s kcs)[t.toNat]? = some (.int .u32 (wAt kcs t.toNat)) := wAt_some (by rw [hkl]; omega)
    generalize u32s kcs = ks at h10 hk hnx
    refine ldI_ h10 rfl (ldI_ h10 rfl ?_)
    refine ixA_ t0 (by omega) ?_ rfl
    refine ixA_ t0 (by omega) ?_ rfl
    refine ldI_ h10 rfl (ldI_ h10 rfl (ldI_ h10 rfl (ldI_ h10 hk (ldI_ h10 (wAt_some (by omega)) ?_))))
    refine callK394_ (by decide) (by decide) (callK394_ (by decide) (by decide) (callK394_ (by decide) (by decide) (ldI_ h10 rfl (ldI_ h10 rfl (ldI_ h10 rfl (ldI_ h10 rfl
      (callK394_ (by decide) (by decide) (callK394_ (by decide) (by decide) (callK394_ (by decide) (by decide) (ldI_ h10 rfl (ldI_ h10 rfl (ldI_ h10 rfl (ldI_ h10 rfl (ldI_ h10 rfl
      (sts8_ (b := b21) h10 fun M11 h11 => hnx _ _ ⟨by omega, by omega, rnd W t.toNat x, ?_, h11⟩ (by omega))))))))))))))))
    rw [e5]; exact hit
  · have hge : t = 64 := by have := of_decide_eq_false hc; omega
    subst hge
    have z1 : (64 : Int).toNat = 64 := rfl
    have hx : x = fin := by
      rw [z1, Nat.sub_self] at hit
      rw [← hit, iter]
    rw [hx] at h10
    generalize u32s kcs = ks at h10
    have ec : fin.cs = u32s fin.l := rfl
    rw [ec] at h10
    clear hnx
    unfold S385_1 S385_4
    refine Lp_of (σ := Int) (fun t M' => 0 ≤ t ∧ t ≤ 8 ∧ ∃ w : List Int, w.length = 8 ∧ iter (add1 v.l) t.toNat (8 - t.toNat) w = (addS fin v).l ∧ At (cl b21 (431, u32s w) * (cl b1 (431, v.cs) * F)) M') (fun i => 8 - i.toNat) ?_
      ⟨Int.le_refl _, by decide, fin.l, rfl, rfl, h10.use⟩
    rintro t M12 next ⟨t0, t1, w, hw, hit, h12⟩ hnx
    unfold S385_4b
    refine ite_ (fun hc => ?_) (fun hc => ?_)
    · have hlt : t < 8 := of_decide_eq_true hc
      have w5 : IntKind.wrap .i64 (t + 1) = t + 1 := w64 (by omega) (by omega)
      rw [w5]
      have e5 : (t + 1).toNat = t.toNat + 1 := by omega
      have e6 : 8 - t.toNat = (8 - (t.toNat + 1)) + 1 := by omega
      rw [e6, iter] at hit
      have hvl : v.l.length = 8 := rfl
      have hv : v.cs[t.toNat]? = some (.int .u32 (wAt v.l t.toNat)) := wAt_some (w := v.l) (by omega)
      refine ixA_ t0 (by omega) ?_ rfl
      refine ixA_ t0 (by omega) ?_ rfl
      refine ldI_ h12 (wAt_some (by omega)) (ldI_ h12 hv ?_)
      refine ixA_ t0 (by omega) ?_ rfl
      refine st_ h12 (by simp; omega) (u32_set w _ _) fun M13 h13 => hnx _ _ ⟨by omega, by omega, add1 v.l t.toNat w, by simp [add1, hw], ?_, h13⟩ (by omega)
      rw [e5]; exact hit
    · have hge : t = 8 := by have := of_decide_eq_false hc; omega
      subst hge
      have z2 : (8 : Int).toNat = 8 := rfl
      have hx : w = (addS fin v).l := by
        rw [z2, Nat.sub_self] at hit
        rw [← hit, iter]
      rw [hx] at h12
      have ec2 : u32s (addS fin v).l = (addS fin v).cs := rfl
      rw [ec2] at h12
      unfold S385_3
      exact ldI_ h12 rfl (ldI_ h12 rfl (ldI_ h12 rfl (ldI_ h12 rfl (ldI_ h12 rfl (ldI_ h12 rfl (ldI_ h12 rfl (ldI_ h12 rfl (hK M12 h12.r.r))))))))
end
end Go.Proofs.YtdndpmlapcbjaaaGreat

namespace Go.Proofs.YtdndpmlapcbjaaaGreat
open Go Go.RowKit
set_option linter.unusedSimpArgs false
set_option linter.unusedVariables false

def blocks (s : S8) (l : List UInt8) : S8 × List UInt8 := if 64 ≤ l.length then blocks (block s (l.take 64)) (l.drop 64) else (s, l)
termination_by l.length
decreasing_by simp; omega
theorem blocks_len (s : S8) (l : List UInt8) : (blocks s l).2.length ≤ l.length := by
  induction s, l using blocks.induct with
  | case1 s l h ih => rw [blocks, if_pos h]; simp at ih ⊢; omega
  | case2 s l h => rw [blocks, if_neg h]; simp
/-- A shared slice is cut. -/
theorem At.cutbs {F : HP} {M : Mem} {s : Sl} {l : List UInt8} {lo hi mx : Int} (h : At (bs s l * F) M) (h0 : 0 ≤ lo) (h1 : lo ≤ hi) (h2 : hi ≤ l.length) (h3 : hi ≤ mx) (h4 : mx ≤ s.c) : At (bs (s.cut 1 lo hi mx) ((l.drop lo.toNat).take (hi.toNat - lo.toNat)) * (bs s l * F)) M :=
  h.dup (fun m hm => BS.cut (Ent.l _ _ m hm) h0 h1 h2 h3 h4) (pers_bs _ _)

section
variable {F H : HP} {M : Mem} {X : List PanicEntry → Mem → Prop}
theorem call364_ {s : Sl} {l : List UInt8} {v : S8} {K : Int → Int → Int → Int → Int → Int → Int → Int → Sl → Mem → Prop} (h : At (bs s l * F) M) (hl : l.length ≤ 1000000000)
    (hK : ∀ r M', At (bs r (blocks v l).2 * F) M' → K (blocks v l).1.a (blocks v l).1.b (blocks v l).1.c (blocks v l).1.d (blocks v l).1.e (blocks v l).1.f (blocks v l).1.g (blocks v l).1.h r M') :
    call 364 [v.v, Sl.v s] X (fun v_ M => ∃ (r0 r1 r2 r3 r4 r5 r6 r7 : Int) (r : Sl), v_ = .tuple #[.agg #[.int .u32 r0, .int .u32 r1, .int .u32 r2, .int .u32 r3, .int .u32 r4, .int .u32 r5, .int .u32 r6, .int .u32 r7], Sl.v r] ∧ K r0 r1 r2 r3 r4 r5 r6 r7 r M) M := by
  refine br364 (K := K) ?_
  unfold S364 S364_2
  refine Lp_of (σ := Sl × Int × Int × Int × Int × Int × Int × Int × Int) (fun x M' => ∃ (l' : List UInt8), l'.length ≤ l.length ∧ blocks ⟨x.2.1, x.2.2.1, x.2.2.2.1, x.2.2.2.2.1, x.2.2.2.2.2.1, x.2.2.2.2.2.2.1, x.2.2.2.2.2.2.2.1, x.2.2.2.2.2.2.2.2⟩ l' = blocks v l ∧ At (bs x.1 l' * F) M') (fun x => x.1.n) ?_ ⟨l, Nat.le_refl _, rfl, h⟩
  rintro ⟨s', a, b, c, d, e, f, g, hh⟩ M2 next ⟨l', hl', hb, h2⟩ hnx
  simp only at hb h2 hnx ⊢
  have hs := h2.byt (s := s')
  have hlen := hs.len
  have hcap := hs.cap
  unfold S364_2b
  refine ite_ (fun hc => ?_) (fun hc => ?_)
  · have hge : 64 ≤ l'.length := by have := of_decide_eq_true hc; omega
    refine must_ ⟨Int.le_refl _, by decide, Int.le_refl _, by omega⟩ ?_
    have h3 := h2.cutbs (lo := 0) (hi := 64) (mx := 64) (Int.le_refl _) (by decide) (by omega) (Int.le_refl _) (by omega)
    have e1 : (l'.drop (0 : Int).toNat).take ((64 : Int).toNat - (0 : Int).toNat) = l'.take 64 := by simp
    rw [e1] at h3
    refine call385_ (v := ⟨a, b, c, d, e, f, g, hh⟩) h3 (by simp; omega) fun M4 h4 => must_ ⟨by decide, by omega, trivial, Int.le_refl _⟩ ?_
    have h5 : At (bs s' l' * F) M4 := h4.use
    have h6 := h5.cutbs (lo := 64) (hi := s'.n) (mx := s'.c) (by decide) (by omega) (by omega) (by omega) (by omega)
    have e2 : (l'.drop (64 : Int).toNat).take ((s'.n : Int).toNat - (64 : Int).toNat) = l'.drop 64 := by
      rw [List.take_of_length_le (by simp; omega)]; rfl
    rw [e2] at h6
    refine hnx _ _ ⟨l'.drop 64, by simp; omega, ?_, h6.use⟩ (by simp [Sl.cut]; omega)
    rw [blocks, if_pos hge] at hb
    exact hb
  · have hlt : ¬ (64 ≤ l'.length) := by have := of_decide_eq_false hc; omega
    rw [blocks, if_neg hlt] at hb
    unfold S364_1
    have := hK s' M2
    rw [← hb] at this
    exact this h2

/-! ### Hash -/
def S8.start : S8 := ⟨1779033703, 3144134277, 1013904242, 2773480762, 1359893119, 2600822924, 528734635, 1541459225⟩
def hashA (b : Nat) (s : S8) (left : List UInt8) (n : Int) : HP := ex fun sl : Sl => cl b (434, [.int .u32 s.a, .int .u32 s.b, .int .u32 s.c, .int .u32 s.d, .int .u32 s.e, .int .u32 s.f, .int .u32 s.g, .int .u32 s.h, Sl.v sl, vi n]) * bs sl left
theorem hash_open {b : Nat} {s : S8} {left : List UInt8} {n : Int} (h : At (hashA b s left n * F) M) : ∃ sl : Sl, At (cl b (434, [.int .u32 s.a, .int .u32 s.b, .int .u32 s.c, .int .u32 s.d, .int .u32 s.e, .int .u32 s.f, .int .u32 s.g, .int .u32 s.h, Sl.v sl, vi n]) * (bs sl left * F)) M := by
  obtain ⟨sl, h⟩ := h.of_ex
  exact ⟨sl, h.cast (sm_assoc _ _ _)⟩
theorem hash_close {b : Nat} {s : S8} {left : List UInt8} {n : Int} {sl : Sl} (h : At (cl b (434, [.int .u32 s.a, .int .u32 s.b, .int .u32 s.c, .int .u32 s.d, .int .u32 s.e, .int .u32 s.f, .int .u32 s.g, .int .u32 s.h, Sl.v sl, vi n]) * (bs sl left * F)) M) : At (hashA b s left n * F) M :=
  At.ex sl (h.cast (sm_assoc _ _ _).symm)
theorem call327_ {K : Option PA → Mem → Prop} (h : At F M) (hK : ∀ b M', At (hashA b S8.start [] 0 * F) M' → K (some (b, 0)) M') : call 327 [] X (fun v_ M => ∃ r : Option PA, v_ = ptr r ∧ K r M) M := by
  refine br327 (K := K) ?_
  unfold S327
  refine br363 (K := fun r0 r1 r2 r3 r4 r5 r6 r7 => _) ?_
  unfold S363
  refine newc_ h fun b M1 h1 => hK b M1 (hash_close (sl := ⟨none, 0, 0⟩) (by simp only [S8.start]; exact (bs_nil h1).use))
/-- An append of something to a shared slice that is full: a row of one's own. -/
theorem app_grow {s x : Sl} {l l2 : List UInt8} {κ : Sl → Mem → Prop} (h : At H M) (hs : BS M s l) (hc : s.c = s.n) (hx : BS M x l2) (h0 : 0 < l2.length) (hl : l.length + l2.length ≤ 1000000000)
    (hκ : ∀ r M', At (arr r 5 1 (cb (l ++ l2)) * H) M' → κ r M') : appS 5 1 1 [.int .u8 0] s x κ M := by
  have e1 := hs.len
  have e2 := hx.len
  refine app_fresh (vs := cb l) (news := cb l2) hs.rd (by rw [cb_length]; omega) rfl hx.rd (by rw [cb_length]; omega) cb_one (by omega) (by omega) (by omega) fun r b M' g1 g2 g3 g4 => hκ r M' ?_
  have hsub : Sub M M' := fun c o hc => by rw [g4 c (fun h => by rw [h, g3] at hc; cases hc)]; exact hc
  have g5 : At (arr r 5 1 (cb l ++ cb l2) * H) M' := h.of_OR g1 g3 hsub
  rw [← cb_app] at g5
  exact g5
/-- An append of bytes to a row of one's own. -/
theorem app_arr {s x : Sl} {l l2 : List UInt8} {κ : Sl → Mem → Prop} (h : At H M) [hp : Pick (arr s 5 1) H (cb l) F] (hx : BS M x l2) (hl : l.length + l2.length ≤ 1000000000)
    (hκ : ∀ r M', At (arr r 5 1 (cb (l ++ l2)) * F) M' → κ r M') : appS 5 1 1 [.int .u8 0] s x κ M := by
  have hA : At (arr s 5 1 (cb l) * F) M := h.cast hp.eq
  have e1 := hA.arr_len.1
  have e2 := hx.len
  rw [cb_length] at e1
  refine arr_app (s := s) (x := x) (news := cb l2) h rfl hx.rd (by rw [cb_length]; omega) cb_one (by omega) (by omega) fun r M' h' _ => hκ r M' ?_
  rw [cb_app]; exact h'
/-- A literal of bytes. -/
theorem At.lit {b el : Nat} {vs : List Value} (h : At H M) [hp : Pick (cl b) H (el, vs) F] (l : List UInt8) (e : vs = cb l) (hl : l.length ≤ 1000) {n : Nat} (hn : n = l.length) : BS M ⟨some (b, 0), n, n⟩ l := by
  subst e
  subst hn
  refine ⟨fun j v hv => ?_, rfl, Nat.le_refl _, by simp only; omega⟩
  simpa using h.cel (b := b) (off := j) hv
theorem call328_ {b : Nat} {v : S8} {left l : List UInt8} {n : Int} {s : Sl} {K : Mem → Prop} (h : At (hashA b v left n * F) M) [Knb F s l] (hl : left.length + l.length ≤ 1000000000)
    (hK : ∀ M', At (hashA b (blocks v (left ++ l)).1 (blocks v (left ++ l)).2 (IntKind.wrap .i64 (n + l.length)) * F) M' → K M') : call 328 [ptr (some (b, 0)), Sl.v s] X (fun v_ M => K M) M := by
  refine br328 (K := K) ?_
  obtain ⟨sl, h1⟩ := hash_open h
  have hs := h1.byt (s := s)
  have hlen := hs.len
  unfold S328
  refine iteF rfl (nn_ (ldI_ h1 rfl (st_ (b := b) h1 (by simp) rfl fun M2 h2 => ?_)))
  simp only [List.set_cons_succ, List.set_cons_zero] at h2
  have hsl := h2.byt (s := sl) 
  have hcap := hsl.cap
  have hsll := hsl.len
  refine ldL_ h2 rfl (ldL_ h2 rfl (ldL_ h2 rfl (must_ ⟨Int.le_refl _, by omega, Int.le_refl _, by omega⟩ ?_)))
  refine app_shared (l := left) (l2 := l) h2 (fun m hm => ?_) (by simp [Sl.cut]) (h2.byt (s := s)) hl fun r M3 h3 => ?_
  · have hm2 : BS (erm (shp m)) sl left := (Ent.l _ _) _ ((Ent.r _ _) _ hm)
    have hcut := hm2.cut (lo := 0) (hi := sl.n) (mx := sl.n) (Int.le_refl _) (by omega) (by omega) (Int.le_refl _) (by omega)
    have e1 : ((left.drop (0 : Int).toNat).take ((sl.n : Int).toNat - (0 : Int).toNat)) = left := by simp [hsll]
    rw [e1] at hcut; exact hcut
  · refine ldI_ h3 rfl (ldI_ h3 rfl (ldI_ h3 rfl (ldI_ h3 rfl (ldI_ h3 rfl (ldI_ h3 rfl (ldI_ h3 rfl (ldI_ h3 rfl ?_)))))))
    refine call364_ (v := v) h3 (by simp; omega) fun r2 M4 h4 => ?_
    refine sts8_ (b := b) h4 fun M5 h5 => st8_ h5 fun M6 h6 => hK M6 (hash_close (sl := r2) ?_)
    rw [hlen] at h6
    exact h6.use

/-! ### Sum -/
def padZ (l : List UInt8) : Nat := (120 - l.length % 64) % 64
def padTo (l : List UInt8) : List UInt8 := l ++ List.replicate (padZ l) 0
def bits8 (n : Int) : List UInt8 := (List.range 8).map fun (i : Nat) => u8 (ishr .u64 (IntKind.wrap .u64 (8 * (IntKind.wrap .u64 n))) (56 - 8 * (i : Int)))
def padded (left : List UInt8) (n : Int) : List UInt8 := padTo (left ++ [128]) ++ bits8 n
def out32 (s : S8) : List UInt8 := s.l.flatMap fun x => [u8 (ishr .u32 x 24), u8 (ishr .u32 x 16), u8 (ishr .u32 x 8), u8 x]
def put4 (s : S8) (i : Nat) (o : List UInt8) : List UInt8 := (((o.set (4 * i) (u8 (ishr .u32 (wAt s.l i) 24))).set (4 * i + 1) (u8 (ishr .u32 (wAt s.l i) 16))).set (4 * i + 2) (u8 (ishr .u32 (wAt s.l i) 8))).set (4 * i + 3) (u8 (wAt s.l i))
theorem put_iter (f : Nat → Nat → UInt8) : iter (fun i (o : List UInt8) => (((o.set (4 * i) (f i 24)).set (4 * i + 1) (f i 16)).set (4 * i + 2) (f i 8)).set (4 * i + 3) (f i 0)) 0 8 (List.replicate 32 0) =
    [f 0 24, f 0 16, f 0 8, f 0 0, f 1 24, f 1 16, f 1 8, f 1 0, f 2 24, f 2 16, f 2 8, f 2 0, f 3 24, f 3 16, f 3 8, f 3 0, f 4 24, f 4 16, f 4 8, f 4 0, f 5 24, f 5 16, f 5 8, f 5 0, f 6 24, f 6 16, f 6 8, f 6 0, f 7 24, f 7 16, f 7 8, f 7 0] := by kernel_rfl
def byt (s : S8) (i : Nat) : Nat → UInt8
  | 0 => u8 (wAt s.l i)
  | n + 1 => u8 (ishr .u32 (wAt s.l i) (n + 1 : Nat))
theorem out32_iter (s : S8) : iter (put4 s) 0 8 (List.replicate 32 0) = out32 s := by
  have h := put_iter (byt s)
  have e : (fun i (o : List UInt8) => (((o.set (4 * i) (byt s i 24)).set (4 * i + 1) (byt s i 16)).set (4 * i + 2) (byt s i 8)).set (4 * i + 3) (byt s i 0)) = put4 s := by
    funext i o; simp only [byt, put4]; rfl
  rw [e] at h
  rw [h]
  simp only [byt, out32, S8.l, wAt, List.flatMap_cons, List.flatMap_nil, List.getElem?_cons_zero, List.getElem?_cons_succ, Option.getD_some, List.cons_append, List.nil_append, List.append_nil]
  try rfl
theorem cb_set (o : List UInt8) (i : Nat) (x : Int) : (cb o).set i (.int .u8 (IntKind.wrap .u8 x)) = cb (o.set i (u8 x)) := by
  rw [u8_val]; simp [cb, List.map_set]
theorem cb_zeros (n : Nat) : List.replicate n (Value.int .u8 0) = cb (List.replicate n 0) := by simp [cb]
theorem out32_len (s : S8) : (out32 s).length = 32 := rfl

theorem call329_ {b : Nat} {v : S8} {left : List UInt8} {n : Int} {K : List Value → Mem → Prop} (h : At (hashA b v left n * F) M) (hl : left.length ≤ 100000000)
    (hK : ∀ M', At F M' → K (cb (out32 (blocks v (padded left n)).1)) M') : call 329 [ptr (some (b, 0))] X (fun v_ M => ∃ r : List Value, v_ = .agg r.toArray ∧ K r M) M := by
  refine br329 (K := K) ?_
  unfold S329
  refine newc_ h fun b1 M1 h1 => iteF rfl ?_
  rw [cb_zeros] at h1
  obtain ⟨sl, h2⟩ := hash_open (h1.cast (G := hashA b v left n * (cl b1 (373, cb (List.replicate 32 0)) * F)) (by ac_rfl))
  have hsl := h2.byt (s := sl)
  have hcap := hsl.cap
  have hsll := hsl.len
  unfold S329_1
  refine nn_ (ldL_ h2 rfl (ldL_ h2 rfl (ldL_ h2 rfl (must_ ⟨Int.le_refl _, by omega, Int.le_refl _, by omega⟩ (newc_ h2 fun b12 M3 h3 => ?_)))))
  have hcut := (h3.byt (s := sl)).cut (lo := 0) (hi := sl.n) (mx := sl.n) (Int.le_refl _) (by omega) (by omega) (Int.le_refl _) (by omega)
  have e1 : ((left.drop (0 : Int).toNat).take ((sl.n : Int).toNat - (0 : Int).toNat)) = left := by simp [hsll]
  rw [e1] at hcut
  refine app_grow (l := left) (l2 := [128]) h3 hcut (by simp [Sl.cut]) (h3.lit (b := b12) [128] rfl (by simp) rfl) (by simp) (by simp; omega) fun r M4 h4 => ?_
  obtain ⟨base, hbase⟩ : ∃ base, left ++ [128] = base := ⟨_, rfl⟩
  have hbl : base.length = left.length + 1 := by rw [← hbase]; simp
  have hpd : padded left n = base ++ List.replicate (padZ base) 0 ++ bits8 n := by rw [padded, padTo, hbase]
  rw [hpd] at hK
  rw [hbase] at h4
  unfold S329_3
  refine Lp_of (σ := Sl) (fun r M' => ∃ j : Nat, j ≤ padZ base ∧ r.n = base.length + j ∧ At (arr r 5 1 (cb (base ++ List.replicate j 0)) * (cl b (434, [.int .u32 v.a, .int .u32 v.b, .int .u32 v.c, .int .u32 v.d, .int .u32 v.e, .int .u32 v.f, .int .u32 v.g, .int .u32 v.h, Sl.v sl, vi n]) * (cl b1 (373, cb (List.replicate 32 0)) * F))) M') (fun r => base.length + padZ base - r.n) ?_
    ⟨0, Nat.zero_le _, by have := h4.arr_len.1; rw [cb_length] at this; omega, by simp only [List.replicate_zero, List.append_nil]; exact h4.use⟩
  rintro r M5 next ⟨j, j0, j1, h5⟩ hnx
  have hpz : padZ base < 64 := Nat.mod_lt _ (by decide)
  unfold S329_3b
  have hmod : Int.tmod (r.n : Int) 64 = ((r.n % 64 : Nat) : Int) := by
    rw [Int.tmod_eq_emod_of_nonneg (by omega)]; rfl
  rw [hmod]
  refine ite_ (fun hc => ?_) (fun hc => ?_)
  · have hne : r.n % 64 ≠ 56 := by intro h0; rw [h0] at hc; simp at hc
    have hlt : j < padZ base := by
      rcases Nat.lt_or_ge j (padZ base) with h0 | h0
      · exact h0
      · exfalso; apply hne
        unfold padZ at h0 j0
        omega
    refine newc_ h5 fun b14 M6 h6 => app_arr (s := r) (l := base ++ List.replicate j 0) (l2 := [0]) h6 (h6.lit (b := b14) [0] rfl (by simp) rfl) (by simp; omega) fun r2 M7 h7 => ?_
    have hl7 := h7.arr_len.1
    rw [cb_length] at hl7
    simp at hl7
    refine hnx r2 M7 ⟨j + 1, by omega, by omega, ?_⟩ (by omega)
    have e2 : base ++ List.replicate j 0 ++ [0] = base ++ List.replicate (j + 1) (0 : UInt8) := by rw [List.append_assoc, ← List.replicate_succ']
    rw [e2] at h7
    exact h7.use
  · have heq : r.n % 64 = 56 := by simp at hc; omega
    have hj : j = padZ base := by
      unfold padZ at j0 ⊢
      omega
    subst hj
    obtain ⟨B, hB⟩ : ∃ B, base ++ List.replicate (padZ base) 0 = B := ⟨_, rfl⟩
    have hBl : B.length = base.length + padZ base := by rw [← hB]; simp
    rw [hB] at h5 hK
    clear hnx
    unfold S329_2
    refine nn_ (ldI_ h5 rfl ?_)
    unfold S329_5
    refine Lp_of (σ := Sl × Int) (fun x M' => 0 ≤ x.2 ∧ x.2 ≤ 8 ∧ At (arr x.1 5 1 (cb (B ++ (bits8 n).take x.2.toNat)) * (cl b (434, [.int .u32 v.a, .int .u32 v.b, .int .u32 v.c, .int .u32 v.d, .int .u32 v.e, .int .u32 v.f, .int .u32 v.g, .int .u32 v.h, Sl.v sl, vi n]) * (cl b1 (373, cb (List.replicate 32 0)) * F))) M') (fun x => 8 - x.2.toNat) ?_
      ⟨Int.le_refl _, (show (0 : Int) ≤ 8 by decide), by simp; exact h5⟩
    rintro ⟨r2, i⟩ M6 next ⟨i0, i1, h6⟩ hnx
    simp only at i0 i1 h6 hnx ⊢
    have hb8 : (bits8 n).length = 8 := by simp [bits8]
    unfold S329_5b
    refine ite_ (fun hc => ?_) (fun hc => ?_)
    · have hlt : i < 8 := of_decide_eq_true hc
      have w1 : IntKind.wrap .i64 (8 * i) = 8 * i := w64 (by omega) (by omega)
      have w2 : IntKind.wrap .i64 (56 - 8 * i) = 56 - 8 * i := w64 (by omega) (by omega)
      have w3 : IntKind.wrap .i64 (i + 1) = i + 1 := w64 (by omega) (by omega)
      rw [w1, w2, w3]
      refine must_ (by omega) (newc_ h6 fun b21 M7 h7 => ?_)
      obtain ⟨m, hm⟩ : ∃ m : Nat, i = m := ⟨i.toNat, by omega⟩
      subst hm
      rw [u8_val] at h7
      have hbm : (bits8 n)[m]? = some (u8 (ishr .u64 (IntKind.wrap .u64 (8 * (IntKind.wrap .u64 n))) (56 - 8 * (m : Int)))) := by
        have : m < 8 := by omega
        simp [bits8, this]
      refine app_arr (s := r2) (l := B ++ (bits8 n).take m) (l2 := [u8 (ishr .u64 (IntKind.wrap .u64 (8 * (IntKind.wrap .u64 n))) (56 - 8 * (m : Int)))]) h7 (h7.lit (b := b21) _ rfl (by simp) rfl) (by simp; omega) fun r3 M8 h8 => hnx _ _ ⟨by omega, by omega, ?_⟩ (by simp; omega)
      have e3 : ((m : Int) + 1).toNat = m + 1 := by omega
      rw [e3, List.take_add_one, hbm]
      simp only [Option.toList_some]
      rw [← List.append_assoc]
      exact h8.use
    · have hge : i = 8 := by have := of_decide_eq_false hc; omega
      subst hge
      have e4 : (bits8 n).take (8 : Int).toNat = bits8 n := List.take_of_length_le (by rw [hb8]; decide)
      rw [e4] at h6
      unfold S329_4
      refine nn_ (ldI_ h6 rfl (ldI_ h6 rfl (ldI_ h6 rfl (ldI_ h6 rfl (ldI_ h6 rfl (ldI_ h6 rfl (ldI_ h6 rfl (ldI_ h6 rfl ?_))))))))
      refine call364_ (v := v) h6.share (by simp; omega) fun r5 M9 h9 => ?_
      obtain ⟨V, hV⟩ : ∃ V, (blocks v (B ++ bits8 n)).1 = V := ⟨_, rfl⟩
      rw [hV] at hK ⊢
      unfold S329_7
      refine Lp_of (σ := Int) (fun t M' => 0 ≤ t ∧ t ≤ 8 ∧ ∃ o : List UInt8, o.length = 32 ∧ iter (put4 V) t.toNat (8 - t.toNat) o = out32 V ∧ At (cl b1 (373, cb o) * F) M') (fun i => 8 - i.toNat) ?_
        ⟨Int.le_refl _, by decide, List.replicate 32 0, by simp, out32_iter V, h9.use⟩
      rintro t M10 next ⟨t0, t1, o, ho, hit, h10⟩ hnx
      unfold S329_7b
      refine ite_ (fun hc => ?_) (fun hc => ?_)
      · have hlt : t < 8 := of_decide_eq_true hc
        have w1 : IntKind.wrap .i64 (4 * t) = 4 * t := w64 (by omega) (by omega)
        have w2 : IntKind.wrap .i64 (4 * t + 1) = 4 * t + 1 := w64 (by omega) (by omega)
        have w3 : IntKind.wrap .i64 (4 * t + 2) = 4 * t + 2 := w64 (by omega) (by omega)
        have w4 : IntKind.wrap .i64 (4 * t + 3) = 4 * t + 3 := w64 (by omega) (by omega)
        have w5 : IntKind.wrap .i64 (t + 1) = t + 1 := w64 (by omega) (by omega)
        rw [w1, w2, w3, w4, w5]
        have x1 : (4 * t).toNat = 4 * t.toNat := by omega
        have x2 : (4 * t + 1).toNat = 4 * t.toNat + 1 := by omega
        have x3 : (4 * t + 2).toNat = 4 * t.toNat + 2 := by omega
        have x4 : (4 * t + 3).toNat = 4 * t.toNat + 3 := by omega
        have e5 : (t + 1).toNat = t.toNat + 1 := by omega
        have e6 : 8 - t.toNat = (8 - (t.toNat + 1)) + 1 := by omega
        rw [e6, iter] at hit
        have hvl : V.l.length = 8 := rfl
        refine ⟨.int .u32 (wAt V.l t.toNat), t0, by omega, wAt_some (w := V.l) (by omega), _, rfl, ?_⟩
        refine ixA_ (by omega) (by omega) (st_ h10 (by rw [cb_length]; omega) (cb_set _ _ _) fun M11 h11 => ?_) rfl
        refine ixA_ (by omega) (by omega) (st_ h11 (by rw [cb_length]; simp; omega) (cb_set _ _ _) fun M12 h12 => ?_) rfl
        refine ixA_ (by omega) (by omega) (st_ h12 (by rw [cb_length]; simp; omega) (cb_set _ _ _) fun M13 h13 => ?_) rfl
        refine ixA_ (by omega) (by omega) (st_ h13 (by rw [cb_length]; simp; omega) (cb_set _ _ _) fun M14 h14 => hnx _ _ ⟨by omega, by omega, put4 V t.toNat o, by simp [put4, ho], ?_, ?_⟩ (by omega)) rfl
        · rw [e5]; exact hit
        · rw [x1, x2, x3, x4] at h14; exact h14
      · have hge : t = 8 := by have := of_decide_eq_false hc; omega
        subst hge
        have z2 : (8 : Int).toNat = 8 := rfl
        have hx : o = out32 V := by
          rw [z2, Nat.sub_self] at hit
          rw [← hit, iter]
        have hcl : (cb o).length = 32 := by rw [cb_length]; exact ho
        rw [← hx] at hK
        unfold S329_6
        exact ldA_ h10 hcl (stA_ h10 hcl hcl cb_one fun M15 h15 => ldA_ h15 hcl (hK M15 h15.r))
end
end Go.Proofs.YtdndpmlapcbjaaaGreat

namespace Go.Proofs.YtdndpmlapcbjaaaGreat
open Go Go.RowKit
set_option linter.unusedSimpArgs false
set_option linter.unusedVariables false

def sha (l : List UInt8) : List UInt8 := out32 (blocks (blocks S8.start l).1 (padded (blocks S8.start l).2 l.length)).1
theorem sha_len (l : List UInt8) : (sha l).length = 32 := out32_len _
def digit (n : Int) : Int := if n < 10 then IntKind.wrap .u8 (48 + n) else IntKind.wrap .u8 (IntKind.wrap .u8 (97 + n) - 10)
def hex2 (c : UInt8) : List UInt8 := [u8 (digit (ishr .u8 c.toNat 4)), u8 (digit (iand .u8 c.toNat 15))]
def hexOf (l : List UInt8) : List UInt8 := l.flatMap hex2
def nameOf (l : List UInt8) : ByteArray := ⟨(hexOf (sha l)).toArray⟩
theorem hexOf_len (l : List UInt8) : (hexOf l).length = 2 * l.length := by
  induction l with
  | nil => rfl
  | cons x l ih => simp only [hexOf, List.flatMap_cons, List.length_append, hex2, List.length_cons, List.length_nil] at ih ⊢; omega
theorem nameOf_size (l : List UInt8) : (nameOf l).size = 64 := by
  show (hexOf (sha l)).toArray.size = 64
  rw [List.size_toArray, hexOf_len, sha_len]
theorem digit_u8 (n : Int) : digit n = ((u8 (digit n)).toNat : Int) := by
  rw [← u8_val]
  have idem : ∀ x, IntKind.wrap .u8 (IntKind.wrap .u8 x) = IntKind.wrap .u8 x := fun x => by
    simp [IntKind.wrap, IntKind.bits, IntKind.signed]
  unfold digit
  split <;> rw [idem]

/-- All that was known stays known. -/
def fz (M0 : Mem) : HP := ⟨fun m => Sub M0 (erm m), fun m n h hl => h.trans (erm_mono hl)⟩
theorem at_fz (M : Mem) : At (fz M) M := ⟨fun b => (M b).map fun o => (false, o), fun b o hb => by simp [erm, hb], fun b x hx => by
  obtain ⟨o, h1, h2⟩ := Option.map_eq_some_iff.1 hx
  rw [← h2]; exact h1⟩
theorem fz_sub {M0 M : Mem} (h : At (fz M0) M) : Sub M0 M := by
  obtain ⟨m, h1, h2⟩ := h.er_
  exact Sub.trans h1 h2
theorem knb_fz {M : Mem} {s : Sl} {l : List UInt8} (h : BS M s l) : Knb (fz M) s l := ⟨fun m hm => h.sub hm⟩
section
variable {F H : HP} {M : Mem} {X : List PanicEntry → Mem → Prop}
theorem call277_ {s : Sl} {l : List UInt8} {K : List Value → Mem → Prop} (h : At F M) [Knb F s l] (hl : l.length ≤ 100000000) (hK : ∀ M', At F M' → K (cb (sha l)) M') :
    call 277 [Sl.v s] X (fun v_ M => ∃ r : List Value, v_ = .agg r.toArray ∧ K r M) M := by
  refine br277 (K := K) ?_
  unfold S277
  refine newc_ h fun b1 M1 h1 => call327_ h1 fun b M2 h2 => call328_ h2 (by simp; omega) fun M3 h3 => ?_
  have hbl := blocks_len S8.start l
  simp only [List.nil_append] at h3
  rw [Int.zero_add, w64 (by omega) (by omega)] at h3
  refine call329_ h3 (by omega) fun M4 h4 => ?_
  have hcl : (cb (sha l)).length = 32 := by rw [cb_length, sha_len]
  have e : cb (out32 (blocks (blocks S8.start l).1 (padded (blocks S8.start l).2 l.length)).1) = cb (sha l) := rfl
  rw [e]
  have ho : ∀ v ∈ cb (sha l), v.oneCell' = true := cb_one
  generalize cb (sha l) = z at hcl hK ho ⊢
  exact stA_ (b := b1) h4 (by simp) hcl ho fun M5 h5 => ldA_ h5 hcl (hK M5 h5.r)
theorem call330_ {n : Int} {K : Int → Mem → Prop} (h : K (digit n) M) : call 330 [.int .u8 n] X (fun v_ M => ∃ r : Int, v_ = .int .u8 r ∧ K r M) M := by
  refine br330 (K := K) ?_
  unfold S330
  unfold digit at h
  refine ite_ (fun hc => ?_) (fun hc => ?_)
  · rw [if_pos (of_decide_eq_true hc)] at h; exact h
  · rw [if_neg (of_decide_eq_false hc)] at h; exact h
theorem call278_ {s : Sl} {l : List UInt8} {K : ByteArray → Mem → Prop} (h : At F M) (hs : ∀ M', At F M' → BS M' s l) (hl : l.length ≤ 1000000) (hK : ∀ M', At F M' → K ⟨(hexOf l).toArray⟩ M') :
    call 278 [Sl.v s] X (fun v_ M => ∃ r : ByteArray, v_ = .string r ∧ K r M) M := by
  refine br278 (K := K) ?_
  have hlen := (hs M h).len
  have w1 : IntKind.wrap .i64 (2 * (s.n : Int)) = 2 * (s.n : Int) := w64 (by omega) (by omega)
  unfold S278
  rw [w1]
  refine must_ ⟨Int.le_refl _, by omega, by omega, by omega⟩ (new_ h fun b2 M2 h2 => ?_)
  have h3 : At (arr ⟨some (b2, 0), 0, (2 * (s.n : Int)).toNat⟩ 5 1 (cb []) * F) M2 := by
    refine At.close (junk := (madeCells #[.int .u8 0] ((2 * (s.n : Int)).toNat * 1)).toList) h2 rfl rfl ?_ (Nat.zero_le _) (by simp only; omega)
    simp [cb, size_madeCells]
  unfold S278_2
  refine Lp_of (σ := Sl × Int) (fun x M' => 0 ≤ x.2 ∧ x.2 ≤ l.length ∧ At (arr x.1 5 1 (cb (hexOf (l.take x.2.toNat))) * F) M') (fun x => l.length - x.2.toNat) ?_ ⟨Int.le_refl _, Int.natCast_nonneg _, by simp [hexOf]; exact h3⟩
  rintro ⟨r, i⟩ M3 next ⟨i0, i1, h4⟩ hnx
  simp only at i0 i1 h4 hnx ⊢
  unfold S278_2b
  refine ite_ (fun hc => ?_) (fun hc => ?_)
  · have hlt : i < l.length := by have := of_decide_eq_true hc; omega
    obtain ⟨c, hcc⟩ : ∃ c, l[i.toNat]? = some c := ⟨_, List.getElem?_eq_getElem (by omega)⟩
    have hb := (hs M3 h4.r)
    refine hb.bAt i0 hlt fun q hq => ldIq hq (call330_ (call330_ (newc_ h4 fun b12 M5 h5 => ?_)))
    have hbc : bAt l i.toNat = c.toNat := by simp [bAt, hcc]
    rw [hbc, digit_u8, digit_u8 (iand .u8 c.toNat 15)] at h5
    have hl5 := hexOf_len (l.take i.toNat)
    have hl6 : (l.take i.toNat).length ≤ l.length := by simp; omega
    rw [w64 (x := i + 1) (by omega) (by omega)]
    refine app_arr (s := r) (l := hexOf (l.take i.toNat)) (l2 := hex2 c) h5 (h5.lit (b := b12) (hex2 c) rfl (by simp [hex2]) rfl) (by simp [hex2]; omega) fun r6 M6 h6 => hnx _ _ ⟨by omega, by omega, ?_⟩ (by simp; omega)
    have e5 : (i + 1).toNat = i.toNat + 1 := by omega
    have e6 : hexOf (l.take (i.toNat + 1)) = hexOf (l.take i.toNat) ++ hex2 c := by rw [List.take_add_one, hcc]; simp [hexOf]
    simp only [e5, e6]
    exact h6.use
  · have hge : i = l.length := by have := of_decide_eq_false hc; omega
    subst hge
    unfold S278_1
    have e : l.take ((l.length : Int).toNat) = l := by simp
    rw [e] at h4
    exact (h4.byt (s := r)).b2s (hK M3 h4.r)
theorem call195_ {s : Sl} {l : List UInt8} {K : ByteArray → Mem → Prop} (h : At F M) [Knb F s l] (hl : l.length ≤ 100000000) (hK : ∀ M', At F M' → K (nameOf l) M') :
    call 195 [Sl.v s] X (fun v_ M => ∃ r : ByteArray, v_ = .string r ∧ K r M) M := by
  refine br195 (K := K) ?_
  unfold S195
  refine call277_ h hl fun M1 h1 => newc_ h1 fun b2 M2 h2 => ?_
  have hcl : (cb (sha l)).length = 32 := by rw [cb_length, sha_len]
  refine stA_ (b := b2) h2 (by simp) hcl cb_one fun M3 h3 => ?_
  refine call278_ (l := sha l) h3 (fun M' h' => h'.lit (b := b2) (sha l) rfl (by rw [sha_len]; decide) (sha_len l).symm) (by rw [sha_len]; decide) fun M4 h4 => hK M4 h4.r
theorem callK195_ {s : Sl} {l : List UInt8} {κ : ByteArray → Mem → Prop} (h : At F M) [Knb F s l] (hl : l.length ≤ 100000000) (hK : ∀ M', At F M' → κ (nameOf l) M') :
    callK 195 [Sl.v s] (fun v_ M => ∃ r : ByteArray, v_ = .string r ∧ κ r M) M := by
  have kb := knb_fz (h.byt (s := s))
  exact (call195_ (F := fz M) (s := s) (K := fun r M' => Sub M M' ∧ κ r M') (at_fz M) hl fun M' h' => ⟨fz_sub h', hK M' (h.sub (fz_sub h'))⟩).mono (fun v M' ⟨r, g1, g2, g3⟩ => ⟨g2, r, g1, g3⟩) (fun _ _ h => h)
end
end Go.Proofs.YtdndpmlapcbjaaaGreat

namespace Go.Proofs.YtdndpmlapcbjaaaGreat
open Go Go.RowKit
set_option linter.unusedSimpArgs false
set_option linter.unusedVariables false

def fileOf (key : List UInt8) (dg i : Nat) : ByteArray := (((⟨#[99, 45]⟩ : ByteArray) ++ (nameOf key).extract 0 dg) ++ (⟨#[45]⟩ : ByteArray)) ++ (⟨#[u8 (48 + IntKind.wrap .u8 i)]⟩ : ByteArray)
theorem fileOf_size (key : List UInt8) {dg : Nat} (i : Nat) (hd : dg ≤ 64) : (fileOf key dg i).size = dg + 4 := by
  have h := nameOf_size key
  have e1 : (⟨#[99, 45]⟩ : ByteArray).size = 2 := rfl
  have e2 : (⟨#[45]⟩ : ByteArray).size = 1 := rfl
  have e3 : (⟨#[u8 (48 + IntKind.wrap .u8 i)]⟩ : ByteArray).size = 1 := rfl
  simp only [fileOf, ByteArray.size_append, ByteArray.size_extract, h, e1, e2, e3]
  omega
def hasPre (s p : ByteArray) : Bool := decide (p.size ≤ s.size) && seq (s.extract 0 p.size) p

section
variable {F H : HP} {M : Mem} {X : List PanicEntry → Mem → Prop}
theorem call119_ {s : Sl} {l : List UInt8} {dg i : Nat} {K : ByteArray → Mem → Prop} (h : At F M) [kb : Knb F s l] (hl : l.length ≤ 100000000) (hd : dg ≤ 64) (hi : i < 8) (hK : ∀ M', At F M' → K (fileOf l dg i) M') :
    call 119 [Sl.v s, .int .i64 dg, .int .i64 i] X (fun v_ M => ∃ r : ByteArray, v_ = .string r ∧ K r M) M := by
  refine br119 (K := K) ?_
  have hn := nameOf_size l
  have e1 : (⟨#[99, 45]⟩ : ByteArray).size = 2 := rfl
  have e2 : (⟨#[45]⟩ : ByteArray).size = 1 := rfl
  have e3 : (⟨#[u8 (48 + IntKind.wrap .u8 i)]⟩ : ByteArray).size = 1 := rfl
  have z0 : (0 : Int).toNat = 0 := rfl
  have z1 : ((dg : Nat) : Int).toNat = dg := Int.toNat_natCast dg
  have hx : ((nameOf l).extract 0 dg).size = dg := by rw [ByteArray.size_extract, hn]; omega
  unfold S119
  refine iteF (decide_eq_false (by omega)) ?_
  unfold S119_1
  rw [decide_eq_false (p := (dg : Int) > 64) (by omega)]
  refine iteF rfl ?_
  unfold S119_2
  rw [decide_eq_false (p := (i : Int) < 0) (by omega)]
  refine iteF rfl ?_
  unfold S119_3
  rw [decide_eq_false (p := (i : Int) ≥ 8) (by omega)]
  refine iteF rfl (both_ ?_ ?_)
  · refine callK195_ h hl fun M1 h1 => ?_
    rw [z0, z1]
    refine must_ ⟨Int.le_refl _, by omega, by omega⟩ (must_ (by rw [e1, hx]; omega) (must_ (by rw [ByteArray.size_append, e1, e2, hx]; omega) (newc_ h1 fun b11 M2 h2 => ?_)))
    rw [u8_val] at h2
    refine (h2.lit (b := b11) [u8 (48 + IntKind.wrap .u8 i)] rfl (by simp) rfl).b2s ?_
    refine must_ ?_ ?_
    · rw [ByteArray.size_append, ByteArray.size_append, e1, e2, hx]
      have : (⟨[u8 (48 + IntKind.wrap .u8 i)].toArray⟩ : ByteArray).size = 1 := rfl
      rw [this]; omega
    · unfold S119_4
      exact hK M2 h2.r
  · refine newc_ h fun b11 M2 h2 => ?_
    rw [u8_val] at h2
    refine (h2.lit (b := b11) [u8 (48 + IntKind.wrap .u8 i)] rfl (by simp) rfl).b2s ?_
    refine callK195_ h2 hl fun M1 h1 => ?_
    rw [z0, z1]
    refine must_ ⟨Int.le_refl _, by omega, by omega⟩ (must_ (by rw [e1, hx]; omega) (must_ (by rw [ByteArray.size_append, e1, e2, hx]; omega) (must_ ?_ ?_)))
    · rw [ByteArray.size_append, ByteArray.size_append, e1, e2, hx]
      have : (⟨[u8 (48 + IntKind.wrap .u8 i)].toArray⟩ : ByteArray).size = 1 := rfl
      rw [this]; omega
    · unfold S119_4
      exact hK M1 h1.r
theorem callK119_ {s : Sl} {l : List UInt8} {dg i : Nat} {κ : ByteArray → Mem → Prop} (h : At F M) [Knb F s l] (hl : l.length ≤ 100000000) (hd : dg ≤ 64) (hi : i < 8) (hK : ∀ M', At F M' → κ (fileOf l dg i) M') :
    callK 119 [Sl.v s, .int .i64 dg, .int .i64 i] (fun v_ M => ∃ r : ByteArray, v_ = .string r ∧ κ r M) M := by
  have kb := knb_fz (h.byt (s := s))
  exact (call119_ (F := fz M) (s := s) (K := fun r M' => Sub M M' ∧ κ r M') (at_fz M) hl hd hi fun M' h' => ⟨fz_sub h', hK M' (h.sub (fz_sub h'))⟩).mono (fun v M' ⟨r, g1, g2, g3⟩ => ⟨g2, r, g1, g3⟩) (fun _ _ h => h)
theorem call55_ {s p : ByteArray} {K : Bool → Mem → Prop} (h : K (hasPre s p) M) : call 55 [.string s, .string p] X (fun v_ M => ∃ r : Bool, v_ = .bool r ∧ K r M) M := by
  refine br55 (K := K) ?_
  unfold S55
  refine br118 (K := K) ?_
  unfold S118 S118_1
  refine ite_ (fun hc => ?_) (fun hc => ?_)
  · have : p.size ≤ s.size := by have := of_decide_eq_true hc; omega
    refine must_ ⟨Int.le_refl _, by omega, by omega⟩ ?_
    rw [hasPre, decide_eq_true this] at h
    simpa using h
  · have : ¬ (p.size ≤ s.size) := by have := of_decide_eq_false hc; omega
    rw [hasPre, decide_eq_false this] at h
    simpa using h

/-! ### isSound -/
def soundB (dg : Nat) (name : ByteArray) (b : List UInt8) : Bool := match casParse b with
  | some (k, _) => (List.range 8).any fun i => seq name (fileOf k dg i)
  | none => false
theorem any_range_succ (p : Nat → Bool) (n : Nat) : (List.range (n + 1)).any p = ((List.range n).any p || p n) := by rw [List.range_succ, List.any_append]; simp
theorem casParse_len {l k a : List UInt8} (h : casParse l = some (k, a)) : k.length ≤ l.length ∧ a.length ≤ l.length := by
  have hg := good_le _ l (Nat.lt_succ_self _)
  unfold casParse at h
  split at h
  · split at h
    · rename_i k' a' e
      cases h
      have : good l = (k.length + 8) + (a.length + 8) := by rw [good, e]; simp
      omega
    · cases h
  · cases h
theorem call56_ {sp dp dg : Nat} {name : ByteArray} {s : Sl} {l : List UInt8} {K : Bool → Mem → Prop} (h : At (bs s l * H) M) [p1 : Pick (cl sp) H (117, [ptr (some (dp, 0)), vi dg]) F] (hd : dg ≤ 64) (hl : l.length ≤ 100000000)
    (hK : ∀ M', At H M' → K (soundB dg name l) M') : call 56 [ptr (some (sp, 0)), .string name, Sl.v s] X (fun v_ M => ∃ r : Bool, v_ = .bool r ∧ K r M) M := by
  refine br56 (K := K) ?_
  unfold S56
  refine call17 h (by omega) (fun k a r0 r1 M1 hp h1 => iteF rfl ?_) (fun hp M1 h1 => iteT rfl ?_)
  · have hkl := (casParse_len hp).1
    unfold S56_2
    refine Lp_of (σ := Int) (fun i M' => 0 ≤ i ∧ i ≤ 8 ∧ (List.range i.toNat).any (fun i => seq name (fileOf k dg i)) = false ∧ At (bs r0 k * H) M') (fun i => 8 - i.toNat) ?_ ⟨Int.le_refl _, by decide, rfl, h1.use⟩
    rintro i M2 next ⟨i0, i1, i2, h2⟩ hnx
    unfold S56_2b
    refine ite_ (fun hc => ?_) (fun hc => ?_)
    · have hlt : i < 8 := of_decide_eq_true hc
      obtain ⟨m, hm⟩ : ∃ m : Nat, i = m := ⟨i.toNat, by omega⟩
      subst hm
      refine nn_ (ldI_ h2 rfl (call119_ h2 (by omega) hd (by omega) fun M3 h3 => ite_ (fun hq => ?_) (fun hq => ?_)))
      · have := hK M3 h3.r
        rw [soundB, hp] at this
        have ht : (List.range 8).any (fun i => seq name (fileOf k dg i)) = true := List.any_eq_true.2 ⟨m, List.mem_range.2 (by omega), hq⟩
        simp only [ht] at this
        exact this
      · rw [w64 (by omega) (by omega)]
        refine hnx _ _ ⟨by omega, by omega, ?_, h3⟩ (by omega)
        have e : ((m : Int) + 1).toNat = m + 1 := by omega
        rw [e, any_range_succ, hq, Bool.or_false]; exact i2
    · have hge : i = 8 := by have := of_decide_eq_false hc; omega
      subst hge
      unfold S56_1
      have := hK M2 h2.r
      rw [soundB, hp] at this
      have hf : (List.range 8).any (fun i => seq name (fileOf k dg i)) = false := i2
      simp only [hf] at this
      exact this
  · have := hK M1 h1
    rw [soundB, hp] at this
    exact this

/-! ### the slots of a key -/
def slotFile (d : DS) (dg : Nat) (key : List UInt8) (i : Nat) : Option (List UInt8) := (rget d.now (fileOf key dg i)).map d.dataAt
def slotP (d : DS) (dg : Nat) (key : List UInt8) (i : Nat) : Option (List UInt8 × List UInt8) := (slotFile d dg key i).bind casParse
def slotV (d : DS) (dg : Nat) (key : List UInt8) (i : Nat) (s0 s1 : Sl) : Value := .agg #[.string (fileOf key dg i), .bool (slotFile d dg key i).isSome, .bool (slotP d dg key i).isSome, Sl.v s0, Sl.v s1]
def slotK (d : DS) (dg : Nat) (key : List UInt8) (i : Nat) : List UInt8 := ((slotP d dg key i).map (·.1)).getD []
def slotA (d : DS) (dg : Nat) (key : List UInt8) (i : Nat) : List UInt8 := ((slotP d dg key i).map (·.2)).getD []
theorem dataAt_len {d : DS} (hd : d.Ok) (i : Int) : (d.dataAt i).length ≤ 1048576 := by
  unfold DS.dataAt
  cases h : d.fd[i.toNat]? with
  | none => simp
  | some x => exact hd.sz x (List.mem_of_getElem? h)

theorem it203 {τ : Type} {y : Value} {b1 b2 sp dp dg : Nat} {s : Sl} {key : List UInt8} {d : DS} {C C1 : HP} (nxt : Nat → Prop) (Z : τ → HP) (Q : τ → Prop) {K : Mem → Prop} (hd : dg ≤ 64) (hkl : key.length ≤ 100000000)
    (h : At (cl b2 (32, [Sl.v s]) * (cl b1 (28, [ptr (some (sp, 0))]) * C)) M) (hC : C = dskA dp d * (cl sp (117, [ptr (some (dp, 0)), vi dg]) * C1)) (kb : Knb C s key)
    (step : ∀ i s0 s1 M G (κ : Value → Mem → Prop), i < 8 → (∀ j, j < i → nxt j) → At (bs s0 (slotK d dg key i) * (bs s1 (slotA d dg key i) * (C * G))) M → (∀ M' G', nxt i → At (C * (G * G')) M' → κ (.bool true) M') → (∀ z M', Q z → At (Z z) M' → κ (.bool false) M') → callV y [slotV d dg key i s0 s1] X κ M)
    (fin : ∀ M, (∀ j, j < 8 → nxt j) → At C M → K M) (stop : ∀ z M, Q z → At (Z z) M → K M) : S203 y (some (b2, 0)) (some (b1, 0)) K X M := by
  unfold S203 S203_2
  refine Lp_of (σ := Int) (fun i M' => 0 ≤ i ∧ i ≤ 8 ∧ (∀ j : Nat, j < i → nxt j) ∧ At (cl b2 (32, [Sl.v s]) * (cl b1 (28, [ptr (some (sp, 0))]) * C)) M') (fun i => 8 - i.toNat) ?_ ⟨Int.le_refl _, by decide, fun j hj => by omega, h⟩
  rintro i M2 next ⟨i0, i1, i2, h2⟩ hnx
  unfold S203_2b
  refine ite_ (fun hc => ?_) (fun hc => ?_)
  · have hlt : i < 8 := of_decide_eq_true hc
    obtain ⟨m, hm⟩ : ∃ m : Nat, i = m := ⟨i.toNat, by omega⟩
    subst hm
    have h2' : At (dskA dp d * (cl sp (117, [ptr (some (dp, 0)), vi dg]) * (C1 * (cl b2 (32, [Sl.v s]) * cl b1 (28, [ptr (some (sp, 0))]))))) M2 := h2.cast (by rw [hC]; ac_rfl)
    refine nn_ (ldL_ h2 rfl (nn_ (ldP_ h2 rfl (nn_ (ldI_ h2' rfl (callK119_ h2 hkl hd (by omega) fun M3 h3 => ldP_ h3 rfl (nn_ ?_)))))))
    have h3' : At (dskA dp d * (cl sp (117, [ptr (some (dp, 0)), vi dg]) * (C1 * (cl b2 (32, [Sl.v s]) * cl b1 (28, [ptr (some (sp, 0))]))))) M3 := h3.cast (by rw [hC]; ac_rfl)
    have hok := dskA_ok h3'
    have fin3 : ∀ M4 s0 s1 G4, At (bs s0 (slotK d dg key m) * (bs s1 (slotA d dg key m) * (dskA dp d * (cl sp (117, [ptr (some (dp, 0)), vi dg]) * (C1 * (cl b2 (32, [Sl.v s]) * (cl b1 (28, [ptr (some (sp, 0))]) * G4))))))) M4 →
        S203_3 (m : Int) (fileOf key dg m) (slotFile d dg key m).isSome (slotP d dg key m).isSome s0 s1 y (some (b2, 0)) (some (b1, 0)) K X next M4 := by
      intro M4 s0 s1 G4 h4
      unfold S203_3
      refine step m s0 s1 M4 (cl b2 (32, [Sl.v s]) * (cl b1 (28, [ptr (some (sp, 0))]) * G4)) _ (by omega) (fun j hj => i2 j (by omega)) (h4.cast (by rw [hC]; ac_rfl)) (fun M5 G' hn h5 => ⟨true, rfl, iteF rfl ?_⟩) (fun z M5 hq h5 => ⟨false, rfl, iteT rfl (stop z M5 hq h5)⟩)
      rw [w64 (by omega) (by omega)]
      refine hnx _ _ ⟨by omega, by omega, fun j hj => ?_, h5.use⟩ (by omega)
      by_cases hjm : j = m
      · subst hjm; exact hn
      · exact i2 j (by omega)
    refine ldP_ h3' rfl (call16_ h3' (fun v r M4 hv h4 => iteT rfl ?_) (fun hn => iteF rfl ?_))
    · have hsf : slotFile d dg key m = some (d.dataAt v) := by rw [slotFile, hv]; rfl
      have hdl := dataAt_len hok v
      refine call17 h4.share (by omega) (fun k a r0 r1 M5 hp h5 => ?_) (fun hp M5 h5 => ?_)
      · have hsp : slotP d dg key m = some (k, a) := by rw [slotP, hsf]; exact hp
        have := fin3 M5 r0 r1 tt
        simp only [slotK, slotA, hsp, hsf, Option.map_some, Option.getD_some, Option.isSome_some, sm_tt] at this
        exact this h5
      · have hsp : slotP d dg key m = none := by rw [slotP, hsf]; exact hp
        have := fin3 M5 ⟨none, 0, 0⟩ ⟨none, 0, 0⟩ tt
        simp only [slotK, slotA, hsp, hsf, Option.map_none, Option.getD_none, Option.isSome_some, Option.isSome_none, sm_tt] at this
        exact this (bs_nil (bs_nil h5))
    · have hsf : slotFile d dg key m = none := by rw [slotFile, hn]; rfl
      have hsp : slotP d dg key m = none := by rw [slotP, hsf]; rfl
      have := fin3 M3 ⟨none, 0, 0⟩ ⟨none, 0, 0⟩ tt
      simp only [slotK, slotA, hsp, hsf, Option.map_none, Option.getD_none, Option.isSome_none, sm_tt] at this
      exact this (bs_nil (bs_nil h3'))
  · have hge : i = 8 := by have := of_decide_eq_false hc; omega
    subst hge
    unfold S203_1
    exact fin M2 (fun j hj => i2 j (by omega)) h2.r.r
end
end Go.Proofs.YtdndpmlapcbjaaaGreat

namespace Go.Proofs.YtdndpmlapcbjaaaGreat
open Go Go.RowKit
set_option linter.unusedSimpArgs false
set_option linter.unusedVariables false

section
variable {F H : HP} {M : Mem} {X : List PanicEntry → Mem → Prop}
theorem call125_ {sp : Nat} {s : Sl} {κ : Value → Mem → Prop} (h : At H M) (hκ : ∀ b1 b2 M', At (cl b2 (32, [Sl.v s]) * (cl b1 (28, [ptr (some (sp, 0))]) * H)) M' → κ (.func (.func 203) #[] #[ptr (some (b2, 0)), ptr (some (b1, 0))]) M') :
    call 125 [ptr (some (sp, 0)), Sl.v s] X (fun v_ M => ∃ r : Value, v_ = r ∧ κ r M) M := by
  refine br125 (K := κ) ?_
  unfold S125
  exact newc_ h fun b1 M1 h1 => newc_ h1 fun b2 M2 h2 => hκ b1 b2 M2 h2
theorem rngAll {τ : Type} {b1 b2 sp dp dg : Nat} {s : Sl} {key : List UInt8} {d : DS} {C C1 : HP} {body : List Value → (Mem → Prop) → (Code → Mem → Prop) → Mem → Prop} {κ : Mem → Prop} {κj : Code → Mem → Prop} (nxt : Nat → Prop) (Z : τ → HP) (Q : τ → Prop) (hd : dg ≤ 64) (hkl : key.length ≤ 100000000)
    (h : At (cl b2 (32, [Sl.v s]) * (cl b1 (28, [ptr (some (sp, 0))]) * C)) M) (hC : C = dskA dp d * (cl sp (117, [ptr (some (dp, 0)), vi dg]) * C1)) (kb : Knb C s key)
    (step : ∀ i s0 s1 M G (nx : Mem → Prop) (rt : Code → Mem → Prop), i < 8 → (∀ j, j < i → nxt j) → At (bs s0 (slotK d dg key i) * (bs s1 (slotA d dg key i) * (C * G))) M → (∀ M' G', nxt i → At (C * (G * G')) M' → nx M') → (∀ z M', Q z → At (Z z) M' → rt .ret M') → body [slotV d dg key i s0 s1] nx rt M)
    (fin : ∀ M, (∀ j, j < 8 → nxt j) → At C M → κ M) (stop : ∀ z M, Q z → At (Z z) M → κj .ret M) : rng (.func (.func 203) #[] #[ptr (some (b2, 0)), ptr (some (b1, 0))]) 1 body κ κj M := by
  refine ⟨203, [ptr (some (b2, 0)), ptr (some (b1, 0))], rfl, Tryz.call203, fun y l_ oR oD hl law => ?_⟩
  refine br203 (it203 (C := bl l_ oR * C) (C1 := bl l_ oR * C1) nxt (fun z => bl l_ (oD .ret) * Z z) Q hd hkl ((h.new hl oR).cast (by ac_rfl)) (by rw [hC]; ac_rfl) ⟨fun m hm => kb.p m (Ent.r _ _ m hm)⟩ ?_ ?_ ?_)
  · intro i s0 s1 M' G κ' hi hbef h' hκ1 hκ2
    have h2 : At (bl l_ oR * (bs s0 (slotK d dg key i) * (bs s1 (slotA d dg key i) * (C * G)))) M' := h'.cast (by ac_rfl)
    refine law _ κ' M' rfl h2.blk (step i s0 s1 _ G _ _ hi hbef h2.del (fun M3 G' hn h3 hl3 => hκ1 _ G' hn ?_) (fun z M3 hq h3 hl3 => hκ2 z _ hq (h3.new hl3 (oD .ret))))
    exact (h3.new hl3 oR).cast (by ac_rfl)
  · intro M' hn h'
    exact rfin h' fun M2 h2 => fin M2 hn h2
  · intro z M' hq h'
    exact .inr ⟨.ret, h'.blk, stop z _ hq h'.del⟩

/-! ### find -/
def casFind (d : DS) (dg : Nat) (key : List UInt8) : Option Nat := (List.range 8).find? fun i => (slotP d dg key i).isSome && decide (slotK d dg key i = key)
theorem find_no {d : DS} {dg : Nat} {key : List UInt8} (h : ∀ j, j < 8 → ((slotP d dg key j).isSome && decide (slotK d dg key j = key)) = false) : casFind d dg key = none := by
  rw [casFind, List.find?_eq_none]
  intro x hx
  rw [h x (List.mem_range.1 hx)]; simp
theorem find_yes {d : DS} {dg : Nat} {key : List UInt8} {i : Nat} (hi : i < 8) (h : ((slotP d dg key i).isSome && decide (slotK d dg key i = key)) = true) (hn : ∀ j, j < i → ((slotP d dg key j).isSome && decide (slotK d dg key j = key)) = false) : casFind d dg key = some i := by
  rw [casFind, List.find?_range_eq_some]
  exact ⟨h, List.mem_range.2 hi, fun j hj => by rw [hn j hj]; rfl⟩
theorem sts_ {b t : Nat} {old vs : List Value} {κ : Mem → Prop} (h : At H M) [hp : Pick (cl b) H (t, old) F] (hl : old.length = vs.length) (hκ : ∀ M', At (cl b (t, vs) * F) M' → κ M') : sts (b, 0) vs κ M := by
  have hA : At (cl b (t, old) * F) M := h.cast hp.eq
  have hB : M b = some (.cells old.toArray t (0, 0)) := At.blk hA
  refine ⟨fun j hj => ⟨_, _, _, hB, by simp; omega, by simp⟩, ?_⟩
  rw [stos_upd vs M old 0 hB, putL_eq _ _ _ (by omega)]
  have e : old.take 0 ++ vs ++ old.drop (0 + vs.length) = vs := by
    rw [List.drop_of_length_le (by omega)]; simp
  rw [e]
  exact hκ _ (At.upd hA _)
theorem seq_bytes (a b : List UInt8) : seq ⟨a.toArray⟩ ⟨b.toArray⟩ = decide (a = b) := by
  rw [seq_eq]
  exact decide_eq_decide.2 ⟨fun h => by simpa using congrArg (fun x : ByteArray => x.data.toList) h, fun h => by rw [h]⟩
theorem call73_ {s t : Sl} {a b : List UInt8} {K : Bool → Mem → Prop} (hs : BS M s a) (ht : BS M t b) (hK : K (decide (a = b)) M) : call 73 [Sl.v s, Sl.v t] X (fun v_ M => ∃ r : Bool, v_ = .bool r ∧ K r M) M := by
  refine br73 (K := K) ?_
  unfold S73
  refine hs.b2s (ht.b2s ?_)
  rw [seq_bytes]; exact hK
theorem call60_ {sp dp dg : Nat} {s : Sl} {key : List UInt8} {d : DS} {C1 : HP} {K : ByteArray → Bool → Bool → Sl → Sl → Bool → Mem → Prop} (hd : dg ≤ 64) (hkl : key.length ≤ 100000000) (h : At (dskA dp d * (cl sp (117, [ptr (some (dp, 0)), vi dg]) * C1)) M) [kb : Knb C1 s key]
    (h1 : ∀ i b1 b2 s0 s1 M', i < 8 → casFind d dg key = some i → At (bs s1 (slotA d dg key i) * (dskA dp d * (cl sp (117, [ptr (some (dp, 0)), vi dg]) * C1))) M' → K (fileOf key dg i) b1 b2 s0 s1 true M')
    (h2 : ∀ M', casFind d dg key = none → At (dskA dp d * (cl sp (117, [ptr (some (dp, 0)), vi dg]) * C1)) M' → K (⟨#[]⟩ : ByteArray) false false ⟨none, 0, 0⟩ ⟨none, 0, 0⟩ false M') :
    call 60 [ptr (some (sp, 0)), Sl.v s] X (fun v_ M => ∃ (r0_0 : ByteArray) (r0_1 : Bool) (r0_2 : Bool) (r0_3 : Sl) (r0_4 : Sl) (r1 : Bool), v_ = .tuple #[.agg #[.string r0_0, .bool r0_1, .bool r0_2, Sl.v r0_3, Sl.v r0_4], .bool r1] ∧ K r0_0 r0_1 r0_2 r0_3 r0_4 r1 M) M := by
  refine br60 (K := K) ?_
  unfold S60
  refine newc_ h fun x1 M1 g1 => newc_ g1 fun x2 M2 g2 => newc_ g2 fun x3 M3 g3 => iteF rfl (ldL_ g3 rfl (call125_ (sp := sp) g3 fun c1 c2 M4 g4 => ?_))
  unfold S60_1
  refine rngAll (τ := Nat × Sl × Sl) (C1 := C1 * (cl x1 (32, [Sl.v s]) * (cl x2 (125, [.string (⟨#[]⟩ : ByteArray), .bool false, .bool false, Sl.v ⟨none, 0, 0⟩, Sl.v ⟨none, 0, 0⟩]) * cl x3 (4, [.bool false])))) (s := s) (key := key) (d := d) (sp := sp) (dp := dp) (dg := dg)
    (C := dskA dp d * (cl sp (117, [ptr (some (dp, 0)), vi dg]) * (C1 * (cl x1 (32, [Sl.v s]) * (cl x2 (125, [.string (⟨#[]⟩ : ByteArray), .bool false, .bool false, Sl.v ⟨none, 0, 0⟩, Sl.v ⟨none, 0, 0⟩]) * cl x3 (4, [.bool false]))))))
    (fun j => ((slotP d dg key j).isSome && decide (slotK d dg key j = key)) = false)
    (fun z => cl x2 (125, [.string (fileOf key dg z.1), .bool (slotFile d dg key z.1).isSome, .bool (slotP d dg key z.1).isSome, Sl.v z.2.1, Sl.v z.2.2]) * (cl x3 (4, [.bool true]) * (bs z.2.2 (slotA d dg key z.1) * (dskA dp d * (cl sp (117, [ptr (some (dp, 0)), vi dg]) * C1)))))
    (fun z => z.1 < 8 ∧ casFind d dg key = some z.1) hd hkl (g4.cast (by ac_rfl)) rfl ⟨fun m hm => kb.p m ((Ent.l _ _) _ ((Ent.r _ _) _ ((Ent.r _ _) _ hm)))⟩ ?_ ?_ ?_
  · intro i s0 s1 M5 G nx rt hi hbef h5 hnx hrt
    refine ⟨_, _, _, _, _, rfl, ?_⟩
    unfold S60_1b
    have two : ∀ q x22 M6, At (cl x22 (125, [.string (fileOf key dg i), .bool (slotFile d dg key i).isSome, .bool (slotP d dg key i).isSome, Sl.v s0, Sl.v s1]) * (bs s0 (slotK d dg key i) * (bs s1 (slotA d dg key i) * (dskA dp d * (cl sp (117, [ptr (some (dp, 0)), vi dg]) * (C1 * (cl x1 (32, [Sl.v s]) * (cl x2 (125, [.string (⟨#[]⟩ : ByteArray), .bool false, .bool false, Sl.v ⟨none, 0, 0⟩, Sl.v ⟨none, 0, 0⟩]) * cl x3 (4, [.bool false])))) * G))))) M6 →
        q = ((slotP d dg key i).isSome && decide (slotK d dg key i = key)) → S60_2 (x22, 0) q (x1, 0) (x2, 0) (x3, 0) (.func (.func 203) #[] #[ptr (some (c2, 0)), ptr (some (c1, 0))]) K X nx rt M6 := by
      intro q x22 M6 h6 hq
      unfold S60_2
      refine ite_ (fun hqt => ?_) (fun hqf => ?_)
      · refine ldS_ h6 rfl (ldB_ h6 rfl (ldB_ h6 rfl (ldL_ h6 rfl (ldL_ h6 rfl (sts_ (b := x2) h6 (by rfl) fun M7 h7 => st0_ h7 fun M8 h8 => hrt (i, s0, s1) M8 ⟨hi, find_yes hi (by rw [← hq]; exact hqt) hbef⟩ h8.use)))))
      · exact hnx M6 (cl x22 (125, [.string (fileOf key dg i), .bool (slotFile d dg key i).isSome, .bool (slotP d dg key i).isSome, Sl.v s0, Sl.v s1])) (by rw [← hq]; exact hqf) h6.use
    refine newc_ h5 fun x22 M6 h6 => sts_ (b := x22) h6 (by rfl) fun M7 h7 => ldB_ h7 rfl (ite_ (fun hok => ?_) (fun hok => ?_))
    · refine ldL_ h7 rfl (ldL_ h7 rfl (call73_ (a := slotK d dg key i) (b := key) (h7.byt (s := s0)) ?_ (two _ x22 M7 h7.use (by rw [hok]; rfl))))
      have h8 : At (C1 * tt) M7 := h7.use
      exact At.byt (s := s) (h8.cast (sm_tt C1))
    · exact two _ x22 M7 h7.use (by rw [hok]; rfl)
  · intro M5 hn h5
    refine sts_ (b := x2) h5 (by rfl) fun M6 h6 => st0_ h6 fun M7 h7 => ldS_ h7 rfl (ldB_ h7 rfl (ldB_ h7 rfl (ldL_ h7 rfl (ldL_ h7 rfl (ldB_ h7 rfl (h2 M7 (find_no hn) h7.use))))))
  · rintro ⟨i, s0, s1⟩ M5 ⟨hi, hf⟩ h5
    refine ⟨rfl, ldS_ h5 rfl (ldB_ h5 rfl (ldB_ h5 rfl (ldL_ h5 rfl (ldL_ h5 rfl (ldB_ h5 rfl (h1 i _ _ s0 s1 M5 hi hf h5.r.r))))))⟩
end
end Go.Proofs.YtdndpmlapcbjaaaGreat

namespace Go.Proofs.YtdndpmlapcbjaaaGreat
open Go Go.RowKit
set_option linter.unusedSimpArgs false
set_option linter.unusedVariables false

def casFree (d : DS) (dg : Nat) (key : List UInt8) : Option Nat := (List.range 8).find? fun i => !(slotFile d dg key i).isSome
theorem free_no {d : DS} {dg : Nat} {key : List UInt8} (h : ∀ j, j < 8 → (slotFile d dg key j).isSome = true) : casFree d dg key = none := by
  rw [casFree, List.find?_eq_none]
  intro x hx
  rw [h x (List.mem_range.1 hx)]; simp
theorem free_yes {d : DS} {dg : Nat} {key : List UInt8} {i : Nat} (hi : i < 8) (h : (slotFile d dg key i).isSome = false) (hn : ∀ j, j < i → (slotFile d dg key j).isSome = true) : casFree d dg key = some i := by
  rw [casFree, List.find?_range_eq_some]
  exact ⟨by rw [h]; rfl, List.mem_range.2 hi, fun j hj => by rw [hn j hj]; rfl⟩

section
variable {F H : HP} {M : Mem} {X : List PanicEntry → Mem → Prop}
theorem call61_ {sp dp dg : Nat} {s : Sl} {key : List UInt8} {d : DS} {C1 : HP} {K : ByteArray → Mem → Prop} (hd : dg ≤ 64) (hkl : key.length ≤ 100000000) (h : At (dskA dp d * (cl sp (117, [ptr (some (dp, 0)), vi dg]) * C1)) M) [kb : Knb C1 s key]
    (h1 : ∀ i M', i < 8 → casFree d dg key = some i → At (dskA dp d * (cl sp (117, [ptr (some (dp, 0)), vi dg]) * C1)) M' → K (fileOf key dg i) M')
    (h2 : ∀ M', casFree d dg key = none → At (dskA dp d * (cl sp (117, [ptr (some (dp, 0)), vi dg]) * C1)) M' → K (⟨#[]⟩ : ByteArray) M') :
    call 61 [ptr (some (sp, 0)), Sl.v s] X (fun v_ M => ∃ r : ByteArray, v_ = .string r ∧ K r M) M := by
  refine br61 (K := K) ?_
  unfold S61
  refine newc_ h fun x1 M1 g1 => call125_ (sp := sp) g1 fun c1 c2 M4 g4 => ?_
  unfold S61_1
  refine rngAll (τ := Nat) (C1 := C1 * cl x1 (9, [.string (⟨#[]⟩ : ByteArray)])) (s := s) (key := key) (d := d) (sp := sp) (dp := dp) (dg := dg)
    (C := dskA dp d * (cl sp (117, [ptr (some (dp, 0)), vi dg]) * (C1 * cl x1 (9, [.string (⟨#[]⟩ : ByteArray)]))))
    (fun j => (slotFile d dg key j).isSome = true)
    (fun z => cl x1 (9, [.string (fileOf key dg z)]) * (dskA dp d * (cl sp (117, [ptr (some (dp, 0)), vi dg]) * C1)))
    (fun z => z < 8 ∧ casFree d dg key = some z) hd hkl (g4.cast (by ac_rfl)) rfl ⟨fun m hm => kb.p m ((Ent.l _ _) _ ((Ent.r _ _) _ ((Ent.r _ _) _ hm)))⟩ ?_ ?_ ?_
  · intro i s0 s1 M5 G nx rt hi hbef h5 hnx hrt
    refine ⟨_, _, _, _, _, rfl, ?_⟩
    unfold S61_1b
    refine newc_ h5 fun x22 M6 h6 => sts_ (b := x22) h6 (by rfl) fun M7 h7 => ldB_ h7 rfl (ite_ (fun hok => ?_) (fun hok => ?_))
    · refine ldS_ h7 rfl (st0_ h7 fun M8 h8 => hrt i M8 ⟨hi, free_yes hi (by simpa using hok) hbef⟩ h8.use)
    · exact hnx M7 (cl x22 (125, [.string (fileOf key dg i), .bool (slotFile d dg key i).isSome, .bool (slotP d dg key i).isSome, Sl.v s0, Sl.v s1])) (by simpa using hok) h7.use
  · intro M5 hn h5
    exact st0_ h5 fun M6 h6 => ldS_ h6 rfl (h2 M6 (free_no hn) h6.use)
  · rintro i M5 ⟨hi, hf⟩ h5
    exact ⟨rfl, ldS_ h5 rfl (h1 i M5 hi hf h5.r)⟩

/-! ### write -/
def tmpOf (n : ByteArray) : ByteArray := n ++ (⟨#[46, 116, 109, 112]⟩ : ByteArray)
def casWrite (d : DS) (n : ByteArray) (b : List UInt8) : Int × DS :=
  let d1 := d.create (tmpOf n)
  if d1.1 ≠ 0 then d1 else
  let d2 := d1.2.append (tmpOf n) b
  if d2.1 = 0 then
    let d3 := d2.2.sync (tmpOf n)
    if d3.1 ≠ 0 then d3 else d3.2.rename (tmpOf n) n
  else if d2.1 = 4 then
    let d3 := d2.2.remove (tmpOf n)
    if d3.1 ≠ 0 then d3 else (4, d3.2)
  else d2
theorem create_lim (d : DS) (n : ByteArray) : (d.create n).2.lim ≤ d.lim + 2 := by
  unfold DS.create; split
  · simp
  · split
    · simp
    · simp [DS.turn, DS.more]
theorem append_lim (d : DS) (n : ByteArray) (b : List UInt8) : (d.append n b).2.lim = d.lim := by
  unfold DS.append; split
  · rfl
  · simp only; split
    · rfl
    · split <;> rfl
theorem sync_lim (d : DS) (n : ByteArray) : (d.sync n).2.lim = d.lim := by
  unfold DS.sync; split <;> rfl
theorem rename_lim (d : DS) (n m : ByteArray) : (d.rename n m).2.lim ≤ d.lim + 1 := by
  unfold DS.rename; split <;> simp [DS.turn]
theorem remove_lim (d : DS) (n : ByteArray) : (d.remove n).2.lim ≤ d.lim + 1 := by
  unfold DS.remove; split <;> simp [DS.turn]
theorem casWrite_lim (d : DS) (n : ByteArray) (b : List UInt8) : (casWrite d n b).2.lim ≤ d.lim + 3 := by
  have h1 := create_lim d (tmpOf n)
  have h2 := append_lim (d.create (tmpOf n)).2 (tmpOf n) b
  have h3 := sync_lim ((d.create (tmpOf n)).2.append (tmpOf n) b).2 (tmpOf n)
  have h4 := rename_lim (((d.create (tmpOf n)).2.append (tmpOf n) b).2.sync (tmpOf n)).2 (tmpOf n) n
  have h5 := remove_lim ((d.create (tmpOf n)).2.append (tmpOf n) b).2 (tmpOf n)
  unfold casWrite
  simp only
  split
  · omega
  · split
    · split <;> omega
    · split
      · split
        · omega
        · simp only; omega
      · omega
theorem call62_ {sp dp dg : Nat} {s : Sl} {b : List UInt8} {n : ByteArray} {d : DS} {C1 : HP} {K : Int → Mem → Prop} (h : At (dskA dp d * (cl sp (117, [ptr (some (dp, 0)), vi dg]) * C1)) M) [kb : Knb C1 s b] (hn : n.size ≤ 1000) (hb : b.length ≤ 1000000) (hl : d.lim + 3 ≤ 100000000)
    (hK : ∀ M', At (dskA dp (casWrite d n b).2 * (cl sp (117, [ptr (some (dp, 0)), vi dg]) * C1)) M' → K (casWrite d n b).1 M') :
    call 62 [ptr (some (sp, 0)), .string n, Sl.v s] X (fun v_ M => ∃ r : Int, v_ = .int .i64 r ∧ K r M) M := by
  refine br62 (K := K) ?_
  have l1 := create_lim d (tmpOf n)
  have l2 := append_lim (d.create (tmpOf n)).2 (tmpOf n) b
  have l3 := sync_lim ((d.create (tmpOf n)).2.append (tmpOf n) b).2 (tmpOf n)
  have e4 : (⟨#[46, 116, 109, 112]⟩ : ByteArray).size = 4 := rfl
  have hz : (tmpOf n).size ≤ 9223372036854775807 := by rw [tmpOf, ByteArray.size_append, e4]; omega
  have et : n ++ (⟨#[46, 116, 109, 112]⟩ : ByteArray) = tmpOf n := rfl
  unfold S62
  rw [et]
  refine must_ (by rw [e4]; omega) (nn_ (ldP_ h rfl (call126_ h (by omega) hz fun M1 g1 => ?_)))
  unfold casWrite at hK
  simp only at hK
  refine ite_ (fun hc => ?_) (fun hc => ?_)
  · have hc' : (d.create (tmpOf n)).1 ≠ 0 := by simpa using hc
    rw [if_pos hc'] at hK
    exact hK M1 g1
  have hc' : ¬ ((d.create (tmpOf n)).1 ≠ 0) := by simpa using hc
  rw [if_neg hc'] at hK
  refine ldP_ g1 rfl (call127_ (s2 := s) (b2 := b) g1 hz (by omega) fun M2 g2 => ite_ (fun ha => ?_) (fun ha => ?_))
  · have ha' : ((d.create (tmpOf n)).2.append (tmpOf n) b).1 = 0 := by simpa using ha
    rw [if_pos ha'] at hK
    refine ldP_ g2 rfl (call128_ g2 hz fun M3 g3 => ite_ (fun hs => ?_) (fun hs => ?_))
    · have hs' : (((d.create (tmpOf n)).2.append (tmpOf n) b).2.sync (tmpOf n)).1 ≠ 0 := by simpa using hs
      rw [if_pos hs'] at hK
      exact hK M3 g3
    · have hs' : ¬ ((((d.create (tmpOf n)).2.append (tmpOf n) b).2.sync (tmpOf n)).1 ≠ 0) := by simpa using hs
      rw [if_neg hs'] at hK
      refine ldP_ g3 rfl (call129_ g3 (by omega) hz (by omega) fun M4 g4 => ite_ (fun hr => hK M4 g4) (fun hr => ?_))
      have hr' : ((((d.create (tmpOf n)).2.append (tmpOf n) b).2.sync (tmpOf n)).2.rename (tmpOf n) n).1 = 0 := by simpa using hr
      rw [hr'] at hK
      exact ldP_ g4 rfl (call58_ g4 fun M5 g5 => hK M5 g5)
  · have ha' : ¬ (((d.create (tmpOf n)).2.append (tmpOf n) b).1 = 0) := by simpa using ha
    rw [if_neg ha'] at hK
    refine ite_ (fun hf => ?_) (fun hf => ?_)
    · have hf' : ((d.create (tmpOf n)).2.append (tmpOf n) b).1 = 4 := by simpa using hf
      rw [if_pos hf'] at hK
      refine ldP_ g2 rfl (call57_ g2 (by omega) hz fun M3 g3 => ite_ (fun hr => ?_) (fun hr => ?_))
      · have hr' : (((d.create (tmpOf n)).2.append (tmpOf n) b).2.remove (tmpOf n)).1 ≠ 0 := by simpa using hr
        rw [if_pos hr'] at hK
        exact hK M3 g3
      · have hr' : ¬ ((((d.create (tmpOf n)).2.append (tmpOf n) b).2.remove (tmpOf n)).1 ≠ 0) := by simpa using hr
        rw [if_neg hr'] at hK
        exact hK M3 g3
    · have hf' : ¬ (((d.create (tmpOf n)).2.append (tmpOf n) b).1 = 4) := by simpa using hf
      rw [if_neg hf'] at hK
      exact hK M2 g2

/-! ### Put, Get, Drop -/
def casPut (d : DS) (dg : Nat) (key art : List UInt8) : Int × DS := if 65536 < key.length ∨ 65536 < art.length then (2, d) else
  if (casFind d dg key).isSome then (0, d) else match casFree d dg key with
  | none => (2, d)
  | some i => casWrite d (fileOf key dg i) (entry key art)
theorem casPut_lim (d : DS) (dg : Nat) (key art : List UInt8) : (casPut d dg key art).2.lim ≤ d.lim + 3 := by
  unfold casPut
  split
  · simp
  · split
    · simp
    · split
      · simp
      · exact casWrite_lim _ _ _
theorem entry_len (key art : List UInt8) : (entry key art).length = key.length + art.length + 16 := by
  simp only [entry, List.length_append, frame_length]; omega
theorem call13_ {sp dp dg : Nat} {s t : Sl} {key art : List UInt8} {d : DS} {C1 : HP} {K : Int → Mem → Prop} (hd : dg ≤ 64) (hkl : key.length ≤ 100000000) (hal : art.length ≤ 100000000) (h : At (dskA dp d * (cl sp (117, [ptr (some (dp, 0)), vi dg]) * C1)) M) [kb : Knb C1 s key] [kb2 : Knb C1 t art] (hl : d.lim + 3 ≤ 100000000)
    (hK : ∀ M', At (dskA dp (casPut d dg key art).2 * (cl sp (117, [ptr (some (dp, 0)), vi dg]) * C1)) M' → K (casPut d dg key art).1 M') :
    call 13 [ptr (some (sp, 0)), Sl.v s, Sl.v t] X (fun v_ M => ∃ r : Int, v_ = .int .i64 r ∧ K r M) M := by
  refine br13 (K := K) ?_
  unfold S13
  refine iteF rfl (call59 (h.byt (s := s)) (h.byt (s := t)) (fun hk1 ha1 r b M1 g1 g2 g3 => ?_) (fun hbig M1 g1 => ?_))
  · have hnb : ¬ (65536 < key.length ∨ 65536 < art.length) := by omega
    rw [casPut, if_neg hnb] at hK
    have h1 : At (dskA dp d * (cl sp (117, [ptr (some (dp, 0)), vi dg]) * (bs r (entry key art) * C1))) M1 := (At.share (h.of_OR g1 g2 g3)).cast (by ac_rfl)
    refine iteF rfl (nn_ (ldP_ h1 rfl (call53_ h1 (iteF rfl ?_))))
    refine call60_ (C1 := bs r (entry key art) * C1) hd hkl h1 (fun i b1 b2 s0 s1 M2 hi hf h2 => iteT rfl ?_) (fun M2 hf h2 => iteF rfl ?_)
    · rw [hf] at hK
      simp only [Option.isSome_some, if_true] at hK
      exact hK M2 h2.use
    · rw [hf] at hK
      simp only [Option.isSome_none, Bool.false_eq_true, if_false] at hK
      refine call61_ (C1 := bs r (entry key art) * C1) hd hkl h2 (fun i M3 hi hfr h3 => ?_) (fun M3 hfr h3 => ?_)
      · rw [hfr] at hK
        simp only at hK
        have hsz := fileOf_size key i hd
        have hne : seq (fileOf key dg i) (⟨#[]⟩ : ByteArray) = false := by
          rw [seq_eq, decide_eq_false_iff_not]
          intro he
          rw [he] at hsz
          have : (⟨#[]⟩ : ByteArray).size = 0 := rfl
          omega
        refine iteF hne (call62_ (C1 := bs r (entry key art) * C1) (s := r) (b := entry key art) h3 (by omega) (by rw [entry_len]; omega) hl fun M4 h4 => hK M4 h4.use)
      · rw [hfr] at hK
        simp only at hK
        refine iteT (by rw [seq_eq]; simp) (hK M3 h3.use)
  · rw [casPut, if_pos hbig] at hK
    exact iteT rfl (hK M1 (h.sub g1))
def casGet (d : DS) (dg : Nat) (key : List UInt8) : Option (List UInt8) := (casFind d dg key).map (slotA d dg key)
theorem call20_ {sp dp dg : Nat} {s : Sl} {key : List UInt8} {d : DS} {C1 : HP} {K : Sl → Bool → Mem → Prop} (hd : dg ≤ 64) (hkl : key.length ≤ 100000000) (h : At (dskA dp d * (cl sp (117, [ptr (some (dp, 0)), vi dg]) * C1)) M) [kb : Knb C1 s key]
    (h1 : ∀ a r M', casGet d dg key = some a → At (bs r a * (dskA dp d * (cl sp (117, [ptr (some (dp, 0)), vi dg]) * C1))) M' → K r true M')
    (h2 : ∀ M', casGet d dg key = none → At (dskA dp d * (cl sp (117, [ptr (some (dp, 0)), vi dg]) * C1)) M' → K ⟨none, 0, 0⟩ false M') :
    call 20 [ptr (some (sp, 0)), Sl.v s] X (fun v_ M => ∃ (r : Sl) (q : Bool), v_ = .tuple #[Sl.v r, .bool q] ∧ K r q M) M := by
  refine br20 (K := K) ?_
  unfold S20
  exact call60_ (C1 := C1) hd hkl h (fun i b1 b2 s0 s1 M2 hi hf g2 => h1 _ s1 M2 (by rw [casGet, hf]; rfl) g2) (fun M2 hf g2 => h2 M2 (by rw [casGet, hf]; rfl) g2)
end
end Go.Proofs.YtdndpmlapcbjaaaGreat

namespace Go.Proofs.YtdndpmlapcbjaaaGreat
open Go Go.RowKit
set_option linter.unusedSimpArgs false
set_option linter.unusedVariables false

theorem rget_iff {l : RowL} {k : ByteArray} {v : Int} (hs : Srt l) : rget l k = some v ↔ (k, v) ∈ l := by
  refine ⟨rget_mem, fun h => ?_⟩
  obtain ⟨i, hi⟩ := List.mem_iff_getElem?.1 h
  obtain ⟨hlt, he⟩ := List.getElem?_eq_some_iff.1 hi
  have hp : rpos l k = i := by
    refine takeWhile_len _ l i (by omega) (fun j x hj hx => ?_) (fun x hx => ?_)
    · obtain ⟨hjl, hxe⟩ := List.getElem?_eq_some_iff.1 hx
      have := List.pairwise_iff_getElem.1 hs j i hjl hlt hj
      rw [he, hxe] at this; exact this
    · rw [hi] at hx; cases hx; exact slt_irrefl k
  unfold rget
  rw [hp, hi]; simp
theorem mem_rdel_iff {l : RowL} (hs : Srt l) {k : ByteArray} {x : ByteArray × Int} : x ∈ rdel l k ↔ x ∈ l ∧ x.1 ≠ k := by
  unfold rdel
  split
  · rename_i hc
    obtain ⟨v, g1, g2, g3⟩ := rget_lt hc
    obtain ⟨q, e⟩ := List.getElem?_eq_some_iff.1 g1
    have hspl : l = l.take (rpos l k) ++ (k, v) :: l.drop (rpos l k + 1) := by
      rw [← e, List.getElem_cons_drop, List.take_append_drop]
    have hp : Srt (l.take (rpos l k) ++ (k, v) :: l.drop (rpos l k + 1)) := by rw [← hspl]; exact hs
    have hp2 := List.pairwise_append.1 hp
    constructor
    · intro h
      refine ⟨?_, ?_⟩
      · rw [hspl]
        rcases List.mem_append.1 h with h | h
        · exact List.mem_append_left _ h
        · exact List.mem_append_right _ (List.mem_cons_of_mem _ h)
      · rintro rfl
        rcases List.mem_append.1 h with h | h
        · have := hp2.2.2 _ h _ (List.mem_cons_self ..)
          rw [slt_irrefl] at this; cases this
        · have := List.rel_of_pairwise_cons hp2.2.1 h
          simp only [slt_irrefl] at this; cases this
    · rintro ⟨h, hne⟩
      rw [hspl] at h
      rcases List.mem_append.1 h with h | h
      · exact List.mem_append_left _ h
      · rcases List.mem_cons.1 h with rfl | h
        · exact absurd rfl hne
        · exact List.mem_append_right _ h
  · rename_i hc
    refine ⟨fun h => ⟨h, ?_⟩, fun h => h.1⟩
    rintro rfl
    have := (rget_iff hs).2 (show (x.1, x.2) ∈ l from h)
    rw [this] at hc; exact hc rfl
theorem mem_rput_iff {l : RowL} (hs : Srt l) {k : ByteArray} {v : Int} {x : ByteArray × Int} : x ∈ rput l k v ↔ x = (k, v) ∨ (x ∈ l ∧ x.1 ≠ k) := by
  unfold rput
  split
  · rename_i hc
    obtain ⟨v0, g1, g2, g3⟩ := rget_lt hc
    obtain ⟨q, e⟩ := List.getElem?_eq_some_iff.1 g1
    have hset : l.set (rpos l k) (k, v) = l.take (rpos l k) ++ (k, v) :: l.drop (rpos l k + 1) := by rw [List.set_eq_take_append_cons_drop, if_pos g3]
    have hd := mem_rdel_iff hs (k := k) (x := x)
    rw [rdel, if_pos hc] at hd
    rw [hset, ← hd]
    simp only [List.mem_append, List.mem_cons]
    constructor
    · rintro (h | h | h)
      · exact .inr (.inl h)
      · exact .inl h
      · exact .inr (.inr h)
    · rintro (h | h | h)
      · exact .inr (.inl h)
      · exact .inl h
      · exact .inr (.inr h)
  · rename_i hc
    have hn : ∀ y, y ∈ l → y.1 ≠ k := fun y hy hk => by
      have := (rget_iff hs).2 (show (y.1, y.2) ∈ l from hy)
      rw [hk] at this
      rw [this] at hc; exact hc rfl
    have : x ∈ l ↔ x ∈ l.take (rpos l k) ∨ x ∈ l.drop (rpos l k) := by rw [← List.mem_append, List.take_append_drop]
    simp only [List.mem_append, List.mem_cons]
    constructor
    · rintro (h | h | h)
      · exact .inr ⟨this.2 (.inl h), hn x (this.2 (.inl h))⟩
      · exact .inl h
      · exact .inr ⟨this.2 (.inr h), hn x (this.2 (.inr h))⟩
    · rintro (h | ⟨h, _⟩)
      · exact .inr (.inl h)
      · rcases this.1 h with h | h
        · exact .inl h
        · exact .inr (.inr h)
theorem rget_put {l : RowL} (hs : Srt l) {k k' : ByteArray} {v : Int} : rget (rput l k v) k' = if k' = k then some v else rget l k' := by
  apply Option.ext
  intro w
  rw [rget_iff hs.put, mem_rput_iff hs]
  by_cases h : k' = k
  · rw [if_pos h]; simp [h, eq_comm]
  · rw [if_neg h, rget_iff hs]; simp [h]
theorem rget_del {l : RowL} (hs : Srt l) {k k' : ByteArray} : rget (rdel l k) k' = if k' = k then none else rget l k' := by
  apply Option.ext
  intro w
  rw [rget_iff hs.del, mem_rdel_iff hs]
  by_cases h : k' = k
  · rw [if_pos h]; simp [h]
  · rw [if_neg h, rget_iff hs]; simp [h]

/-! ### Open -/
def cdash : ByteArray := ⟨#[99, 45]⟩
def openStep (dg : Nat) (d : DS) (x : ByteArray × List UInt8) : DS := if (!hasPre x.1 cdash || soundB dg x.1 x.2) = true then d else (d.remove x.1).2
def casOpen (d : DS) (dg : Nat) : DS := d.view.foldl (openStep dg) d
theorem remove_now {d : DS} {n : ByteArray} (hd : d.Ok) (hm : mayName n = true) {v : Int} (hv : rget d.now n = some v) : d.remove n = (0, d.turn n ByteArray.empty 0) ∧ (d.turn n ByteArray.empty 0).now = rdel d.now n := by
  have hc : dchk d true [n] = 0 := by
    unfold dchk
    simp [hm, hv]
  refine ⟨by rw [DS.remove, hc]; simp, ?_⟩
  simp only [DS.turn, rapply, if_pos, name_ne hm, if_false, if_true]

section
variable {F H : HP} {M : Mem} {X : List PanicEntry → Mem → Prop}
theorem call12_ {p dg : Nat} {d : DS} {K : Option PA → Int → Mem → Prop} (h : At (dskA p d * F) M) (hd : dg ≤ 64) (hm : ∀ x ∈ d.now, mayName x.1 = true) (hl : d.lim + d.now.length ≤ 100000000)
    (hK : ∀ sp M', At (dskA p (casOpen d dg) * (cl sp (117, [ptr (some (p, 0)), vi dg]) * F)) M' → K (some (sp, 0)) 0 M') :
    call 12 [ptr (some (p, 0)), .int .i64 dg] X (fun v_ M => ∃ (r : Option PA) (q : Int), v_ = .tuple #[ptr r, .int .i64 q] ∧ K r q M) M := by
  refine br12 (K := K) ?_
  have hok := dskA_ok h
  have hvl : d.view.length = d.now.length := by simp [DS.view]
  have hsz : ∀ n, mayName n = true → n.size ≤ 9223372036854775807 := fun n hn => by
    simp only [mayName, Bool.and_eq_true, decide_eq_true_eq] at hn; omega
  have hdl := fun i => dataAt_len hok i
  unfold S12
  refine newc_ h fun x1 M1 g1 => newc_ g1 fun x2 M2 g2 => newc_ g2 fun x3 M3 g3 => iteF (decide_eq_false (by omega)) ?_
  rw [decide_eq_false (p := (dg : Int) > 64) (by omega)]
  unfold S12_1
  refine iteF rfl (ldP_ g3 rfl (call53_ (F := cl x3 (29, [.int .i64 0]) * (cl x2 (28, [ptr none]) * (cl x1 (26, [ptr (some (p, 0))]) * F))) (g3.cast (by ac_rfl)) (iteF rfl ?_)))
  refine ldP_ g3 rfl (newc_ g3 fun sp M4 g4 => newc_ g4 fun x5 M5 g5 => st0_ g5 fun M6 g6 => newc_ g6 fun x7 M7 g7 => st0_ g7 fun M8 g8 => ldP_ g8 rfl (call54_ (p := p) g8 fun c1 M9 g9 => ?_))
  unfold S12_2
  let C : DS × Bool → HP := fun x => dskA p x.1 * (cl x7 (4, [.bool x.2]) * (cl x5 (28, [ptr (some (sp, 0))]) * (cl sp (117, [ptr (some (p, 0)), vi dg]) * (cl x3 (29, [.int .i64 0]) * (cl x2 (28, [ptr none]) * (cl x1 (26, [ptr (some (p, 0))]) * F))))))
  refine rngDisk (p := p) (d := d) (σ := DS × Bool) (x0 := (d, false)) C (fun x i => x.1 = (d.view.take i).foldl (openStep dg) d ∧ x.1.lim ≤ d.lim + i ∧ (∀ (j : Nat) n l, i ≤ j → d.view[j]? = some (n, l) → (rget x.1.now n).isSome = true))
    (C1 := cl x7 (4, [.bool false]) * (cl x5 (28, [ptr (some (sp, 0))]) * (cl sp (117, [ptr (some (p, 0)), vi dg]) * (cl x3 (29, [.int .i64 0]) * (cl x2 (28, [ptr none]) * (cl x1 (26, [ptr (some (p, 0))]) * F)))))) ?_ rfl ⟨rfl, Nat.le_refl _, ?_⟩ ?_ ?_
  · exact g9.use
  · intro j n l _ hj
    rw [DS.view, List.getElem?_map] at hj
    obtain ⟨z, hz, e⟩ := Option.map_eq_some_iff.1 hj
    cases e
    have := (rget_iff hok.srt).2 (show (z.1, z.2) ∈ d.now from List.mem_of_getElem? hz)
    rw [this]; rfl
  · rintro ⟨d', q⟩ i n l s M10 G nx rt ⟨e1, e2, e3⟩ hv h10 hnx
    simp only at e1 e2 e3
    have h10' : At (bs s l * (dskA p d' * (cl x7 (4, [.bool q]) * (cl x5 (28, [ptr (some (sp, 0))]) * (cl sp (117, [ptr (some (p, 0)), vi dg]) * (cl x3 (29, [.int .i64 0]) * (cl x2 (28, [ptr none]) * (cl x1 (26, [ptr (some (p, 0))]) * (F * G))))))))) M10 := h10.cast (by simp only [C]; ac_rfl)
    have hilt := (List.getElem?_eq_some_iff.1 hv).1
    have hok' : d'.Ok := dskA_ok h10'.r
    obtain ⟨z, hz, hze⟩ : ∃ z, d.now[i]? = some z ∧ (z.1, d.dataAt z.2) = (n, l) := by
      rw [DS.view, List.getElem?_map] at hv
      exact Option.map_eq_some_iff.1 hv
    cases hze
    have hmn := hm z (List.mem_of_getElem? hz)
    have hfold : (d.view.take (i + 1)).foldl (openStep dg) d = openStep dg d' (z.1, d.dataAt z.2) := by rw [List.take_add_one, hv, List.foldl_append, ← e1]; rfl
    have keep : ∀ M11, (!hasPre z.1 cdash || soundB dg z.1 (d.dataAt z.2)) = true → At (dskA p d' * (cl x7 (4, [.bool q]) * (cl x5 (28, [ptr (some (sp, 0))]) * (cl sp (117, [ptr (some (p, 0)), vi dg]) * (cl x3 (29, [.int .i64 0]) * (cl x2 (28, [ptr none]) * (cl x1 (26, [ptr (some (p, 0))]) * (F * G)))))))) M11 → nx M11 := by
      intro M11 hk h11
      refine hnx (d', q) M11 ⟨?_, by simp only; omega, fun j n l hj hjv => e3 j n l (by omega) hjv⟩ (h11.cast (by simp only [C]; ac_rfl))
      rw [hfold, openStep, if_pos hk]
    refine ⟨z.1, s, rfl, ?_⟩
    unfold S12_2b
    refine call55_ (ite_ (fun hc => ?_) (fun hc => ?_))
    · unfold S12_4
      refine iteT rfl ?_
      unfold S12_3
      exact keep M10 (by rw [Bool.or_eq_true]; exact .inl hc) h10'.r
    · refine ldP_ h10' rfl (call56_ (sp := sp) (dp := p) (dg := dg) h10' hd (by have := hdl z.2; omega) fun M11 h11 => ?_)
      unfold S12_4
      refine ite_ (fun hs => ?_) (fun hs => ?_)
      · unfold S12_3
        exact keep M11 (by rw [Bool.or_eq_true]; exact .inr hs) h11
      · obtain ⟨v, hv'⟩ := Option.isSome_iff_exists.1 (e3 i z.1 _ (Nat.le_refl _) hv)
        obtain ⟨r1, r2⟩ := remove_now hok' hmn hv'
        have hlim : d'.lim + 1 ≤ 100000000 := by omega
        refine ldP_ h11 rfl (call57_ h11 hlim (hsz _ hmn) fun M12 h12 => ?_)
        rw [r1] at h12 ⊢
        refine iteF rfl (st0_ h12 fun M13 h13 => ?_)
        unfold S12_3
        have hno : ¬ ((!hasPre z.1 cdash || soundB dg z.1 (d.dataAt z.2)) = true) := by
          have hc' : hasPre z.1 cdash = true := by
            have : hasPre z.1 (⟨#[99, 45]⟩ : ByteArray) = true := by simpa using hc
            exact this
          rw [hs, hc']; simp
        refine hnx (d'.turn z.1 ByteArray.empty 0, true) M13 ⟨?_, by simp only [DS.turn]; omega, fun j n l hj hjv => ?_⟩ ?_
        · rw [hfold, openStep, if_neg hno, r1]
        · simp only
          rw [r2, rget_del hok'.srt]
          have hne : n ≠ z.1 := by
            rintro rfl
            have hj1 := (List.getElem?_eq_some_iff.1 hjv).1
            rw [DS.view, List.getElem?_map] at hjv
            obtain ⟨y, hy, e⟩ := Option.map_eq_some_iff.1 hjv
            have e' := (Prod.mk.inj e).1
            obtain ⟨p1, p2⟩ := List.getElem?_eq_some_iff.1 hy
            obtain ⟨p3, p4⟩ := List.getElem?_eq_some_iff.1 hz
            have := List.pairwise_iff_getElem.1 hok.srt i j p3 p1 (by omega)
            rw [p2, p4, e', slt_irrefl] at this; cases this
          rw [if_neg hne]
          exact e3 j n l (by omega) hjv
        · simp only [C]; exact h13.use
  · rintro ⟨d', q⟩ M10 ⟨e1, e2, e3⟩ h10
    simp only at e1
    rw [List.take_length] at e1
    have e1' : d' = casOpen d dg := e1
    subst e1'
    have h10' : At (dskA p (casOpen d dg) * (cl x7 (4, [.bool q]) * (cl x5 (28, [ptr (some (sp, 0))]) * (cl sp (117, [ptr (some (p, 0)), vi dg]) * (cl x3 (29, [.int .i64 0]) * (cl x2 (28, [ptr none]) * (cl x1 (26, [ptr (some (p, 0))]) * F))))))) M10 := h10
    have fin : ∀ M11, At (dskA p (casOpen d dg) * (cl x7 (4, [.bool q]) * (cl x5 (28, [ptr (some (sp, 0))]) * (cl sp (117, [ptr (some (p, 0)), vi dg]) * (cl x3 (29, [.int .i64 0]) * (cl x2 (28, [ptr none]) * (cl x1 (26, [ptr (some (p, 0))]) * F))))))) M11 → S12_5 (x2, 0) (x3, 0) (x5, 0) K X M11 := by
      intro M11 h11
      unfold S12_5
      exact ldP_ h11 rfl (st0_ h11 fun M12 h12 => st0_ h12 fun M13 h13 => ldP_ h13 rfl (ldI_ h13 rfl (hK sp M13 h13.use)))
    refine ldB_ h10' rfl (ite_ (fun hq => ?_) (fun hq => fin M10 h10'))
    exact ldP_ h10' rfl (call58_ h10' fun M11 h11 => iteF rfl (fin M11 h11))
end
end Go.Proofs.YtdndpmlapcbjaaaGreat

namespace Go.Proofs.YtdndpmlapcbjaaaGreat
open Go Go.RowKit
set_option linter.unusedSimpArgs false
set_option linter.unusedVariables false

/-! ### names -/
def nameB (x : UInt8) : Bool := mayC x.toNat
theorem digit_may (n : Int) (h0 : 0 ≤ n) (h1 : n ≤ 15) : nameB (u8 (digit n)) = true := by
  obtain ⟨m, rfl⟩ : ∃ m : Nat, n = m := ⟨n.toNat, by omega⟩
  have : m ≤ 15 := by omega
  have key : ∀ m : Fin 16, nameB (u8 (digit ((m.val : Nat) : Int))) = true := by decide
  exact key ⟨m, by omega⟩
set_option maxRecDepth 20000 in
theorem hex2_may (c : UInt8) : ∀ x ∈ hex2 c, nameB x = true := by
  intro x hx
  have hc := c.toNat_lt
  have e1 : ishr .u8 (c.toNat : Int) 4 = ((c.toNat / 16 : Nat) : Int) := by
    have : ishr .u8 (c.toNat : Int) 4 = ((c.toNat : Int)).fdiv 16 := rfl
    rw [this, Int.fdiv_eq_ediv_of_nonneg _ (by decide)]; rfl
  have e2 : iand .u8 (c.toNat : Int) 15 = ((c.toNat % 16 : Nat) : Int) := by
    have key : ∀ n : Fin 256, iand .u8 ((n.val : Nat) : Int) 15 = ((n.val % 16 : Nat) : Int) := by decide
    exact key ⟨c.toNat, hc⟩
  simp only [hex2, List.mem_cons, List.not_mem_nil, or_false] at hx
  rcases hx with rfl | rfl
  · rw [e1]; exact digit_may _ (by omega) (by omega)
  · rw [e2]; exact digit_may _ (by omega) (by omega)
theorem name_may (l : List UInt8) : ∀ x ∈ (nameOf l).data.toList, nameB x = true := by
  intro x hx
  have : x ∈ hexOf (sha l) := by simpa [nameOf] using hx
  obtain ⟨c, _, h⟩ := List.mem_flatMap.1 this
  exact hex2_may c x h
theorem bytes_app (a b : ByteArray) : (a ++ b).data.toList = a.data.toList ++ b.data.toList := by simp
theorem slot_may (i : Nat) (hi : i < 8) : nameB (u8 (48 + IntKind.wrap .u8 i)) = true := by
  have key : ∀ i : Fin 8, nameB (u8 (48 + IntKind.wrap .u8 ((i.val : Nat) : Int))) = true := by decide
  exact key ⟨i, hi⟩
theorem file_bytes (key : List UInt8) {dg i : Nat} (hi : i < 8) : ∀ x ∈ (fileOf key dg i).data.toList, nameB x = true := by
  intro x hx
  unfold fileOf at hx
  rw [bytes_app, bytes_app, bytes_app] at hx
  simp only [List.mem_append] at hx
  rcases hx with ((hx | hx) | hx) | hx
  · simp at hx; rcases hx with rfl | rfl <;> decide
  · refine name_may key x ?_
    have e : ((nameOf key).extract 0 dg).data.toList = (nameOf key).data.toList.take dg := by
      rw [ByteArray.data_extract]; simp
    rw [e] at hx
    exact List.mem_of_mem_take hx
  · simp at hx; subst hx; decide
  · simp at hx; subst hx; exact slot_may i hi
theorem mayName_of {n : ByteArray} (h : ∀ x ∈ n.data.toList, nameB x = true) (h1 : 1 ≤ n.size) (h2 : n.size ≤ 80) : mayName n = true := by
  unfold mayName
  rw [Bool.and_eq_true, Bool.and_eq_true, List.all_eq_true, decide_eq_true_eq, decide_eq_true_eq]
  exact ⟨⟨h, h1⟩, h2⟩
theorem file_may (key : List UInt8) {dg i : Nat} (hd : dg ≤ 64) (hi : i < 8) : mayName (fileOf key dg i) = true := by
  have hs := fileOf_size key i hd
  exact mayName_of (file_bytes key hi) (by omega) (by omega)
theorem tmp_may (key : List UInt8) {dg i : Nat} (hd : dg ≤ 64) (hi : i < 8) : mayName (tmpOf (fileOf key dg i)) = true := by
  have hs := fileOf_size key i hd
  have e4 : (⟨#[46, 116, 109, 112]⟩ : ByteArray).size = 4 := rfl
  have hz : (tmpOf (fileOf key dg i)).size = dg + 8 := by rw [tmpOf, ByteArray.size_append, e4]; omega
  refine mayName_of (fun x hx => ?_) (by omega) (by omega)
  rw [tmpOf, bytes_app] at hx
  rcases List.mem_append.1 hx with hx | hx
  · exact file_bytes key hi x hx
  · simp at hx; rcases hx with rfl | rfl | rfl | rfl <;> decide

/-! ### what a write does -/
theorem usedOf_app (fd : List (List UInt8)) (a b : RowL) : usedOf fd (a ++ b) = usedOf fd a + usedOf fd b := by simp [usedOf]
theorem usedOf_put {fd : List (List UInt8)} {l : RowL} {k : ByteArray} {v : Int} (h : rget l k = none) : usedOf fd (rput l k v) = usedOf fd l + lenAt fd v := by
  have e : usedOf fd l = usedOf fd (l.take (rpos l k)) + usedOf fd (l.drop (rpos l k)) := by rw [← usedOf_app, List.take_append_drop]
  rw [rput, h]
  simp only [Option.isSome_none, Bool.false_eq_true, if_false]
  rw [usedOf_app, e]
  simp only [usedOf, List.map_cons, List.sum_cons]
  omega
theorem usedOf_more {fd : List (List UInt8)} {x : List UInt8} : ∀ {l : RowL}, (∀ y ∈ l, 0 ≤ y.2 ∧ y.2 < fd.length) → usedOf (fd ++ [x]) l = usedOf fd l := by
  intro l
  induction l with
  | nil => intro _; rfl
  | cons y l ih =>
    intro h
    have h1 := h y (List.mem_cons_self ..)
    have h2 := ih fun z hz => h z (List.mem_cons_of_mem _ hz)
    simp only [usedOf, List.map_cons, List.sum_cons] at h2 ⊢
    rw [h2, lenAt, lenAt, List.getElem?_append_left (by omega)]
theorem rput_len_none {l : RowL} {k : ByteArray} {v : Int} (h : rget l k = none) : (rput l k v).length = l.length + 1 := by
  have := rpos_le l k
  rw [rput, h]; simp; omega
theorem rdel_len_some {l : RowL} {k : ByteArray} {v : Int} (h : rget l k = some v) : (rdel l k).length + 1 = l.length := by
  obtain ⟨v', g1, g2, g3⟩ := rget_lt (l := l) (k := k) (by rw [h]; rfl)
  rw [rdel, h]; simp; omega

theorem write_ok {d : DS} {n : ByteArray} {b : List UInt8} (hd : d.Ok) (hn : mayName n = true) (ht : mayName (tmpOf n) = true) (h1 : rget d.now n = none) (h2 : rget d.now (tmpOf n) = none) (h3 : d.now.length < 1024) (h4 : b.length ≤ 1048576) (h5 : (d.used + b.length : Int) ≤ d.q) (h6 : d.lim + 3 ≤ 100000000) :
    ∃ d', casWrite d n b = (0, d') ∧ d'.Ok ∧ d'.now = rput d.now n d.fd.length ∧ d'.fd = d.fd ++ [b] ∧ d'.q = d.q ∧ d'.used = d.used + b.length := by
  have hne : n ≠ ByteArray.empty := name_ne hn
  have hte : tmpOf n ≠ ByteArray.empty := name_ne ht
  have hsz : (tmpOf n).size = n.size + 4 := by rw [tmpOf, ByteArray.size_append]; rfl
  have htn : tmpOf n ≠ n := fun h => by rw [h] at hsz; omega
  obtain ⟨k, hk⟩ : ∃ k : Int, (d.fd.length : Int) = k := ⟨_, rfl⟩
  -- create
  have c1 : dchk d false [tmpOf n] = 0 := by unfold dchk; simp [ht]
  have e1 : d.create (tmpOf n) = (0, d.more.turn ByteArray.empty (tmpOf n) k) := by
    rw [DS.create, c1, h2, hk]
    simp only [ne_eq, not_true_eq_false, if_false, Option.isSome_none, true_and]
    rw [if_neg (by omega)]
  obtain ⟨d1, hd1⟩ : ∃ d1, d.more.turn ByteArray.empty (tmpOf n) k = d1 := ⟨_, rfl⟩
  have n1 : d1.now = rput d.now (tmpOf n) k := by
    rw [← hd1]; simp only [DS.turn, rapply, DS.more, if_true, if_neg hte]
  have f1 : d1.fd = d.fd ++ [[]] := by rw [← hd1]; rfl
  have q1 : d1.q = d.q := by rw [← hd1]; rfl
  have g1 : rget d1.now (tmpOf n) = some k := by rw [n1, rget_put hd.srt, if_pos rfl]
  have kn : k.toNat = d.fd.length := by omega
  have a1 : d1.dataAt k = [] := by rw [DS.dataAt, f1, kn]; simp
  have u1 : d1.used = d.used := by
    rw [DS.used, n1, f1, usedOf_put h2, usedOf_more hd.inj]
    have : lenAt (d.fd ++ [[]]) k = 0 := by rw [lenAt, kn]; simp
    rw [this]; rfl
  -- append
  have c2 : dchk d1 true [tmpOf n] = 0 := by unfold dchk; simp [ht, g1]
  have e2 : d1.append (tmpOf n) b = (0, { d1 with fd := d1.fd.set k.toNat (d1.dataAt k ++ b) }) := by
    rw [DS.append, c2, g1]
    simp only [ne_eq, not_true_eq_false, if_false, Option.getD_some, a1, List.length_nil, Nat.zero_add]
    rw [if_neg (by omega), if_neg (by rw [q1, u1]; omega)]
  obtain ⟨d2, hd2⟩ : ∃ d2, ({ d1 with fd := d1.fd.set k.toNat (d1.dataAt k ++ b) } : DS) = d2 := ⟨_, rfl⟩
  have n2 : d2.now = d1.now := by rw [← hd2]
  have f2 : d2.fd = d.fd ++ [b] := by
    rw [← hd2]
    show d1.fd.set k.toNat (d1.dataAt k ++ b) = _
    rw [a1, f1, kn]; simp
  have q2 : d2.q = d.q := by rw [← hd2]; exact q1
  have g2 : rget d2.now (tmpOf n) = some k := by rw [n2, g1]
  -- sync, rename
  have c3 : dchk d2 true [tmpOf n] = 0 := by unfold dchk; simp [ht, g2]
  have e3 : d2.sync (tmpOf n) = (0, d2) := by rw [DS.sync, c3]; simp
  have c4 : dchk d2 true [tmpOf n, n] = 0 := by unfold dchk; simp [ht, hn, g2]
  have e4 : d2.rename (tmpOf n) n = (0, d2.turn (tmpOf n) n k) := by rw [DS.rename, c4, g2]; simp
  have s1 : Srt d1.now := by rw [n1]; exact hd.srt.put
  have n3 : (d2.turn (tmpOf n) n k).now = rput (rdel d1.now (tmpOf n)) n k := by
    simp only [DS.turn, rapply, if_neg hte, if_neg hne, n2]
  have hdelput : rdel d1.now (tmpOf n) = d.now := by
    have hs : Srt (rdel d1.now (tmpOf n)) := s1.del
    -- two rising rows with the same members are the same
    have key : ∀ (a b : RowL), Srt a → Srt b → (∀ x, x ∈ a ↔ x ∈ b) → a = b := by
      intro a
      induction a with
      | nil => intro b _ _ h; cases b with
        | nil => rfl
        | cons y b => exact absurd ((h y).2 (List.mem_cons_self ..)) (by simp)
      | cons x a ih =>
        intro b ha hb h
        cases b with
        | nil => exact absurd ((h x).1 (List.mem_cons_self ..)) (by simp)
        | cons y b =>
          have hxy : x = y := by
            rcases List.mem_cons.1 ((h x).1 (List.mem_cons_self ..)) with h1 | h1
            · exact h1
            · rcases List.mem_cons.1 ((h y).2 (List.mem_cons_self ..)) with h2 | h2
              · exact h2.symm
              · have r1 := List.rel_of_pairwise_cons hb h1
                have r2 := List.rel_of_pairwise_cons ha h2
                have := slt_trans r1 r2
                rw [slt_irrefl] at this; cases this
          subst hxy
          rw [ih b (List.Pairwise.of_cons ha) (List.Pairwise.of_cons hb) fun z => ?_]
          constructor
          · intro hz
            rcases List.mem_cons.1 ((h z).1 (List.mem_cons_of_mem _ hz)) with h1 | h1
            · subst h1
              have := List.rel_of_pairwise_cons ha hz
              rw [slt_irrefl] at this; cases this
            · exact h1
          · intro hz
            rcases List.mem_cons.1 ((h z).2 (List.mem_cons_of_mem _ hz)) with h1 | h1
            · subst h1
              have := List.rel_of_pairwise_cons hb hz
              rw [slt_irrefl] at this; cases this
            · exact h1
    refine key _ _ hs hd.srt fun x => ?_
    rw [mem_rdel_iff s1, n1, mem_rput_iff hd.srt]
    constructor
    · rintro ⟨h | h, hx⟩
      · subst h; exact absurd rfl hx
      · exact h.1
    · intro h
      have hx : x.1 ≠ tmpOf n := fun hx => by
        have := (rget_iff hd.srt).2 (show (x.1, x.2) ∈ d.now from h)
        rw [hx, h2] at this; cases this
      exact ⟨.inr ⟨h, hx⟩, hx⟩
  have ok1 : d1.Ok := by
    rw [← hd1]
    exact turn_ok (more_ok hd (by omega)) (by simp only [DS.more]; omega) fun _ => by simp only [DS.more, List.length_append, List.length_singleton]; omega
  have ok2 : d2.Ok := by
    rw [← hd2]
    exact append_ok ok1 (by rw [a1]; simpa using h4)
  have ok3 : (d2.turn (tmpOf n) n k).Ok := by
    have l2 : d2.lim = d.lim + 2 := by rw [← hd2, ← hd1]; rfl
    exact turn_ok ok2 (by omega) fun _ => by rw [f2]; simp only [List.length_append, List.length_singleton]; omega
  refine ⟨d2.turn (tmpOf n) n k, ?_, ok3, by rw [n3, hdelput, hk], by simp only [DS.turn]; exact f2, by simp only [DS.turn]; exact q2, ?_⟩
  · unfold casWrite
    simp only [e1, hd1, e2, hd2, e3, e4]
    simp
  · rw [DS.used, n3, hdelput]
    show usedOf (d2.turn (tmpOf n) n k).fd _ = _
    have : (d2.turn (tmpOf n) n k).fd = d.fd ++ [b] := f2
    rw [this, usedOf_put h1, usedOf_more hd.inj]
    have : lenAt (d.fd ++ [b]) k = b.length := by rw [lenAt, kn]; simp
    rw [this]; rfl
end Go.Proofs.YtdndpmlapcbjaaaGreat

namespace Go.Proofs.YtdndpmlapcbjaaaGreat
open Go Go.RowKit
set_option linter.unusedSimpArgs false
set_option linter.unusedVariables false

theorem wu32 (x : Int) : IntKind.wrap .u32 x = x % 4294967296 := by simp [IntKind.wrap, IntKind.bits, IntKind.signed]
theorem wi32 (x : Int) : IntKind.wrap .i32 x = (x + 2147483648) % 4294967296 - 2147483648 := by
  simp [IntKind.wrap, IntKind.bits, IntKind.signed]
  omega
theorem u8_nat (x : Int) : ((u8 x).toNat : Int) = x % 256 := by
  rw [← u8_val]
  simp [IntKind.wrap, IntKind.bits, IntKind.signed]
theorem ior_nat {a b : Nat} (ha : a < 4294967296) (hb : b < 4294967296) : ior .u32 (a : Int) (b : Int) = ((a ||| b : Nat) : Int) := by
  have h : a ||| b < 2 ^ 32 := Nat.or_lt_two_pow (by simpa using ha) (by simpa using hb)
  have ea : (BitVec.ofInt 32 (a : Int)).toNat = a := by
    simp [BitVec.toNat_ofInt]; omega
  have eb : (BitVec.ofInt 32 (b : Int)).toNat = b := by
    simp [BitVec.toNat_ofInt]; omega
  show IntKind.wrap .u32 ((BitVec.ofInt 32 (a : Int) ||| BitVec.ofInt 32 (b : Int)).toNat : Int) = _
  rw [BitVec.toNat_or, ea, eb, wu32]
  omega
theorem or_add {a b k : Nat} (hb : b < 2 ^ k) : b ||| (a * 2 ^ k) = b + a * 2 ^ k := by
  have := Nat.shiftLeft_add_eq_or_of_lt hb a
  rw [Nat.shiftLeft_eq] at this
  rw [Nat.or_comm, ← this, Nat.add_comm]
theorem ishl_nat {a k : Nat} (hk : k ≤ 32) (h : a * 2 ^ k < 4294967296) : ishl .u32 (a : Int) (k : Int) = ((a * 2 ^ k : Nat) : Int) := by
  have e : min ((k : Int).toNat) (IntKind.u32.bits) = k := by
    have : IntKind.u32.bits = 32 := rfl
    rw [this, Int.toNat_natCast]; omega
  unfold ishl
  rw [e, wu32]
  have : (a : Int) * 2 ^ k = ((a * 2 ^ k : Nat) : Int) := by push_cast; rfl
  rw [this]; omega
theorem ishr_nat {a : Nat} {k : Nat} (hk : k ≤ 32) : ishr .u32 (a : Int) (k : Int) = ((a / 2 ^ k : Nat) : Int) := by
  have e : min ((k : Int).toNat) (IntKind.u32.bits) = k := by
    have : IntKind.u32.bits = 32 := rfl
    rw [this, Int.toNat_natCast]; omega
  unfold ishr
  rw [e, Int.fdiv_eq_ediv_of_nonneg _ (Int.pow_nonneg (by decide))]
  push_cast; rfl
theorem get4_le4 (n : Int) (rest : List UInt8) : get4 0 0 (le4 n ++ rest) = IntKind.wrap .u32 n := by
  obtain ⟨N, hN⟩ : ∃ N : Nat, IntKind.wrap .u32 n = N := ⟨(IntKind.wrap .u32 n).toNat, by rw [wu32]; omega⟩
  have hlt : N < 4294967296 := by rw [wu32] at hN; omega
  have s8 : ishr .u32 (N : Int) 8 = ((N / 256 : Nat) : Int) := ishr_nat (k := 8) (by decide)
  have s16 : ishr .u32 (N : Int) 16 = ((N / 65536 : Nat) : Int) := ishr_nat (k := 16) (by decide)
  have s24 : ishr .u32 (N : Int) 24 = ((N / 16777216 : Nat) : Int) := ishr_nat (k := 24) (by decide)
  have b0 : (u8 (N : Int)).toNat = N % 256 := by have := u8_nat (N : Int); omega
  have b1 : (u8 ((N / 256 : Nat) : Int)).toNat = N / 256 % 256 := by have := u8_nat ((N / 256 : Nat) : Int); omega
  have b2 : (u8 ((N / 65536 : Nat) : Int)).toNat = N / 65536 % 256 := by have := u8_nat ((N / 65536 : Nat) : Int); omega
  have b3 : (u8 ((N / 16777216 : Nat) : Int)).toNat = N / 16777216 % 256 := by have := u8_nat ((N / 16777216 : Nat) : Int); omega
  rw [le4, hN, s8, s16, s24]
  have wn : ∀ m : Nat, m < 256 → IntKind.wrap .u32 (m : Int) = (m : Int) := fun m hm => by rw [wu32]; omega
  simp only [List.cons_append, List.nil_append, get4, Nat.lt_irrefl, if_false, if_true, Nat.zero_lt_succ, Nat.reduceAdd, Nat.reduceLT, b0, b1, b2, b3]
  have m0 : N % 256 < 256 := Nat.mod_lt _ (by decide)
  have m1 : N / 256 % 256 < 256 := Nat.mod_lt _ (by decide)
  have m2 : N / 65536 % 256 < 256 := Nat.mod_lt _ (by decide)
  have m3 : N / 16777216 % 256 < 256 := Nat.mod_lt _ (by decide)
  rw [wn _ m0, wn _ m1, wn _ m2, wn _ m3]
  have l0 : ishl .u32 ((N % 256 : Nat) : Int) (8 * ((0 : Nat) : Int)) = ((N % 256 * 2 ^ 0 : Nat) : Int) := ishl_nat (k := 0) (by decide) (by omega)
  have l1 : ishl .u32 ((N / 256 % 256 : Nat) : Int) (8 * ((1 : Nat) : Int)) = ((N / 256 % 256 * 2 ^ 8 : Nat) : Int) := ishl_nat (k := 8) (by decide) (by omega)
  have l2 : ishl .u32 ((N / 65536 % 256 : Nat) : Int) (8 * ((2 : Nat) : Int)) = ((N / 65536 % 256 * 2 ^ 16 : Nat) : Int) := ishl_nat (k := 16) (by decide) (by omega)
  have l3 : ishl .u32 ((N / 16777216 % 256 : Nat) : Int) (8 * ((3 : Nat) : Int)) = ((N / 16777216 % 256 * 2 ^ 24 : Nat) : Int) := ishl_nat (k := 24) (by decide) (by omega)
  rw [l0, l1, l2, l3]
  have z : ior .u32 (0 : Int) ((N % 256 * 2 ^ 0 : Nat) : Int) = ((N % 256 : Nat) : Int) := by
    have := ior_nat (a := 0) (b := N % 256 * 2 ^ 0) (by decide) (by omega)
    simpa using this
  rw [z, ior_nat (by omega) (by omega), or_add (by omega), ior_nat (by omega) (by omega), or_add (by omega), ior_nat (by omega) (by omega), or_add (by omega)]
  rw [wu32] at hN
  have e : get4 4 (((N % 256 + N / 256 % 256 * 2 ^ 8 + N / 65536 % 256 * 2 ^ 16 + N / 16777216 % 256 * 2 ^ 24 : Nat) : Int)) rest = ((N % 256 + N / 256 % 256 * 2 ^ 8 + N / 65536 % 256 * 2 ^ 16 + N / 16777216 % 256 * 2 ^ 24 : Nat) : Int) := by
    cases rest <;> rfl
  rw [e]
  omega
theorem wordAt_le4 (n : Int) (pre rest : List UInt8) : wordAt (pre ++ (le4 n ++ rest)) pre.length = IntKind.wrap .i32 (IntKind.wrap .u32 n) := by
  rw [wordAt, List.drop_left, get4_le4]
theorem inot_range (x : Int) : 0 ≤ inot .u32 x ∧ inot .u32 x < 4294967296 := by
  unfold inot ixor
  rw [wu32]; omega
theorem frameH_len (l : List UInt8) : (frameH l).length = l.length + 4 := by simp [frameH, le4]
theorem frame_first (l rest : List UInt8) (hl : l.length ≤ 65536) : firstOk (frame l ++ rest) = true ∧ firstRec (frame l ++ rest) = l ∧ (frame l ++ rest).drop (l.length + 8) = rest := by
  obtain ⟨c, hc⟩ : ∃ c, crcOf (frameH l) = c := ⟨_, rfl⟩
  have hcr : 0 ≤ c ∧ c < 4294967296 := by rw [← hc]; exact inot_range _
  have hf : frame l = frameH l ++ le4 (IntKind.wrap .i32 c) := by rw [frame, hc]
  have hlen := frame_length l
  have hh := frameH_len l
  have w0 : wordAt (frame l ++ rest) 0 = l.length := by
    have e : frame l ++ rest = [] ++ (le4 (IntKind.wrap .i32 l.length) ++ (l ++ (le4 (IntKind.wrap .i32 c) ++ rest))) := by rw [hf, frameH]; simp
    rw [e]
    have := wordAt_le4 (IntKind.wrap .i32 l.length) [] (l ++ (le4 (IntKind.wrap .i32 c) ++ rest))
    rw [List.length_nil] at this
    rw [this, wi32, wu32, wi32]; omega
  have w1 : wordAt (frame l ++ rest) (4 + l.length) = IntKind.wrap .i32 (IntKind.wrap .u32 (IntKind.wrap .i32 c)) := by
    have e : frame l ++ rest = frameH l ++ (le4 (IntKind.wrap .i32 c) ++ rest) := by rw [hf]; simp
    rw [e]
    have := wordAt_le4 (IntKind.wrap .i32 c) (frameH l) rest
    rw [hh, Nat.add_comm] at this; exact this
  have t1 : (frame l ++ rest).take (4 + l.length) = frameH l := by
    have e : frame l ++ rest = frameH l ++ (le4 (IntKind.wrap .i32 c) ++ rest) := by rw [hf]; simp
    rw [e, Nat.add_comm, ← hh, List.take_left]
  refine ⟨?_, ?_, ?_⟩
  · unfold firstOk
    rw [w0]
    have e0 : ((l.length : Nat) : Int).toNat = l.length := Int.toNat_natCast _
    rw [e0, w1, t1, hc]
    have ec : IntKind.wrap .u32 (IntKind.wrap .i32 (IntKind.wrap .u32 (IntKind.wrap .i32 c))) = c := by
      rw [wu32, wi32, wu32, wi32]; omega
    rw [ec]
    have a1 : decide (4 ≤ (frame l ++ rest).length) = true := decide_eq_true (by rw [List.length_append]; omega)
    have a2 : decide ((0 : Int) ≤ (l.length : Int)) = true := decide_eq_true (by omega)
    have a3 : decide ((l.length : Int) ≤ 65536) = true := decide_eq_true (by omega)
    have a4 : decide ((l.length : Int) + 8 ≤ ((frame l ++ rest).length : Int)) = true := decide_eq_true (by rw [List.length_append]; omega)
    rw [a1, a2, a3, a4]
    simp
  · unfold firstRec
    rw [w0, Int.toNat_natCast]
    have e : frame l ++ rest = le4 (IntKind.wrap .i32 l.length) ++ (l ++ (le4 (IntKind.wrap .i32 c) ++ rest)) := by rw [hf, frameH]; simp
    have e4 : (le4 (IntKind.wrap .i32 l.length)).length = 4 := rfl
    rw [e, ← e4, List.drop_left, List.take_left]
  · have : l.length + 8 = (frame l).length := by omega
    rw [this, List.drop_left]
theorem casParse_entry {k a : List UInt8} (hk : k.length ≤ 65536) (ha : a.length ≤ 65536) : casParse (entry k a) = some (k, a) := by
  obtain ⟨k1, k2, k3⟩ := frame_first k (frame a) hk
  obtain ⟨a1, a2, a3⟩ := frame_first a [] ha
  rw [List.append_nil] at a1 a2 a3
  have hno : firstOk ([] : List UInt8) = false := rfl
  have hr : recs (entry k a) = [k, a] := by
    rw [entry, recs_ok k1, k2, k3, recs_ok a1, a2, a3, recs_no hno]
  have hg : good (entry k a) = (entry k a).length := by
    rw [good, hr, entry, List.length_append, frame_length, frame_length]; simp
  rw [casParse, if_pos hg, hr]
end Go.Proofs.YtdndpmlapcbjaaaGreat

namespace Go.Proofs.YtdndpmlapcbjaaaGreat
open Go Go.RowKit
set_option linter.unusedSimpArgs false
set_option linter.unusedVariables false

def nn0 (i : Nat) : ByteArray := ⟨#[99, 45, 45, u8 (48 + IntKind.wrap .u8 i)]⟩
theorem bytes_ext {a b : ByteArray} (h : a.data.toList = b.data.toList) : a = b := by
  cases a; cases b
  congr
  simpa using h
theorem fileOf0 (key : List UInt8) (i : Nat) : fileOf key 0 i = nn0 i := by
  apply bytes_ext
  unfold fileOf
  rw [bytes_app, bytes_app, bytes_app, ByteArray.data_extract]
  simp [nn0]
theorem nn0_inj : ∀ i j : Nat, i < 8 → j < 8 → nn0 i = nn0 j → i = j := by
  intro i j hi hj h
  have key : ∀ i j : Fin 8, u8 (48 + IntKind.wrap .u8 ((i.val : Nat) : Int)) = u8 (48 + IntKind.wrap .u8 ((j.val : Nat) : Int)) → i = j := by decide
  have h2 : (nn0 i).data.toList = (nn0 j).data.toList := by rw [h]
  simp only [nn0, List.cons.injEq, true_and, and_true] at h2
  have := key ⟨i, hi⟩ ⟨j, hj⟩ h2
  exact congrArg Fin.val this

def k1 : List UInt8 := [107, 49]
def k2 : List UInt8 := [107, 50]
theorem slot_none {d : DS} {dg : Nat} {key : List UInt8} {i : Nat} (h : rget d.now (fileOf key dg i) = none) : slotFile d dg key i = none ∧ slotP d dg key i = none := by
  have : slotFile d dg key i = none := by rw [slotFile, h]; rfl
  exact ⟨this, by rw [slotP, this]; rfl⟩
theorem slot_some {d : DS} {dg : Nat} {key k a : List UInt8} {i : Nat} {v : Int} (h : rget d.now (fileOf key dg i) = some v) (hd : d.dataAt v = entry k a) (hk : k.length ≤ 65536) (ha : a.length ≤ 65536) :
    (slotFile d dg key i).isSome = true ∧ slotP d dg key i = some (k, a) ∧ slotK d dg key i = k ∧ slotA d dg key i = a := by
  have h1 : slotFile d dg key i = some (entry k a) := by rw [slotFile, h]; simp [hd]
  have h2 : slotP d dg key i = some (k, a) := by rw [slotP, h1]; exact casParse_entry hk ha
  exact ⟨by rw [h1]; rfl, h2, by rw [slotK, h2]; rfl, by rw [slotA, h2]; rfl⟩
theorem srt_one (n : ByteArray) (v : Int) : Srt [(n, v)] := List.pairwise_singleton _ _
theorem srt_two {n m : ByteArray} {v w : Int} (h : slt n m = true) : Srt [(n, v), (m, w)] := by
  refine List.pairwise_cons.2 ⟨fun x hx => ?_, List.pairwise_singleton _ _⟩
  simp at hx; subst hx; exact h
theorem slt01 : slt (nn0 0) (nn0 1) = true := by
  rw [slt_eq, ByteArray.toList_eq, ByteArray.toList_eq]
  decide
/-- The example: two keys put, with no digits. -/
theorem lives_plain (hd0 : (DS.empty 1000).Ok) : ∃ d1 d2 : DS, casPut (DS.empty 1000) 0 k1 [120] = (0, d1) ∧ casPut d1 0 k2 [121] = (0, d2) ∧ d2.now.map (·.1) = [nn0 0, nn0 1] ∧ casGet d2 0 k1 = some [120] ∧ casGet d2 0 k2 = some [121] ∧ d1.lim ≤ 10 := by
  have hl1 : k1.length ≤ 65536 := by decide
  have hl2 : k2.length ≤ 65536 := by decide
  have hx : ([120] : List UInt8).length ≤ 65536 := by decide
  have hy : ([121] : List UInt8).length ≤ 65536 := by decide
  have hsz : ∀ i, (nn0 i).size = 4 := fun i => rfl
  have htm : ∀ i j, tmpOf (nn0 i) ≠ nn0 j := fun i j h => by
    have h1 : (tmpOf (nn0 i)).size = 8 := rfl
    rw [h] at h1
    have := hsz j
    omega
  -- the first
  have r0 : ∀ n, rget (DS.empty 1000).now n = none := fun n => rfl
  have f0 : casFind (DS.empty 1000) 0 k1 = none := find_no fun j _ => by rw [(slot_none (r0 _)).2]; rfl
  have g0 : casFree (DS.empty 1000) 0 k1 = some 0 := free_yes (by decide) (by rw [(slot_none (r0 _)).1]; rfl) (fun j hj => by omega)
  have e0 := fileOf0 k1 0
  have m0 := file_may k1 (dg := 0) (i := 0) (by decide) (by decide)
  have t0 := tmp_may k1 (dg := 0) (i := 0) (by decide) (by decide)
  rw [e0] at m0 t0
  have len1 : (entry k1 [120]).length = 19 := by rw [entry_len]; rfl
  obtain ⟨d1, w1, ok1, n1, fd1, q1, u1⟩ := write_ok (d := DS.empty 1000) (n := nn0 0) (b := entry k1 [120]) hd0 m0 t0 (r0 _) (r0 _) (by decide) (by omega) (by rw [len1]; decide) (by decide)
  have p1 : casPut (DS.empty 1000) 0 k1 [120] = (0, d1) := by
    rw [casPut, if_neg (by omega), f0, g0]
    simp only [Option.isSome_none, Bool.false_eq_true, if_false, e0]
    exact w1
  have n1' : d1.now = [(nn0 0, 0)] := by
    rw [n1]
    have : rput ([] : RowL) (nn0 0) 0 = [] ++ [(nn0 0, 0)] := rput_snoc (srt_one _ _)
    exact this
  have fd1' : d1.fd = [entry k1 [120]] := fd1
  have lim1 : d1.lim ≤ 3 := by
    have := casPut_lim (DS.empty 1000) 0 k1 [120]
    rw [p1] at this
    exact this
  have u1' : d1.used = 19 := by rw [u1, len1]; rfl
  -- the second
  have a0 : d1.dataAt 0 = entry k1 [120] := by rw [DS.dataAt, fd1']; rfl
  have x0 : rget d1.now (nn0 0) = some 0 := by rw [rget_iff ok1.srt, n1']; simp
  have xn : ∀ n, n ≠ nn0 0 → rget d1.now n = none := fun n hn => by
    cases h : rget d1.now n with
    | none => rfl
    | some v => rw [rget_iff ok1.srt, n1'] at h; simp at h; exact absurd h.1 hn
  have y0 := slot_some (d := d1) (dg := 0) (key := k2) (i := 0) (v := 0) (by rw [fileOf0]; exact x0) a0 hl1 hx
  have yn : ∀ j, 0 < j → j < 8 → slotFile d1 0 k2 j = none ∧ slotP d1 0 k2 j = none := fun j hj hj8 => slot_none (by
    rw [fileOf0]; exact xn _ fun h => by have := nn0_inj j 0 hj8 (by decide) h; omega)
  have f1 : casFind d1 0 k2 = none := find_no fun j hj => by
    by_cases h : j = 0
    · subst h; rw [y0.2.1, y0.2.2.1]; decide
    · rw [(yn j (by omega) hj).2]; rfl
  have g1 : casFree d1 0 k2 = some 1 := free_yes (by decide) (by rw [(yn 1 (by decide) (by decide)).1]; rfl) (fun j hj => by
    have : j = 0 := by omega
    subst this; exact y0.1)
  have e1 := fileOf0 k2 1
  have m1 := file_may k2 (dg := 0) (i := 1) (by decide) (by decide)
  have t1 := tmp_may k2 (dg := 0) (i := 1) (by decide) (by decide)
  rw [e1] at m1 t1
  have len2 : (entry k2 [121]).length = 19 := by rw [entry_len]; rfl
  have h10 : nn0 1 ≠ nn0 0 := fun h => by have := nn0_inj 1 0 (by decide) (by decide) h; omega
  have hq1 : d1.q = 1000 := q1
  obtain ⟨d2, w2, ok2, n2, fd2, q2, u2⟩ := write_ok (d := d1) (n := nn0 1) (b := entry k2 [121]) ok1 m1 t1 (xn _ h10) (xn _ (htm 1 0)) (by rw [n1']; decide) (by omega) (by rw [len2, u1', hq1]; decide) (by omega)
  have p2 : casPut d1 0 k2 [121] = (0, d2) := by
    rw [casPut, if_neg (by omega), f1, g1]
    simp only [Option.isSome_none, Bool.false_eq_true, if_false, e1]
    exact w2
  have n2' : d2.now = [(nn0 0, 0), (nn0 1, 1)] := by
    rw [n2, n1', fd1']
    exact rput_snoc (l := [(nn0 0, 0)]) (srt_two slt01)
  have fd2' : d2.fd = [entry k1 [120], entry k2 [121]] := by rw [fd2, fd1']; rfl
  have z0 : rget d2.now (nn0 0) = some 0 := by rw [rget_iff ok2.srt, n2']; simp
  have z1 : rget d2.now (nn0 1) = some 1 := by rw [rget_iff ok2.srt, n2']; simp
  have b0 : d2.dataAt 0 = entry k1 [120] := by rw [DS.dataAt, fd2']; rfl
  have b1 : d2.dataAt 1 = entry k2 [121] := by rw [DS.dataAt, fd2']; rfl
  have v0 := fun key => slot_some (d := d2) (dg := 0) (key := key) (i := 0) (v := 0) (by rw [fileOf0]; exact z0) b0 hl1 hx
  have v1 := fun key => slot_some (d := d2) (dg := 0) (key := key) (i := 1) (v := 1) (by rw [fileOf0]; exact z1) b1 hl2 hy
  refine ⟨d1, d2, p1, p2, by rw [n2']; rfl, ?_, ?_, by omega⟩
  · have : casFind d2 0 k1 = some 0 := find_yes (by decide) (by rw [(v0 k1).2.1, (v0 k1).2.2.1]; decide) (fun j hj => by omega)
    rw [casGet, this, Option.map_some, (v0 k1).2.2.2]
  · have : casFind d2 0 k2 = some 1 := find_yes (by decide) (by rw [(v1 k2).2.1, (v1 k2).2.2.1]; decide) (fun j hj => by
      have : j = 0 := by omega
      subst this
      rw [(v0 k2).2.1, (v0 k2).2.2.1]; decide)
    rw [casGet, this, Option.map_some, (v1 k2).2.2.2]
end Go.Proofs.YtdndpmlapcbjaaaGreat

namespace Go.Proofs.YtdndpmlapcbjaaaGreat
open Go Go.RowKit
set_option linter.unusedSimpArgs false
set_option linter.unusedVariables false

def poly : Nat := 3988292384
def stepN (s : Nat) : Nat := (s / 2) ^^^ (if s % 2 = 1 then poly else 0)
theorem bv_nat {a : Nat} (ha : a < 4294967296) : (BitVec.ofInt 32 (a : Int)).toNat = a := by
  simp [BitVec.toNat_ofInt]; omega
theorem ixor_nat {a b : Nat} (ha : a < 4294967296) (hb : b < 4294967296) : ixor .u32 (a : Int) (b : Int) = ((a ^^^ b : Nat) : Int) := by
  have h : a ^^^ b < 2 ^ 32 := Nat.xor_lt_two_pow (by simpa using ha) (by simpa using hb)
  show IntKind.wrap .u32 ((BitVec.ofInt 32 (a : Int) ^^^ BitVec.ofInt 32 (b : Int)).toNat : Int) = _
  rw [BitVec.toNat_xor, bv_nat ha, bv_nat hb, wu32]
  omega
theorem iand_nat {a b : Nat} (ha : a < 4294967296) (hb : b < 4294967296) : iand .u32 (a : Int) (b : Int) = ((a &&& b : Nat) : Int) := by
  have h : a &&& b ≤ a := Nat.and_le_left
  show IntKind.wrap .u32 ((BitVec.ofInt 32 (a : Int) &&& BitVec.ofInt 32 (b : Int)).toNat : Int) = _
  rw [BitVec.toNat_and, bv_nat ha, bv_nat hb, wu32]
  omega
theorem crcStep_nat {s : Nat} (hs : s < 4294967296) : crcStep (s : Int) = ((stepN s : Nat) : Int) := by
  unfold crcStep
  have e1 : ishr .u32 (s : Int) 1 = ((s / 2 : Nat) : Int) := ishr_nat (k := 1) (by decide)
  have e2 : iand .u32 (s : Int) 1 = ((s % 2 : Nat) : Int) := by
    have := iand_nat (a := s) (b := 1) hs (by decide)
    rw [Nat.and_one_is_mod] at this
    exact this
  rw [e1, e2]
  rcases Nat.mod_two_eq_zero_or_one s with h | h
  · rw [h]
    have e3 : IntKind.wrap .u32 (0 - ((0 : Nat) : Int)) = ((0 : Nat) : Int) := by rw [wu32]; rfl
    have e4 : iand .u32 (3988292384 : Int) ((0 : Nat) : Int) = ((0 : Nat) : Int) := iand_nat (a := 3988292384) (b := 0) (by decide) (by decide)
    rw [e3, e4, ixor_nat (by omega) (by decide)]
    simp [stepN, h]
  · rw [h]
    have e3 : IntKind.wrap .u32 (0 - ((1 : Nat) : Int)) = ((4294967295 : Nat) : Int) := by rw [wu32]; rfl
    have e4 : iand .u32 (3988292384 : Int) ((4294967295 : Nat) : Int) = ((3988292384 : Nat) : Int) := by
      have := iand_nat (a := 3988292384) (b := 4294967295) (by decide) (by decide)
      exact this
    rw [e3, e4, ixor_nat (by omega) (by decide)]
    simp [stepN, h, poly]
theorem stepN_lt {s : Nat} (hs : s < 4294967296) : stepN s < 4294967296 := by
  have h : (s / 2) ^^^ (if s % 2 = 1 then poly else 0) < 2 ^ 32 := Nat.xor_lt_two_pow (by omega) (by split <;> decide)
  exact h
theorem stepN_top {s : Nat} (hs : s < 4294967296) : (stepN s).testBit 31 = decide (s % 2 = 1) := by
  have h1 : (s / 2).testBit 31 = false := Nat.testBit_lt_two_pow (by omega)
  rw [stepN, Nat.testBit_xor, h1]
  by_cases h : s % 2 = 1
  · rw [if_pos h, decide_eq_true h]; decide
  · rw [if_neg h, decide_eq_false h]; simp
theorem stepN_inj {s t : Nat} (hs : s < 4294967296) (ht : t < 4294967296) (h : stepN s = stepN t) : s = t := by
  have h1 := stepN_top hs
  have h2 := stepN_top ht
  rw [h, h2] at h1
  have h3 : (s % 2 = 1) ↔ (t % 2 = 1) := by
    constructor
    · intro h; simpa [h] using h1
    · intro h; simpa [h] using h1
  have h4 : s / 2 = t / 2 := by
    unfold stepN at h
    by_cases ho : s % 2 = 1
    · rw [if_pos ho, if_pos (h3.1 ho)] at h
      have := congrArg (· ^^^ poly) h
      simpa [Nat.xor_assoc] using this
    · rw [if_neg ho, if_neg (fun hh => ho (h3.2 hh))] at h
      simpa using h
  omega
/-- Eight steps. -/
def step8 : Nat → Nat → Nat
  | 0, s => s
  | n + 1, s => step8 n (stepN s)
theorem crc8_nat : ∀ (n : Nat) {s : Nat}, s < 4294967296 → crc8 n (s : Int) = ((step8 n s : Nat) : Int) ∧ step8 n s < 4294967296 := by
  intro n
  induction n with
  | zero => intro s hs; exact ⟨rfl, hs⟩
  | succ n ih =>
    intro s hs
    have := ih (stepN_lt hs)
    rw [crc8, crcStep_nat hs]
    exact this
theorem step8_inj : ∀ (n : Nat) {s t : Nat}, s < 4294967296 → t < 4294967296 → step8 n s = step8 n t → s = t := by
  intro n
  induction n with
  | zero => intro s t _ _ h; exact h
  | succ n ih => intro s t hs ht h; exact stepN_inj hs ht (ih (stepN_lt hs) (stepN_lt ht) h)
def byteN (s : Nat) (b : UInt8) : Nat := step8 8 (s ^^^ b.toNat)
theorem xor_lt {s : Nat} (hs : s < 4294967296) (b : UInt8) : s ^^^ b.toNat < 4294967296 := by
  have hb := b.toNat_lt
  have h : s ^^^ b.toNat < 2 ^ 32 := Nat.xor_lt_two_pow (by omega) (by omega)
  exact h
theorem crcByte_nat {s : Nat} (hs : s < 4294967296) (b : UInt8) : crcByte (s : Int) b = ((byteN s b : Nat) : Int) ∧ byteN s b < 4294967296 := by
  have hb := b.toNat_lt
  have e1 : IntKind.wrap .u32 (b.toNat : Int) = (b.toNat : Int) := by rw [wu32]; omega
  unfold crcByte
  rw [e1, ixor_nat hs (by omega)]
  exact crc8_nat 8 (xor_lt hs b)
theorem byteN_inj {s t : Nat} (hs : s < 4294967296) (ht : t < 4294967296) {b : UInt8} (h : byteN s b = byteN t b) : s = t := by
  have := step8_inj 8 (xor_lt hs b) (xor_lt ht b) h
  have h2 := congrArg (· ^^^ b.toNat) this
  simpa [Nat.xor_assoc] using h2
theorem byteN_inj2 {s : Nat} (hs : s < 4294967296) {b c : UInt8} (h : byteN s b = byteN s c) : b = c := by
  have := step8_inj 8 (xor_lt hs b) (xor_lt hs c) h
  have h2 := congrArg (s ^^^ ·) this
  have h3 : b.toNat = c.toNat := by simpa [← Nat.xor_assoc] using h2
  exact UInt8.toNat_inj.1 h3
theorem fold_nat : ∀ (l : List UInt8) {s : Nat}, s < 4294967296 → ∃ t : Nat, l.foldl crcByte (s : Int) = (t : Int) ∧ l.foldl byteN s = t ∧ t < 4294967296 := by
  intro l
  induction l with
  | nil => intro s hs; exact ⟨s, rfl, rfl, hs⟩
  | cons b l ih =>
    intro s hs
    obtain ⟨h1, h2⟩ := crcByte_nat hs b
    obtain ⟨t, g1, g2, g3⟩ := ih h2
    refine ⟨t, ?_, ?_, g3⟩
    · rw [List.foldl_cons, h1]; exact g1
    · rw [List.foldl_cons]; exact g2
theorem fold_inj : ∀ (l : List UInt8) {s t : Nat}, s < 4294967296 → t < 4294967296 → l.foldl byteN s = l.foldl byteN t → s = t := by
  intro l
  induction l with
  | nil => intro s t _ _ h; exact h
  | cons b l ih =>
    intro s t hs ht h
    exact byteN_inj hs ht (ih (crcByte_nat hs b).2 (crcByte_nat ht b).2 h)
theorem inot_nat {s : Nat} (hs : s < 4294967296) : inot .u32 (s : Int) = ((4294967295 ^^^ s : Nat) : Int) := by
  have := ixor_nat (a := 4294967295) (b := s) (by decide) hs
  unfold inot
  exact this
/-- Two texts that differ in just one byte have different sums. -/
theorem crc_differs (pre post : List UInt8) {b c : UInt8} (h : b ≠ c) : crcOf (pre ++ b :: post) ≠ crcOf (pre ++ c :: post) := by
  intro he
  unfold crcOf crcFrom at he
  have e0 : inot .u32 0 = ((4294967295 : Nat) : Int) := inot_nat (s := 0) (by decide)
  rw [e0] at he
  obtain ⟨x, hx1, hx2, hx3⟩ := fold_nat (pre ++ b :: post) (s := 4294967295) (by decide)
  obtain ⟨y, hy1, hy2, hy3⟩ := fold_nat (pre ++ c :: post) (s := 4294967295) (by decide)
  rw [hx1, hy1, inot_nat hx3, inot_nat hy3] at he
  have h1 : 4294967295 ^^^ x = 4294967295 ^^^ y := by omega
  have h2 : x = y := by
    have := congrArg (4294967295 ^^^ ·) h1
    simpa [← Nat.xor_assoc] using this
  rw [← hx2, ← hy2, List.foldl_append, List.foldl_append, List.foldl_cons, List.foldl_cons] at h2
  obtain ⟨z, _, hz2, hz3⟩ := fold_nat pre (s := 4294967295) (by decide)
  rw [hz2] at h2
  exact h (byteN_inj2 hz3 (fold_inj post (crcByte_nat hz3 b).2 (crcByte_nat hz3 c).2 h2))
end Go.Proofs.YtdndpmlapcbjaaaGreat

namespace Go.Proofs.YtdndpmlapcbjaaaGreat
open Go Go.RowKit
set_option linter.unusedSimpArgs false
set_option linter.unusedVariables false

/-- What is handed in as a thing to do. -/
structure OpM where
  kind : Int
  ks : Sl
  k : List UInt8
  as_ : Sl
  a : List UInt8
def keepOp (o : OpM) : Bool := decide (o.k.length ≤ 200) && decide (o.a.length ≤ 200)
def cutL (l : List OpM) : List OpM := (l.take 40).filter keepOp
theorem cutL_len (l : List OpM) : (cutL l).length ≤ 40 := by
  have h1 := List.length_filter_le keepOp (l.take 40)
  have h2 : (l.take 40).length ≤ 40 := by simp; omega
  exact Nat.le_trans h1 h2

def turnB (l : List UInt8) (at_ : Nat) (m : UInt8) : List UInt8 := l.set at_ ((l[at_]?).getD 0 ^^^ m)
def DS.flip (d : DS) (i : Int) (at_ : Nat) (m : UInt8) : DS := { d with fd := d.fd.set i.toNat (turnB (d.dataAt i) at_ m) }

/-! ### a turned byte -/
theorem turn_app {A B : List UInt8} {p : Nat} {m : UInt8} (h : A.length ≤ p) : turnB (A ++ B) p m = A ++ turnB B (p - A.length) m := by
  unfold turnB
  rw [List.getElem?_append_right h, List.set_append_right _ _ h]
theorem turn_left {A B : List UInt8} {p : Nat} {m : UInt8} (h : p < A.length) : turnB (A ++ B) p m = turnB A p m ++ B := by
  unfold turnB
  rw [List.getElem?_append_left h, List.set_append_left _ _ h]
theorem turn_zero (l : List UInt8) (p : Nat) : turnB l p 0 = l := by
  unfold turnB
  apply List.ext_getElem?
  intro i
  rw [List.getElem?_set]
  split
  · rename_i h
    subst h
    split
    · rename_i h2
      rw [List.getElem?_eq_getElem h2]; simp
    · rename_i h2
      rw [List.getElem?_eq_none (by omega)]
  · rfl
theorem turn_len (l : List UInt8) (p : Nat) (m : UInt8) : (turnB l p m).length = l.length := by simp [turnB]
theorem xor_ne {b m : UInt8} (h : m ≠ 0) : b ^^^ m ≠ b := fun e => h (by
  have := congrArg (b ^^^ ·) e
  simpa [← UInt8.xor_assoc] using this)
def num4 (b0 b1 b2 b3 : UInt8) : Nat := b0.toNat + b1.toNat * 2 ^ 8 + b2.toNat * 2 ^ 16 + b3.toNat * 2 ^ 24
theorem get4_any (b0 b1 b2 b3 : UInt8) (rest : List UInt8) : get4 0 0 (b0 :: b1 :: b2 :: b3 :: rest) = (num4 b0 b1 b2 b3 : Int) := by
  have h0 := b0.toNat_lt
  have h1 := b1.toNat_lt
  have h2 := b2.toNat_lt
  have h3 := b3.toNat_lt
  have wn : ∀ m : Nat, m < 256 → IntKind.wrap .u32 (m : Int) = (m : Int) := fun m hm => by rw [wu32]; omega
  simp only [get4, if_true, Nat.zero_lt_succ, Nat.reduceAdd, Nat.reduceLT]
  rw [wn _ (by omega), wn _ (by omega), wn _ (by omega), wn _ (by omega)]
  have l0 : ishl .u32 (b0.toNat : Int) (8 * ((0 : Nat) : Int)) = ((b0.toNat * 2 ^ 0 : Nat) : Int) := ishl_nat (k := 0) (by decide) (by omega)
  have l1 : ishl .u32 (b1.toNat : Int) (8 * ((1 : Nat) : Int)) = ((b1.toNat * 2 ^ 8 : Nat) : Int) := ishl_nat (k := 8) (by decide) (by omega)
  have l2 : ishl .u32 (b2.toNat : Int) (8 * ((2 : Nat) : Int)) = ((b2.toNat * 2 ^ 16 : Nat) : Int) := ishl_nat (k := 16) (by decide) (by omega)
  have l3 : ishl .u32 (b3.toNat : Int) (8 * ((3 : Nat) : Int)) = ((b3.toNat * 2 ^ 24 : Nat) : Int) := ishl_nat (k := 24) (by decide) (by omega)
  rw [l0, l1, l2, l3]
  have z : ior .u32 (0 : Int) ((b0.toNat * 2 ^ 0 : Nat) : Int) = ((b0.toNat : Nat) : Int) := by
    have := ior_nat (a := 0) (b := b0.toNat * 2 ^ 0) (by decide) (by omega)
    simpa using this
  rw [z, ior_nat (by omega) (by omega), or_add (by omega), ior_nat (by omega) (by omega), or_add (by omega), ior_nat (by omega) (by omega), or_add (by omega)]
  have e : ∀ x : Int, get4 4 x rest = x := fun x => by cases rest <;> rfl
  rw [e]; rfl
theorem num4_lt (b0 b1 b2 b3 : UInt8) : num4 b0 b1 b2 b3 < 4294967296 := by
  have h0 := b0.toNat_lt
  have h1 := b1.toNat_lt
  have h2 := b2.toNat_lt
  have h3 := b3.toNat_lt
  unfold num4; omega
theorem frameH_any {k : List UInt8} (hk : k.length ≤ 65536) (c0 c1 c2 c3 : UInt8) (rest : List UInt8) :
    firstOk (frameH k ++ (c0 :: c1 :: c2 :: c3 :: rest)) = ((num4 c0 c1 c2 c3 : Int) == crcOf (frameH k)) := by
  have hh := frameH_len k
  obtain ⟨l, hl⟩ : ∃ l, frameH k ++ (c0 :: c1 :: c2 :: c3 :: rest) = l := ⟨_, rfl⟩
  have hlen : l.length = k.length + 8 + rest.length := by rw [← hl, List.length_append, hh]; simp; omega
  have w0 : wordAt l 0 = k.length := by
    have e : l = [] ++ (le4 (IntKind.wrap .i32 k.length) ++ (k ++ (c0 :: c1 :: c2 :: c3 :: rest))) := by rw [← hl, frameH]; simp
    rw [e]
    have := wordAt_le4 (IntKind.wrap .i32 k.length) [] (k ++ (c0 :: c1 :: c2 :: c3 :: rest))
    rw [List.length_nil] at this
    rw [this, wi32, wu32, wi32]; omega
  have w1 : IntKind.wrap .u32 (wordAt l (4 + k.length)) = (num4 c0 c1 c2 c3 : Int) := by
    have e : l.drop (4 + k.length) = c0 :: c1 :: c2 :: c3 :: rest := by
      rw [← hl, Nat.add_comm, ← hh, List.drop_left]
    have := num4_lt c0 c1 c2 c3
    rw [wordAt, e, get4_any, wu32, wi32]; omega
  have t1 : l.take (4 + k.length) = frameH k := by
    rw [← hl, Nat.add_comm, ← hh, List.take_left]
  rw [hl]
  unfold firstOk
  rw [w0, Int.toNat_natCast, w1, t1]
  have a1 : decide (4 ≤ l.length) = true := decide_eq_true (by omega)
  have a2 : decide ((0 : Int) ≤ (k.length : Int)) = true := decide_eq_true (by omega)
  have a3 : decide ((k.length : Int) ≤ 65536) = true := decide_eq_true (by omega)
  have a4 : decide ((k.length : Int) + 8 ≤ (l.length : Int)) = true := decide_eq_true (by omega)
  rw [a1, a2, a3, a4]; simp
theorem first_turned {k rest : List UInt8} {p : Nat} {m : UInt8} (hk : k.length ≤ 65536) (hm : m ≠ 0) (h1 : 4 ≤ p) (h2 : p < k.length + 8) : firstOk (turnB (frame k ++ rest) p m) = false := by
  have hh := frameH_len k
  obtain ⟨c0, c1, c2, c3, hc⟩ : ∃ c0 c1 c2 c3, le4 (IntKind.wrap .i32 (crcOf (frameH k))) = [c0, c1, c2, c3] := ⟨_, _, _, _, rfl⟩
  have hf : frame k ++ rest = frameH k ++ (c0 :: c1 :: c2 :: c3 :: rest) := by rw [frame, hc]; simp
  have hok := (frame_first k rest hk).1
  rw [hf, frameH_any hk] at hok
  have hnum : (num4 c0 c1 c2 c3 : Int) = crcOf (frameH k) := by simpa using hok
  rw [hf]
  by_cases hp : p < (frameH k).length
  · obtain ⟨q, rfl⟩ : ∃ q, p = q + 4 := ⟨p - 4, by omega⟩
    have hq : q < k.length := by omega
    obtain ⟨b, hb⟩ : ∃ b, k[q]? = some b := ⟨_, List.getElem?_eq_getElem hq⟩
    have hl4 : (le4 (IntKind.wrap .i32 k.length)).length = 4 := rfl
    have e1 : turnB (frameH k) (q + 4) m = le4 (IntKind.wrap .i32 k.length) ++ turnB k q m := by
      rw [frameH, turn_app (by omega), hl4, Nat.add_sub_cancel]
    have e2 : turnB (frameH k) (q + 4) m = frameH (turnB k q m) := by rw [e1, frameH, turn_len]
    rw [turn_left hp, e2, frameH_any (by rw [turn_len]; exact hk), hnum]
    have hspl : k = k.take q ++ b :: k.drop (q + 1) := by
      have : k[q] = b := (List.getElem?_eq_some_iff.1 hb).2
      rw [← this, List.getElem_cons_drop, List.take_append_drop]
    have htq : (k.take q).length = q := by rw [List.length_take]; omega
    have e3 : turnB k q m = k.take q ++ (b ^^^ m) :: k.drop (q + 1) := by
      conv => lhs; rw [hspl]
      rw [turn_app (by omega), htq, Nat.sub_self]; rfl
    have hne := crc_differs (le4 (IntKind.wrap .i32 k.length) ++ k.take q) (k.drop (q + 1)) (b := b) (c := b ^^^ m) (fun h => xor_ne hm h.symm)
    have f1 : frameH k = (le4 (IntKind.wrap .i32 k.length) ++ k.take q) ++ b :: k.drop (q + 1) := by
      rw [List.append_assoc, ← hspl, frameH]
    have f2 : frameH (turnB k q m) = (le4 (IntKind.wrap .i32 k.length) ++ k.take q) ++ (b ^^^ m) :: k.drop (q + 1) := by
      rw [frameH, turn_len, e3, List.append_assoc]
    rw [f1, f2]
    simpa using hne
  · have hp' : (frameH k).length ≤ p := by omega
    rw [turn_app hp']
    have x0 := c0.toNat_lt
    have x1 := c1.toNat_lt
    have x2 := c2.toNat_lt
    have x3 := c3.toNat_lt
    have fin : ∀ d0 d1 d2 d3 : UInt8, num4 d0 d1 d2 d3 ≠ num4 c0 c1 c2 c3 → firstOk (frameH k ++ (d0 :: d1 :: d2 :: d3 :: rest)) = false := by
      intro d0 d1 d2 d3 hne
      rw [frameH_any hk, ← hnum]
      have : ((num4 d0 d1 d2 d3 : Nat) : Int) ≠ (num4 c0 c1 c2 c3 : Nat) := by omega
      simpa using this
    have ne : ∀ c : UInt8, (c ^^^ m).toNat ≠ c.toNat := fun c h => xor_ne hm (UInt8.toNat_inj.1 h)
    have lt : ∀ c : UInt8, (c ^^^ m).toNat < 256 := fun c => (c ^^^ m).toNat_lt
    have y0 := ne c0
    have y1 := ne c1
    have y2 := ne c2
    have y3 := ne c3
    have z0 := lt c0
    have z1 := lt c1
    have z2 := lt c2
    have z3 := lt c3
    obtain ⟨j, hj⟩ : ∃ j, p - (frameH k).length = j := ⟨_, rfl⟩
    rw [hj]
    have hj4 : j = 0 ∨ j = 1 ∨ j = 2 ∨ j = 3 := by omega
    rcases hj4 with rfl | rfl | rfl | rfl
    · exact fin (c0 ^^^ m) c1 c2 c3 (by unfold num4; omega)
    · exact fin c0 (c1 ^^^ m) c2 c3 (by unfold num4; omega)
    · exact fin c0 c1 (c2 ^^^ m) c3 (by unfold num4; omega)
    · exact fin c0 c1 c2 (c3 ^^^ m) (by unfold num4; omega)
theorem parse_turned {k a : List UInt8} {p : Nat} {m : UInt8} (hk : k.length ≤ 65536) (hm : m ≠ 0) (h1 : 4 ≤ p) (h2 : p < k.length + 8) : casParse (turnB (entry k a) p m) = none := by
  have h := first_turned (rest := frame a) hk hm h1 h2
  have hl : (turnB (entry k a) p m).length ≠ 0 := by rw [turn_len, entry_len]; omega
  have hr : recs (turnB (entry k a) p m) = [] := recs_no h
  have hg : good (turnB (entry k a) p m) = 0 := by rw [good, hr]; rfl
  rw [casParse, if_neg (by rw [hg]; exact fun h => hl h.symm)]

/-! ### the store while things are put -/
structure StI (d : DS) (n : Nat) : Prop where
  ok : d.Ok
  q : d.q = 1048576
  lim : d.lim ≤ 3 * n
  len : d.now.length ≤ n
  used : d.used ≤ n * 416
  each : ∀ x ∈ d.now, ∃ k a i, i < 8 ∧ k.length ≤ 200 ∧ a.length ≤ 200 ∧ x.1 = fileOf k 2 i ∧ d.dataAt x.2 = entry k a
  key : ∀ x ∈ d.now, ∀ y ∈ d.now, ∀ k a b, casParse (d.dataAt x.2) = some (k, a) → casParse (d.dataAt y.2) = some (k, b) → x = y
theorem StI.zero : StI (DS.empty 1048576) 0 where
  ok := ⟨List.Pairwise.nil, (fun x hx => by cases hx), Nat.le_refl _, Nat.le_refl _, by simp [DS.empty], (fun l hl => by cases hl), by simp [DS.empty]⟩
  q := rfl
  lim := Nat.le_refl _
  len := Nat.le_refl _
  used := Nat.le_refl _
  each := fun x hx => by cases hx
  key := fun x hx => by cases hx
theorem slotP_mem {d : DS} {dg : Nat} {key : List UInt8} {i : Nat} (hs : Srt d.now) (h : (slotFile d dg key i).isSome = true) : ∃ v, (fileOf key dg i, v) ∈ d.now ∧ slotFile d dg key i = some (d.dataAt v) := by
  unfold slotFile at h ⊢
  cases hg : rget d.now (fileOf key dg i) with
  | none => rw [hg] at h; simp at h
  | some v => exact ⟨v, (rget_iff hs).1 hg, by simp⟩
theorem slotP_some {d : DS} {dg : Nat} {key : List UInt8} {i : Nat} (h : (slotP d dg key i).isSome = true) : (slotFile d dg key i).isSome = true := by
  unfold slotP at h
  cases hg : slotFile d dg key i with
  | none => rw [hg] at h; simp at h
  | some v => rfl
theorem StI.put {d : DS} {n : Nat} {k a : List UInt8} (h : StI d n) (hn : n < 40) (hk : k.length ≤ 200) (ha : a.length ≤ 200) : StI (casPut d 2 k a).2 (n + 1) ∧ (casPut d 2 k a).2.now ≠ [] := by
  have hs := h.ok.srt
  have more : StI d (n + 1) := ⟨h.ok, h.q, by have := h.lim; omega, by have := h.len; omega, Nat.le_trans h.used (by omega), h.each, h.key⟩
  unfold casPut
  rw [if_neg (by omega)]
  by_cases hf : (casFind d 2 k).isSome = true
  · rw [if_pos hf]
    refine ⟨more, ?_⟩
    obtain ⟨i, hi⟩ := Option.isSome_iff_exists.1 hf
    have := List.find?_some hi
    rw [Bool.and_eq_true] at this
    obtain ⟨v, hv, _⟩ := slotP_mem hs (slotP_some this.1)
    exact List.ne_nil_of_mem hv
  · rw [if_neg hf]
    have hf0 : ∀ j, j < 8 → ((slotP d 2 k j).isSome && decide (slotK d 2 k j = k)) = false := by
      have : casFind d 2 k = none := by simpa using hf
      unfold casFind at this
      rw [List.find?_eq_none] at this
      intro j hj
      simpa using this j (List.mem_range.2 hj)
    cases hfr : casFree d 2 k with
    | none =>
      refine ⟨more, ?_⟩
      unfold casFree at hfr
      rw [List.find?_eq_none] at hfr
      have := hfr 0 (List.mem_range.2 (by decide))
      obtain ⟨v, hv, _⟩ := slotP_mem (key := k) (dg := 2) (i := 0) hs (by
        cases hb : (slotFile d 2 k 0).isSome with
        | true => rfl
        | false => rw [hb] at this; exact absurd rfl this)
      exact List.ne_nil_of_mem hv
    | some i =>
      have hi8 : i < 8 := List.mem_range.1 (List.mem_of_find?_eq_some hfr)
      have hno : (slotFile d 2 k i).isSome = false := by have := List.find?_some hfr; simpa using this
      have hrn : rget d.now (fileOf k 2 i) = none := by
        unfold slotFile at hno; simpa using hno
      have hrt : rget d.now (tmpOf (fileOf k 2 i)) = none := by
        cases hg : rget d.now (tmpOf (fileOf k 2 i)) with
        | none => rfl
        | some v =>
          obtain ⟨k', a', i', _, _, _, e, _⟩ := h.each _ ((rget_iff hs).1 hg)
          have e1 := fileOf_size k (dg := 2) i (by decide)
          have e2 := fileOf_size k' (dg := 2) i' (by decide)
          have e3 : (tmpOf (fileOf k 2 i)).size = (fileOf k 2 i).size + 4 := by rw [tmpOf, ByteArray.size_append]; rfl
          have e : tmpOf (fileOf k 2 i) = fileOf k' 2 i' := e
          rw [e] at e3; omega
      have hlen := entry_len k a
      have hlim := h.lim
      have hle := h.len
      have hus := h.used
      have hq := h.q
      obtain ⟨d', w, ok', n', f', q', u'⟩ := write_ok (d := d) (n := fileOf k 2 i) (b := entry k a) h.ok (file_may k (by decide) hi8) (tmp_may k (by decide) hi8) hrn hrt (by omega) (by omega) (by omega) (by omega)
      have hp : (casPut d 2 k a) = (0, d') := by
        unfold casPut
        rw [if_neg (by omega), if_neg hf, hfr]
        exact w
      have hl3 := casPut_lim d 2 k a
      rw [hp] at hl3
      simp only at hl3
      simp only [w]
      have hnl := rput_len_none (v := (d.fd.length : Int)) hrn
      rw [← n'] at hnl
      have old : ∀ x ∈ d.now, d'.dataAt x.2 = d.dataAt x.2 := by
        intro x hx
        have := h.ok.inj x hx
        rw [DS.dataAt, DS.dataAt, f', List.getElem?_append_left (by omega)]
      have new : d'.dataAt (d.fd.length : Int) = entry k a := by rw [DS.dataAt, f']; simp
      have mem : ∀ x ∈ d'.now, x ∈ d.now ∨ x = (fileOf k 2 i, (d.fd.length : Int)) := fun x hx => by rw [n'] at hx; exact mem_rput hx
      have pe : casParse (entry k a) = some (k, a) := casParse_entry (by omega) (by omega)
      -- no elder file holds the key
      have none_ : ∀ y ∈ d.now, ∀ b, casParse (d.dataAt y.2) ≠ some (k, b) := by
        intro y hy b hb
        obtain ⟨k', a', j, hj, hk', ha', e1, e2⟩ := h.each y hy
        rw [e2, casParse_entry (by omega) (by omega)] at hb
        cases hb
        have hg : rget d.now (fileOf k 2 j) = some y.2 := (rget_iff hs).2 (by rw [← e1]; exact hy)
        obtain ⟨_, s2, s3, _⟩ := slot_some hg e2 (by omega) (by omega)
        have := hf0 j hj
        rw [s2, s3] at this; simp at this
      refine ⟨⟨ok', by rw [q', hq], by omega, by omega, by omega, ?_, ?_⟩, ?_⟩
      · intro x hx
        rcases mem x hx with hx | rfl
        · rw [old x hx]; exact h.each x hx
        · exact ⟨k, a, i, hi8, hk, ha, rfl, new⟩
      · intro x hx y hy k1 a1 b1 h1 h2
        rcases mem x hx with hx | rfl
        · rw [old x hx] at h1
          rcases mem y hy with hy | rfl
          · rw [old y hy] at h2; exact h.key x hx y hy k1 a1 b1 h1 h2
          · simp only at h2
            rw [new, pe] at h2; cases h2
            exact absurd h1 (none_ x hx _)
        · simp only at h1
          rw [new, pe] at h1; cases h1
          rcases mem y hy with hy | rfl
          · rw [old y hy] at h2
            exact absurd h2 (none_ y hy _)
          · rfl
      · intro h0
        rw [h0] at hnl; simp at hnl
def puts (d : DS) (l : List (List UInt8 × List UInt8)) : DS := l.foldl (fun d o => (casPut d 2 o.1 o.2).2) d
theorem puts_inv : ∀ {l : List (List UInt8 × List UInt8)} {d : DS} {n : Nat}, StI d n → n + l.length ≤ 40 → (∀ o ∈ l, o.1.length ≤ 200 ∧ o.2.length ≤ 200) → StI (puts d l) (n + l.length) ∧ (l ≠ [] → (puts d l).now ≠ []) := by
  intro l
  induction l with
  | nil => intro d n h _ _; exact ⟨h, fun h => absurd rfl h⟩
  | cons o l ih =>
    intro d n h hl ho
    have h1 := ho o (List.mem_cons_self ..)
    simp only [List.length_cons] at hl
    obtain ⟨g1, g2⟩ := h.put (by omega) h1.1 h1.2
    obtain ⟨r1, r2⟩ := ih g1 (by omega) fun x hx => ho x (List.mem_cons_of_mem _ hx)
    refine ⟨?_, fun _ => ?_⟩
    · have e : n + (o :: l).length = n + 1 + l.length := by simp only [List.length_cons]; omega
      rw [e]; exact r1
    · cases l with
      | nil => exact g2
      | cons x l => exact r2 (by simp)

/-! ### a turned file -/
theorem flip_zero (d : DS) (i : Int) (p : Nat) : d.flip i p 0 = d := by
  unfold DS.flip
  rw [turn_zero]
  have : d.fd.set i.toNat (d.dataAt i) = d.fd := by
    apply List.ext_getElem?
    intro j
    rw [List.getElem?_set]
    split
    · rename_i h
      subst h
      split
      · rename_i h2
        rw [DS.dataAt, List.getElem?_eq_getElem h2]; rfl
      · rename_i h2
        rw [List.getElem?_eq_none (by omega)]
    · rfl
  rw [this]
theorem file_pre (k : List UInt8) (i : Nat) : hasPre (fileOf k 2 i) cdash = true := by
  have hs := fileOf_size k (dg := 2) i (by decide)
  have hc : cdash.size = 2 := rfl
  unfold hasPre
  rw [hc, hs, seq_eq]
  have : (fileOf k 2 i).extract 0 2 = cdash := by
    apply bytes_ext
    rw [ByteArray.data_extract]
    have e : (fileOf k 2 i).data.toList = [99, 45] ++ (((nameOf k).extract 0 2).data.toList ++ ([45] ++ [u8 (48 + IntKind.wrap .u8 i)])) := by
      unfold fileOf
      rw [bytes_app, bytes_app, bytes_app]
      simp
    have e2 : ((fileOf k 2 i).data.extract 0 2).toList = (fileOf k 2 i).data.toList.take 2 := by simp
    rw [e2, e]; rfl
  rw [this]; simp
theorem sound_entry {k a : List UInt8} {i : Nat} (hi : i < 8) (hk : k.length ≤ 200) (ha : a.length ≤ 200) : soundB 2 (fileOf k 2 i) (entry k a) = true := by
  unfold soundB
  rw [casParse_entry (by omega) (by omega)]
  simp only [List.any_eq_true, List.mem_range]
  exact ⟨i, hi, by rw [seq_eq]; simp⟩
theorem fold_id {α β : Type} {f : β → α → β} : ∀ {l : List α} {b : β}, (∀ x ∈ l, f b x = b) → l.foldl f b = b := by
  intro l
  induction l with
  | nil => intro b _; rfl
  | cons x l ih =>
    intro b h
    rw [List.foldl_cons, h x (List.mem_cons_self ..)]
    exact ih fun y hy => h y (List.mem_cons_of_mem _ hy)
theorem flip_data {d : DS} {n : Nat} (h : StI d n) {x y : ByteArray × Int} (hx : x ∈ d.now) (hy : y ∈ d.now) (hxy : y ≠ x) (p : Nat) (m : UInt8) : (d.flip x.2 p m).dataAt y.2 = d.dataAt y.2 := by
  have i1 := h.ok.inj x hx
  have i2 := h.ok.inj y hy
  have hne : x.2.toNat ≠ y.2.toNat := fun e => by
    have e2 : x.2 = y.2 := by omega
    obtain ⟨k, a, i, _, hk, ha, _, e1⟩ := h.each x hx
    have hp : casParse (d.dataAt x.2) = some (k, a) := by rw [e1]; exact casParse_entry (by omega) (by omega)
    exact hxy (h.key y hy x hx k a a (by rw [← e2]; exact hp) hp)
  unfold DS.flip
  simp only [DS.dataAt]
  rw [List.getElem?_set, if_neg hne]
theorem turned_open {d : DS} {n : Nat} (h : StI d n) {x : ByteArray × Int} (hx : x ∈ d.now) {k a : List UInt8} (hpx : casParse (d.dataAt x.2) = some (k, a)) {p : Nat} {m : UInt8} (hm : m ≠ 0) (h1 : 4 ≤ p) (h2 : p < k.length + 8) :
    (casOpen (d.flip x.2 p m) 2).now.length + 1 = d.now.length ∧ casGet (casOpen (d.flip x.2 p m) 2) 2 k = none := by
  have hs := h.ok.srt
  obtain ⟨k', a', ix, hix, hk, ha, e1, e2⟩ := h.each x hx
  have hpe : casParse (entry k' a') = some (k', a') := casParse_entry (by omega) (by omega)
  have hkk : k' = k ∧ a' = a := by rw [e2, hpe] at hpx; cases hpx; exact ⟨rfl, rfl⟩
  obtain ⟨rfl, rfl⟩ := hkk
  obtain ⟨d', hd'⟩ : ∃ d', d.flip x.2 p m = d' := ⟨_, rfl⟩
  have now' : d'.now = d.now := by rw [← hd']; rfl
  have ix1 := h.ok.inj x hx
  have hdx : d'.dataAt x.2 = turnB (entry k' a') p m := by
    rw [← hd', DS.flip, DS.dataAt, e2]
    rw [List.getElem?_set_self (by omega)]; rfl
  have hdy : ∀ y ∈ d.now, y ≠ x → d'.dataAt y.2 = d.dataAt y.2 := fun y hy hxy => by rw [← hd']; exact flip_data h hx hy hxy p m
  have hbad : soundB 2 x.1 (d'.dataAt x.2) = false := by
    unfold soundB
    rw [hdx, parse_turned (by omega) hm h1 h2]
  have ok' : d'.Ok := by
    rw [← hd']
    exact append_ok h.ok (by rw [turn_len]; exact dataAt_len h.ok _)
  have hm1 : mayName x.1 = true := by rw [e1]; exact file_may k' (by decide) hix
  have hgx : rget d'.now x.1 = some x.2 := by rw [now']; exact (rget_iff hs).2 hx
  obtain ⟨r1, r2⟩ := remove_now ok' hm1 hgx
  obtain ⟨e, he⟩ : ∃ e, d'.turn x.1 ByteArray.empty 0 = e := ⟨_, rfl⟩
  rw [he] at r1 r2
  have hed : ∀ v, e.dataAt v = d'.dataAt v := fun v => by rw [← he]; rfl
  have stay : ∀ y ∈ d.now, y ≠ x → ∀ g : DS, openStep 2 g (y.1, d'.dataAt y.2) = g := by
    intro y hy hxy g
    obtain ⟨k2, a2, i2, hi2, hk2, ha2, g1, g2⟩ := h.each y hy
    unfold openStep
    rw [if_pos]
    rw [hdy y hy hxy, g2, g1, sound_entry hi2 hk2 ha2]; simp
  have hopen : casOpen d' 2 = e := by
    unfold casOpen DS.view
    rw [now']
    obtain ⟨A, B, hAB⟩ := List.append_of_mem hx
    have hp := hs
    unfold Srt at hp
    rw [hAB, List.pairwise_append] at hp
    obtain ⟨pA, pB, pAB⟩ := hp
    have nA : ∀ y ∈ A, y ≠ x := fun y hy hh => by
      have := pAB y hy x (List.mem_cons_self ..)
      rw [hh, slt_irrefl] at this; cases this
    have nB : ∀ y ∈ B, y ≠ x := fun y hy hh => by
      have := List.rel_of_pairwise_cons pB hy
      rw [hh, slt_irrefl] at this; cases this
    rw [hAB, List.map_append, List.map_cons, List.foldl_append, List.foldl_cons]
    have s1 : (A.map fun z => (z.1, d'.dataAt z.2)).foldl (openStep 2) d' = d' := fold_id fun z hz => by
      obtain ⟨y, hy, rfl⟩ := List.mem_map.1 hz
      exact stay y (by rw [hAB]; exact List.mem_append_left _ hy) (nA y hy) d'
    have s2 : openStep 2 d' (x.1, d'.dataAt x.2) = e := by
      unfold openStep
      have : hasPre x.1 cdash = true := by rw [e1]; exact file_pre k' ix
      rw [this, hbad, r1]; simp
    rw [s1, s2]
    exact fold_id fun z hz => by
      obtain ⟨y, hy, rfl⟩ := List.mem_map.1 hz
      exact stay y (by rw [hAB]; exact List.mem_append_right _ (List.mem_cons_of_mem _ hy)) (nB y hy) e
  rw [hd', hopen]
  refine ⟨by rw [r2, rdel_len_some hgx, now'], ?_⟩
  have se : Srt e.now := by rw [r2, now']; exact hs.del
  have : casFind e 2 k' = none := find_no fun j hj => by
    rw [Bool.and_eq_false_iff]
    by_cases hsl : (slotP e 2 k' j).isSome = true
    · refine .inr (decide_eq_false fun hk => ?_)
      obtain ⟨v, hv, hvs⟩ := slotP_mem se (slotP_some hsl)
      rw [r2, now', mem_rdel_iff hs] at hv
      obtain ⟨v1, v2⟩ := hv
      have hne : (fileOf k' 2 j, v) ≠ x := fun hh => v2 (by rw [← hh])
      obtain ⟨k2, a2, i2, hi2, hk2, ha2, g1, g2⟩ := h.each _ v1
      have hP : slotP e 2 k' j = some (k2, a2) := by
        rw [slotP, hvs, hed, hdy _ v1 hne, g2]
        exact casParse_entry (by omega) (by omega)
      have hkk : k2 = k' := by rw [slotK, hP] at hk; exact hk
      subst hkk
      refine hne (h.key _ v1 x hx k2 a2 a' ?_ (by rw [e2]; exact hpe))
      rw [g2]; exact casParse_entry (by omega) (by omega)
    · exact .inl (by simpa using hsl)
  rw [casGet, this]; rfl
end Go.Proofs.YtdndpmlapcbjaaaGreat

namespace Go.Proofs.YtdndpmlapcbjaaaGreat
open Go Go.RowKit
set_option linter.unusedSimpArgs false
set_option linter.unusedVariables false

section
variable {F H : HP} {M : Mem} {X : List PanicEntry → Mem → Prop}
theorem mark_ {b n : Nat} {vs : List Value} {κ : Mem → Prop} (h : At H M) [hp : Pick (cl b) H (5, vs) F] (l : List UInt8) (e : vs = cb l) (hn : n = l.length) (hl : l.length ≤ 1000) (hκ : ∀ M', At (bs ⟨some (b, 0), n, n⟩ l * F) M' → κ M') : mark ⟨some (b, 0), n, n⟩ κ M := by
  subst e
  subst hn
  have hA : At (cl b (5, cb l) * F) M := h.cast hp.eq
  have hB : M b = some (.cells (cb l).toArray 5 (0, 0)) := At.blk hA
  refine ⟨(b, 0), (cb l).toArray, 5, (0, 0), rfl, hB, hκ _ ?_⟩
  have h2 := (At.upd (o' := .cells (cb l).toArray 5 (frz (cb l).toArray.size (0, 0))) hA).freeze
  refine h2.imp (Ent.star (fun m (hm : m b = _) => ?_) (Ent.refl F))
  have hm2 : erm (shp m) b = some (.cells (cb l).toArray 5 (frz (cb l).toArray.size (0, 0))) := by simp [erm, shp, hm]
  refine ⟨fun j v hv => ?_, rfl, Nat.le_refl _, by simp only; omega⟩
  simp only [cel, hm2, Nat.zero_add, List.getElem?_toArray]
  exact hv
theorem call15_ {K : Bool → Mem → Prop} (h : At F M) (hK : ∀ M', At F M' → K true M') : call 15 [] X (fun v_ M => ∃ r : Bool, v_ = .bool r ∧ K r M) M := by
  refine br15 (K := K) ?_
  unfold S15
  refine call11_ h (by decide) (by decide) fun p M1 h1 => ?_
  have hok := dskA_ok h1
  obtain ⟨d1, d2, p1, p2, hnames, g1, g2, hlim⟩ := lives_plain hok
  have hopen : casOpen (DS.empty 1000) 0 = DS.empty 1000 := rfl
  refine call12_ (dg := 0) h1 (by decide) (by intro x hx; cases hx) (by decide) fun sp M2 h2 => ?_
  rw [hopen] at h2
  refine newc_ h2 fun b3 M3 h3 => mark_ (b := b3) h3 k1 rfl rfl (by decide) fun M4 h4 => newc_ h4 fun b4 M5 h5 => mark_ (b := b4) h5 [120] rfl rfl (by decide) fun M6 h6 => ?_
  refine call13_ (dp := p) (dg := 0) (d := DS.empty 1000) (key := k1) (art := [120]) (C1 := bs ⟨some (b3, 0), 2, 2⟩ k1 * (bs ⟨some (b4, 0), 1, 1⟩ [120] * F)) (by decide) (by decide) (by decide) h6.use (by decide) fun M7 h7 => ?_
  rw [p1] at h7 ⊢
  simp only at h7 ⊢
  refine newc_ h7 fun b6 M8 h8 => mark_ (b := b6) h8 k2 rfl rfl (by decide) fun M9 h9 => newc_ h9 fun b7 M10 h10 => mark_ (b := b7) h10 [121] rfl rfl (by decide) fun M11 h11 => ?_
  refine call13_ (dp := p) (dg := 0) (d := d1) (key := k2) (art := [121]) (C1 := bs ⟨some (b6, 0), 2, 2⟩ k2 * (bs ⟨some (b7, 0), 1, 1⟩ [121] * F)) (by decide) (by decide) (by decide) h11.use (by omega) fun M12 h12 => ?_
  rw [p2] at h12 ⊢
  simp only at h12 ⊢
  refine call14_ h12 fun rl M13 h13 => ?_
  have hvs : (d2.now.map fun x => Value.string x.1) = [.string (nn0 0), .string (nn0 1)] := by
    have : (d2.now.map fun x => Value.string x.1) = (d2.now.map (·.1)).map Value.string := by rw [List.map_map]; rfl
    rw [this, hnames]; rfl
  rw [hvs] at h13
  have hrl := (h13.pick (A := arr rl 9 1)).arr_len.1
  simp only [List.length_cons, List.length_nil, Nat.mul_one] at hrl
  refine newc_ h13 fun b10 M14 h14 => mark_ (b := b10) h14 k1 rfl rfl (by decide) fun M15 h15 => ?_
  refine call20_ (dp := p) (dg := 0) (d := d2) (key := k1) (C1 := bs ⟨some (b10, 0), 2, 2⟩ k1 * (arr rl 9 1 [.string (nn0 0), .string (nn0 1)] * F)) (by decide) (by decide) h15.use (fun a r M16 ha h16 => ?_) (fun M16 hn => by rw [g1] at hn; cases hn)
  rw [g1] at ha; cases ha
  refine newc_ h16 fun b12 M17 h17 => mark_ (b := b12) h17 k2 rfl rfl (by decide) fun M18 h18 => ?_
  refine call20_ (dp := p) (dg := 0) (d := d2) (key := k2) (C1 := bs ⟨some (b12, 0), 2, 2⟩ k2 * (bs r [120] * (arr rl 9 1 [.string (nn0 0), .string (nn0 1)] * F))) (by decide) (by decide) h18.use (fun a r2 M19 ha h19 => ?_) (fun M16 hn => by rw [g2] at hn; cases hn)
  rw [g2] at ha; cases ha
  refine iteT rfl ?_
  unfold S15_1
  refine iteT rfl ?_
  unfold S15_2
  refine iteT rfl ?_
  unfold S15_3
  refine iteT rfl ?_
  unfold S15_4
  refine iteT rfl ((h19.byt (s := r)).b2s ?_)
  rw [seq_bytes [120] [120]]
  unfold S15_5
  refine iteT rfl ((h19.byt (s := r2)).b2s ?_)
  rw [seq_bytes [121] [121]]
  unfold S15_6
  refine iteT rfl ?_
  unfold S15_7
  refine iteT (by simp; omega) (ix1_ 9 (v := .string (nn0 0)) h19 (Int.le_refl _) rfl fun q hq => ldSq hq ?_)
  have e0 : seq (nn0 0) (⟨#[99, 45, 45, 48]⟩ : ByteArray) = true := by rw [seq_eq]; decide
  rw [e0]
  unfold S15_8
  refine iteT rfl (ix1_ 9 (v := .string (nn0 1)) h19 (by decide) rfl fun q hq => ldSq hq ?_)
  have e1 : seq (nn0 1) (⟨#[99, 45, 45, 49]⟩ : ByteArray) = true := by rw [seq_eq]; decide
  rw [e1]
  unfold S15_9
  exact hK M19 h19.use

end
end Go.Proofs.YtdndpmlapcbjaaaGreat

namespace Go.Proofs.YtdndpmlapcbjaaaGreat
open Go Go.RowKit
set_option linter.unusedSimpArgs false
set_option linter.unusedVariables false

def ocells (l : List OpM) : List Value := l.flatMap fun o => [.int .u64 o.kind, Sl.v o.ks, Sl.v o.as_]
structure OpsIn (M : Mem) (s : Sl) (l : List OpM) : Prop where
  rd : rdc M s.a (ocells l)
  len : s.n = l.length
  cap : s.n ≤ s.c
  big : s.c ≤ 9223372036854775807
  each : ∀ o ∈ l, BS M o.ks o.k ∧ BS M o.as_ o.a
theorem OpsIn.sub {M M' : Mem} {s : Sl} {l : List OpM} (h : OpsIn M s l) (hs : Sub M M') : OpsIn M' s l := ⟨hs.rdc h.rd, h.len, h.cap, h.big, fun o ho => ⟨(h.each o ho).1.sub hs, (h.each o ho).2.sub hs⟩⟩
theorem ocells_len (l : List OpM) : (ocells l).length = 3 * l.length := by
  induction l with
  | nil => rfl
  | cons x l ih => simp only [ocells, List.flatMap_cons, List.length_append, List.length_cons, List.length_nil] at ih ⊢; omega
theorem ocells_at : ∀ {l : List OpM} {i : Nat} {o : OpM}, l[i]? = some o → (ocells l)[i * 3 + 0]? = some (.int .u64 o.kind) ∧ (ocells l)[i * 3 + 1]? = some (Sl.v o.ks) ∧ (ocells l)[i * 3 + 2]? = some (Sl.v o.as_) := by
  intro l
  induction l with
  | nil => intro i o h; cases h
  | cons x l ih =>
    intro i o h
    cases i with
    | zero => cases h; exact ⟨rfl, rfl, rfl⟩
    | succ i =>
      have := ih (i := i) (by simpa using h)
      have e : ∀ j, (ocells (x :: l))[(i + 1) * 3 + j]? = (ocells l)[i * 3 + j]? := by
        intro j
        have : (i + 1) * 3 + j = (i * 3 + j) + 1 + 1 + 1 := by omega
        rw [this]; rfl
      rw [e, e, e]; exact this
theorem OpsIn.ix {M : Mem} {s : Sl} {l : List OpM} (h : OpsIn M s l) {i : Int} {o : OpM} {κ : PA → Mem → Prop} (h0 : 0 ≤ i) (ho : l[i.toNat]? = some o)
    (hκ : ∀ q : PA, cel M (q.1, q.2) = some (.int .u64 o.kind) → cel M (q.1, q.2 + 1) = some (Sl.v o.ks) → cel M (q.1, q.2 + 2) = some (Sl.v o.as_) → κ q M) : YtdndpmlapcbjaaaGreat.ix s 3 i κ M := by
  have hr := h.rd
  have hlt := (List.getElem?_eq_some_iff.1 ho).1
  have hn := h.len
  obtain ⟨c0, c1, c2⟩ := ocells_at ho
  cases ha : s.a with
  | none =>
    rw [ha] at hr
    have h0 : ocells l = [] := hr
    have := ocells_len l
    rw [h0] at this
    simp at this; omega
  | some p =>
    rw [ha] at hr
    refine ⟨p, ha, h0, by omega, hκ _ ?_ ?_ ?_⟩
    · have := hr _ _ c0; simpa using this
    · have := hr _ _ c1; simpa [Nat.add_assoc] using this
    · have := hr _ _ c2; simpa [Nat.add_assoc] using this
theorem cutL_succ {l : List OpM} {i : Nat} {o : OpM} (h : l[i]? = some o) : cutL (l.take (i + 1)) = cutL (l.take i) ++ (if i < 40 ∧ keepOp o = true then [o] else []) := by
  have hlt := (List.getElem?_eq_some_iff.1 h).1
  unfold cutL
  by_cases hi : i < 40
  · have e1 : (l.take (i + 1)).take 40 = l.take (i + 1) := by rw [List.take_of_length_le]; simp; omega
    have e2 : (l.take i).take 40 = l.take i := by rw [List.take_of_length_le]; simp; omega
    rw [e1, e2, List.take_add_one, h, List.filter_append]
    congr 1
    cases hk : keepOp o <;> simp [hi, hk]
  · have e1 : (l.take (i + 1)).take 40 = (l.take i).take 40 := by rw [List.take_take, List.take_take]; congr 1; omega
    rw [e1, if_neg (fun hh => hi hh.1), List.append_nil]
theorem ocells_app (a b : List OpM) : ocells (a ++ b) = ocells a ++ ocells b := by simp [ocells]

section
variable {F H : HP} {M : Mem} {X : List PanicEntry → Mem → Prop}
theorem call10_ {s : Sl} {l : List OpM} {K : Sl → Mem → Prop} (h : At F M) (hF : ∀ M', At F M' → OpsIn M' s l) (hK : ∀ r M', At (arr r 34 3 (ocells (cutL l)) * F) M' → K r M') :
    call 10 [Sl.v s] X (fun v_ M => ∃ r : Sl, v_ = Sl.v r ∧ K r M) M := by
  refine br10 (K := K) ?_
  have h0 := hF M h
  have hlen := h0.len
  have hcap := h0.cap
  have hbig := h0.big
  unfold S10 S10_2
  refine Lp_of (σ := Sl × Int) (fun x M' => 0 ≤ x.2 ∧ x.2 ≤ l.length ∧ At (arr x.1 34 3 (ocells (cutL (l.take x.2.toNat))) * F) M') (fun x => l.length - x.2.toNat) ?_ ⟨Int.le_refl _, Int.natCast_nonneg _, ?_⟩
  · rintro ⟨r, i⟩ M2 next ⟨i0, i1, h2⟩ hnx
    simp only at i0 i1 h2 hnx ⊢
    unfold S10_2b
    refine ite_ (fun hc => ?_) (fun hc => ?_)
    · have hlt : i < l.length := by have := of_decide_eq_true hc; omega
      obtain ⟨o, ho⟩ : ∃ o, l[i.toNat]? = some o := ⟨_, List.getElem?_eq_getElem (by omega)⟩
      have hO := hF M2 h2.r
      obtain ⟨hk, ha⟩ := hO.each o (List.mem_of_getElem? ho)
      have hkl := hk.len
      have hal := ha.len
      have e5 : (i + 1).toNat = i.toNat + 1 := by omega
      have w5 : IntKind.wrap .i64 (i + 1) = i + 1 := w64 (by omega) (by omega)
      have hsucc := cutL_succ ho
      have skip : ∀ M3, ¬ (i.toNat < 40 ∧ keepOp o = true) → At (arr r 34 3 (ocells (cutL (l.take i.toNat))) * F) M3 → S10_3 r i s (s.n : Int) K X next M3 := by
        intro M3 hno h3
        unfold S10_3
        rw [w5]
        rw [if_neg hno, List.append_nil] at hsucc
        refine hnx _ _ ⟨by omega, by omega, ?_⟩ (by simp; omega)
        simp only [e5, hsucc]; exact h3
      have hcl := cutL_len (l.take i.toNat)
      have hrl := h2.arr_len
      rw [ocells_len] at hrl
      refine hO.ix i0 ho fun q hq0 hq1 hq2 => ldIq hq0 (ldLq hq1 (ldLq hq2 (ite_ (fun hi => ?_) (fun hi => ?_))))
      · have hi' : i.toNat < 40 := by have := of_decide_eq_true hi; omega
        unfold S10_4
        refine ite_ (fun hk2 => ?_) (fun hk2 => ?_)
        · have hkk : o.k.length ≤ 200 := by have := of_decide_eq_true hk2; omega
          unfold S10_5
          refine ite_ (fun ha2 => ?_) (fun ha2 => ?_)
          · have haa : o.a.length ≤ 200 := by have := of_decide_eq_true ha2; omega
            have hyes : i.toNat < 40 ∧ keepOp o = true := ⟨hi', by simp [keepOp, hkk, haa]⟩
            rw [if_pos hyes] at hsucc
            refine newc_ h2 fun b14 M3 h3 => ?_
            refine arr_app (s := r) (vs := ocells (cutL (l.take i.toNat))) (x := ⟨some (b14, 0), 1, 1⟩) (news := [.int .u64 o.kind, Sl.v o.ks, Sl.v o.as_]) h3 rfl ?_ rfl ?_ ?_ ?_ fun r2 M4 h4 hn4 => ?_
            · intro j v hv
              match j, hv with
              | 0, hv => cases hv; exact h3.cel (b := b14) rfl
              | 1, hv => cases hv; exact h3.cel (b := b14) rfl
              | 2, hv => cases hv; exact h3.cel (b := b14) rfl
            · intro v hv; simp at hv; rcases hv with rfl | rfl | rfl <;> rfl
            · simp only; omega
            · simp only; omega
            · unfold S10_3
              rw [w5]
              refine hnx _ _ ⟨by omega, by omega, ?_⟩ (by simp; omega)
              have e6 : ocells (cutL (l.take (i.toNat + 1))) = ocells (cutL (l.take i.toNat)) ++ [.int .u64 o.kind, Sl.v o.ks, Sl.v o.as_] := by rw [hsucc, ocells_app]; rfl
              simp only [e5, e6]
              exact h4.use
          · have haa : ¬ (o.a.length ≤ 200) := by have := of_decide_eq_false ha2; omega
            exact skip M2 (fun hh => by simp [keepOp] at hh; omega) h2
        · have hkk : ¬ (o.k.length ≤ 200) := by have := of_decide_eq_false hk2; omega
          unfold S10_5
          exact iteF rfl (skip M2 (fun hh => by simp [keepOp] at hh; omega) h2)
      · have hi' : ¬ (i.toNat < 40) := by have := of_decide_eq_false hi; omega
        unfold S10_4
        refine iteF rfl ?_
        unfold S10_5
        exact iteF rfl (skip M2 (fun hh => hi' hh.1) h2)
    · have hge : i = l.length := by have := of_decide_eq_false hc; omega
      subst hge
      unfold S10_1
      have e : l.take ((l.length : Int).toNat) = l := by simp
      rw [e] at h2
      exact hK r M2 h2
  · have : (arr ⟨none, 0, 0⟩ 34 3 (ocells (cutL (l.take (0 : Int).toNat)))) = tt := arr_nil
    simp only
    rw [this, tt_star]; exact h

/-! ### Turn -/
theorem ixor_u8 (a b : UInt8) : ixor .u8 (a.toNat : Int) (b.toNat : Int) = ((a ^^^ b).toNat : Int) := by
  have ha := a.toNat_lt
  have hb := b.toNat_lt
  have h : a.toNat ^^^ b.toNat < 2 ^ 8 := Nat.xor_lt_two_pow (by omega) (by omega)
  have ea : (BitVec.ofInt 8 (a.toNat : Int)).toNat = a.toNat := by simp [BitVec.toNat_ofInt]
  have eb : (BitVec.ofInt 8 (b.toNat : Int)).toNat = b.toNat := by simp [BitVec.toNat_ofInt]
  show IntKind.wrap .u8 ((BitVec.ofInt 8 (a.toNat : Int) ^^^ BitVec.ofInt 8 (b.toNat : Int)).toNat : Int) = _
  rw [BitVec.toNat_xor, ea, eb, UInt8.toNat_xor]
  have hw : IntKind.wrap .u8 ((a.toNat ^^^ b.toNat : Nat) : Int) = ((a.toNat ^^^ b.toNat : Nat) : Int) := by
    simp [IntKind.wrap, IntKind.bits, IntKind.signed]; omega
  exact hw
theorem flip_ok {d : DS} (hd : d.Ok) (i : Int) (at_ : Nat) (m : UInt8) : (d.flip i at_ m).Ok := by
  refine append_ok hd ?_
  have := dataAt_len hd i
  simpa [turnB] using this
theorem call18_ {p : Nat} {d : DS} {n : ByteArray} {at_ : Nat} {i : Int} {m : UInt8} {K : Bool → Mem → Prop} (h : At (dskA p d * F) M) (hi : rget d.now n = some i) (hat : at_ < (d.dataAt i).length)
    (hK : ∀ M', At (dskA p (d.flip i at_ m) * F) M' → K true M') : call 18 [ptr (some (p, 0)), .string n, .int .i64 at_, .int .u8 m.toNat] X (fun v_ M => ∃ r : Bool, v_ = .bool r ∧ K r M) M := by
  refine br18 (K := K) ?_
  unfold S18
  obtain ⟨g, hd, h3⟩ := dsk_open h
  have hfl := fcells_len g.fs
  have hfn := hd.len
  obtain ⟨i0, i1⟩ := idx_lt hd.ok hi
  have h3k := h3
  unfold dcells at h3
  obtain ⟨s, su, l, f1, f2, f3, f4, f5⟩ := file_at (i := i) (G := cl p (115, dcells d g) * (arr g.fl 135 2 (fcells g.fs) * (rowA g.nb d.now * (rowA g.sb g.sl * (arr g.ch 221 3 g.chv * F))))) hd (h3k.cast (by ac_rfl)) i0 (by omega)
  have hda : d.dataAt i = l := by simp [DS.dataAt, f2]
  rw [hda] at hat
  have hsz := hd.ok.sz l (List.mem_of_getElem? f2)
  refine call63o (d := d) (fcs := fcells g.fs) hd.ok h3 (by omega) (fun j b hj hfb => iteF rfl ?_) (fun hn => by rw [hi] at hn; cases hn)
  rw [hi] at hj; cases hj
  rw [decide_eq_false (p := (at_ : Int) < 0) (by omega)]
  unfold S18_1
  have hcel := arr_cel (v := Sl.v s) 135 2 h3 hfb (by simpa using f3)
  refine iteF rfl (nn_ (ldLq hcel ?_))
  rw [decide_eq_false (p := (at_ : Int) ≥ (s.n : Int)) (by omega)]
  unfold S18_2
  refine iteF rfl (nn_ (ldLq hcel ?_))
  refine br64 (K := fun r14 => _) (c64 (f4.byt (s := s)) (by omega) fun r M4 g1 g2 g3 => ?_)
  have h4 : At (arr r 5 1 (cb l) * (cl p (115, dcells d g) * (arr g.fl 135 2 (fcells g.fs) * (bss (g.fs.map (·.1)) d.fd * (rowA g.nb d.now * (rowA g.sb g.sl * (arr g.ch 221 3 g.chv * F))))))) M4 := by
    rcases g3 with rfl | ⟨b', g3, g4⟩
    · have h0 : l = [] := List.length_eq_zero_iff.1 g1.len.symm
      subst h0; simp at hat
    · exact h3k.of_OR g3 g4 g2
  refine st_arr 135 2 h4 hfb (by rw [hfl]; omega) fun M5 h5 => ?_
  have hlt5 : i.toNat * 2 < (fcells g.fs).length := by omega
  have hcel5 := arr_cel (v := Sl.v r) 135 2 h5 hfb (by rw [List.getElem?_set_self hlt5])
  have hrl := (h5.pick (A := arr r 5 1)).arr_len.1
  rw [cb_length] at hrl
  obtain ⟨x, hx⟩ : ∃ x, l[at_]? = some x := ⟨_, List.getElem?_eq_getElem hat⟩
  refine ldLq hcel5 (ix1_ 5 (v := .int .u8 x.toNat) h5 (by omega) (by simp [cb, hx]) fun q hq => ldIq hq (ixS_ 5 h5 (by omega) (by omega) fun q2 hq2 hst => ?_))
  obtain ⟨q3, q4⟩ := hst M5 _ h5.pick rfl 0 (.int .u8 (ixor .u8 x.toNat m.toNat)) (by decide)
  refine ⟨q3, hK _ ?_⟩
  have e1 : (cb l).set ((at_ : Int).toNat * 1 + 0) (.int .u8 (ixor .u8 x.toNat m.toNat)) = cb (turnB l at_ m) := by
    rw [ixor_u8]
    simp [cb, turnB, List.map_set, hx]
  rw [e1, (fcells_set (s' := r) (n' := 0) f1).1] at q4
  have h6 := q4.share
  refine dsk_close { g with fs := g.fs.set i.toNat (r, su) } ⟨flip_ok hd.ok i at_ m, by simp [DS.flip, hfn], hd.chl⟩ ?_
  simp only [dcells, List.map_set, DS.flip, hda]
  unfold dcells at h6
  have h7 : At (bs r (turnB l at_ m) * bss (g.fs.map (·.1)) d.fd * (cl p (115, [Sl.v g.fl, ptr (some (g.nb, 0)), ptr (some (g.sb, 0)), Sl.v g.ch, vi d.q, .bool g.full, .bool false, vi (-1), vi g.calls]) * (arr g.fl 135 2 (fcells (g.fs.set i.toNat (r, su))) * (rowA g.nb d.now * (rowA g.sb g.sl * (arr g.ch 221 3 g.chv * F)))))) _ := h6.use
  exact At.use (H := bss ((g.fs.map (·.1)).set i.toNat r) (d.fd.set i.toNat (turnB l at_ m)) * _) (h7.imp (Ent.star bss_set (Ent.refl _)))
end
end Go.Proofs.YtdndpmlapcbjaaaGreat

/- Printed by gen.py of this repo. -/
import Derived.Test.YtdndpmlapcbjaaaGreatTB
namespace Go.Proofs.YtdndpmlapcbjaaaGreat
open Go Go.RowKit
set_option linter.unusedVariables false
set_option maxRecDepth 100000

/-! brazier/brazierlaw06.CasNobody -/
/-! (*brazier/disk.Disk).List -/
def S14_1b (a2_ : PA) (t5_ : Value) (K : Sl → Mem → Prop) (X : List PanicEntry → Mem → Prop) (y3 : ByteArray) (y4 : Sl) (nx1 : Mem → Prop) (rt1 : Code → Mem → Prop) : Mem → Prop :=
 ldL a2_ fun t8_5 => new (.cells #[.string y3] 9 (0, 0)) fun b7 => appS 9 1 16 [.string (⟨#[]⟩ : ByteArray)] t8_5 (⟨some (b7, 0), 1, 1⟩ : Sl) fun x8 => st a2_ (Sl.v x8) <| nx1
def S14_1 (a2_ : PA) (t5_ : Value) (K : Sl → Mem → Prop) (X : List PanicEntry → Mem → Prop) : Mem → Prop :=
 rng t5_ 2 (fun args_ nx rt M => ∃ (y3 : ByteArray) (y4 : Sl), args_ = [.string y3, Sl.v y4] ∧ S14_1b a2_ t5_ K X y3 y4 nx rt M) (ldL a2_ fun t12_10 => st a2_ (Sl.v t12_10) <| ldL (a2_.1, a2_.2) fun z13 => K z13) (fun _ _ => False)
def S14 (t0 : Option PA) (K : Sl → Mem → Prop) (X : List PanicEntry → Mem → Prop) : Mem → Prop :=
 new (.cells #[Sl.v (⟨none, 0, 0⟩ : Sl)] 36 (0, 0)) fun b1 => call 54 [ptr t0] X fun v_ M => ∃ (r2 : Value), v_ = r2 ∧ ( S14_1 (b1, 0) r2 K X) M
abbrev F14_1 (K : Sl → Mem → Prop) (X : List PanicEntry → Mem → Prop) (e : Env) (Mp : Mem) : Prop := ∃ (a2_ : PA) (t5_ : Value) (M : Mem), e.D = [] ∧ e.v 2 = ptr (some a2_) ∧ e.v 5 = t5_ ∧ Pv M [] Mp ∧ S14_1 a2_ t5_ K X M
theorem br14 {t0 : Option PA} {K : Sl → Mem → Prop} {X : List PanicEntry → Mem → Prop} {M : Mem} (H : S14 t0 K X M) :
  Spec Tryz.prog 14 #[ptr t0] M (fun v_ M => ∃ (r0 : Sl), v_ = Sl.v r0 ∧ K r0 M) X := by
 refine spec_of_J (args := [ptr t0]) Tryz.func14 rfl Tryz.ntmps14 (Nat.le_of_ble_eq_true rfl) ?_
 have hD : (⟨fun i => ([ptr t0] : List Value).getD i undef, []⟩ : Env).D = [] := rfl
 have hP := Pv.nil M
 have hX := @kx_of Tryz.prog Tryz.f14 (fun v_ M => ∃ (r0 : Sl), v_ = Sl.v r0 ∧ K r0 M) X
 unfold S14 at H
 refine J_seq ?_
 refine J_region (by decide) ?_
 refine JO_alloc (cs := [Sl.v (⟨none, 0, 0⟩ : Sl)]) zc_36 ?_
 intro b1 hb
 replace H := H b1 (hP.out hb).1
 replace hP := hP.new hb (.cells #[Sl.v (⟨none, 0, 0⟩ : Sl)] 36 (0, 0))
 refine JO_nil ?_
 refine J_seq ?_
 refine J_seq ?_
 refine J_region (by decide) ?_
 refine JO_move (v := ptr t0) rfl ?_
 refine JO_call Tryz.call54 (vs := [ptr t0]) (mc rfl mn) ((hP.spec H).mono ?_ (fun ch Mp h => hX hD h))
 rintro r2 Mp ⟨M, hP, _, rfl, H⟩
 refine JO_nil ?_
 refine J_block ?_
 refine J_of (F14_1 K X) (show F14_1 K X _ _ from ⟨(b1, 0), r2, _, hD, rfl, rfl, hP, H⟩) ?_
 rintro e Mp ⟨a2_, t5_, M, hD, h2, h5, hP, H⟩
 unfold S14_1 at H
 refine J_forget (fun _ _ hb => hP.sub hb) ?_
 obtain ⟨f_, caps_, hf_, he_, H⟩ := H
 refine J_range (gf := f_) (caps := caps_) (h5.trans hf_) he_ (by decide) ?_
 intro y_ l_ oR_ oD_ hM_ law_
 refine (H y_ l_ oR_ oD_ hM_ ?_).mono ?_ (fun _ _ f => f)
 ·
  rintro args_ κ_ M hlen_ hl_ ⟨y3, y4, rfl, hb_⟩ ro_
  refine law_ _ κ_ M hlen_ hl_ ?_ ro_
  obtain ⟨nx1, rt1, hn_1, hr_1, H⟩ : ∃ (nx : Mem → Prop) (rt : Code → Mem → Prop), (∀ M, M l_ = none → nx M → κ_ (.bool true) (M.upd l_ oR_)) ∧ (∀ c M, M l_ = none → rt c M → κ_ (.bool false) (M.upd l_ (oD_ c))) ∧ S14_1b a2_ t5_ K X y3 y4 nx rt (M.del l_) := ⟨_, _, fun _ h0 h => h h0, fun _ _ h0 h => h h0, hb_⟩
  clear hb_ hlen_ hl_ hP
  generalize M.del l_ = M at H ⊢
  have hP := Pv.nil M
  have hD : ([] : List Deferred) = [] := rfl
  unfold S14_1b at H
  refine J_region (by decide) ?_
  refine JO_assign (v := .string y3) rfl ?_
  refine JO_nil ?_
  refine kd_nx ?_
  refine J_block ?_
  refine J_region (by decide) ?_
  obtain ⟨t8_5, g6, H⟩ := H
  refine JO_load (p := a2_) (v := Sl.v t8_5) na_36 h2 (hP.cel g6) ?_
  refine JO_move (v := .string y3) rfl ?_
  refine JO_bsl (vs := [(0, .string y3)]) (cs := [.string y3]) (c0 := [.string (⟨#[]⟩ : ByteArray)]) ul_36 sz_9 zc_9 (by kernel_rfl) (by decide) (by decide) (mpc rfl mpn) rfl ?_
  intro b7 hb
  replace H := H b7 (hP.out hb).1
  replace hP := hP.new hb (.cells #[.string y3] 9 (0, 0))
  refine JO_loud ((hP.opJ (OpJ_app (s := t8_5) (z := (⟨some (b7, 0), 1, 1⟩ : Sl)) ul_36 sb_9 zc_9 rfl rfl H)).mono (fun _ _ h => h) (fun _ _ ⟨_, _, f⟩ => f.elim)) ?_
  rintro _ Mp ⟨M, hP, x8, rfl, H⟩
  obtain ⟨g9, H⟩ := H
  refine JO_store (p := a2_) (v := Sl.v x8) sz_36 h2 rfl rfl (hP.wr g9) ?_
  replace hP := hP.sto g9 (Sl.v x8)
  refine JO_nil ?_
  exact rb_nx (oR := oR_) (oD := oD_) (e := ⟨fun _ => undef, []⟩) fun hl_ => ⟨_, fun _ _ hb => hP.sub hb, hn_1 _ (sub_none (b := l_) (fun _ _ hb => hP.sub hb) hl_) H⟩
 ·
  rintro _ M (⟨hl_, H⟩ | ⟨c_, hl_, H⟩)
  ·
   refine .inl ⟨hl_, ?_⟩
   clear hl_ hP
   generalize M.del l_ = M at H ⊢
   have hP := Pv.nil M
   refine J_seq ?_
   refine J_region (by decide) ?_
   obtain ⟨t12_10, g11, H⟩ := H
   refine JO_load (p := a2_) (v := Sl.v t12_10) na_36 h2 (hP.cel g11) ?_
   obtain ⟨g12, H⟩ := H
   refine JO_store (p := a2_) (v := Sl.v t12_10) sz_36 h2 rfl rfl (hP.wr g12) ?_
   replace hP := hP.sto g12 (Sl.v t12_10)
   refine JO_nil ?_
   obtain ⟨z13, g14, H⟩ := H
   exact J_ret (kret (pan := X)  hD (fun _ _ hb => hP.sub hb) (resOk (rs := [.cell 2 36]) (vs := [Sl.v z13]) rfl ⟨item_cell (p := a2_) na_36 (by exact h2) (hP.cel g14), trivial⟩) ⟨z13, rfl, H⟩)
  ·
   exact H.elim

/-! (*brazier/cas.Store).Len -/
def S19 (t0 : Option PA) (K : Int → Mem → Prop) (X : List PanicEntry → Mem → Prop) : Mem → Prop :=
 call 27 [ptr t0] X fun v_ M => ∃ (r1 : Sl), v_ = Sl.v r1 ∧ ( K (r1.n : Int)) M
theorem br19 {t0 : Option PA} {K : Int → Mem → Prop} {X : List PanicEntry → Mem → Prop} {M : Mem} (H : S19 t0 K X M) :
  Spec Tryz.prog 19 #[ptr t0] M (fun v_ M => ∃ (r0 : Int), v_ = .int .i64 r0 ∧ K r0 M) X := by
 refine spec_of_J (args := [ptr t0]) Tryz.func19 rfl Tryz.ntmps19 (Nat.le_of_ble_eq_true rfl) ?_
 have hD : (⟨fun i => ([ptr t0] : List Value).getD i undef, []⟩ : Env).D = [] := rfl
 have hP := Pv.nil M
 have hX := @kx_of Tryz.prog Tryz.f19 (fun v_ M => ∃ (r0 : Int), v_ = .int .i64 r0 ∧ K r0 M) X
 unfold S19 at H
 refine J_seq ?_
 refine J_region (by decide) ?_
 refine JO_assign (v := .int .i64 0) rfl ?_
 refine JO_nil ?_
 refine J_seq ?_
 refine J_region (by decide) ?_
 refine JO_move (v := ptr t0) rfl ?_
 refine JO_call Tryz.call27 (vs := [ptr t0]) (mc rfl mn) ((hP.spec H).mono ?_ (fun ch Mp h => hX hD h))
 rintro v Mp ⟨M, hP, r1, rfl, H⟩
 refine JO_len (s := r1) is_55 rfl ?_
 refine JO_assign (v := .int .i64 (r1.n : Int)) rfl ?_
 refine JO_nil ?_
 exact J_ret (kret (pan := X)  hD (fun _ _ hb => hP.sub hb) (resOk (rs := [.tmp 2]) (vs := [.int .i64 (r1.n : Int)]) rfl ⟨item_tmp rfl, trivial⟩) ⟨(r1.n : Int), rfl, H⟩)

/-! (*brazier/disk.Disk).Off -/
def S53_1 (t10_ : Bool) (K : Bool → Mem → Prop) (X : List PanicEntry → Mem → Prop) : Mem → Prop :=
 K t10_
def S53 (t0 : Option PA) (K : Bool → Mem → Prop) (X : List PanicEntry → Mem → Prop) : Mem → Prop :=
 ite' t0.isNone (S53_1 true K X) (nn t0 fun a2 => ldB (a2.1, a2.2 + 6) fun t9_4 => S53_1 t9_4 K X)
abbrev F53_1 (K : Bool → Mem → Prop) (X : List PanicEntry → Mem → Prop) (e : Env) (Mp : Mem) : Prop := ∃ (t10_ : Bool) (M : Mem), e.D = [] ∧ e.v 10 = .bool t10_ ∧ Pv M [] Mp ∧ S53_1 t10_ K X M
theorem br53 {t0 : Option PA} {K : Bool → Mem → Prop} {X : List PanicEntry → Mem → Prop} {M : Mem} (H : S53 t0 K X M) :
  Spec Tryz.prog 53 #[ptr t0] M (fun v_ M => ∃ (r0 : Bool), v_ = .bool r0 ∧ K r0 M) X := by
 refine spec_of_J (args := [ptr t0]) Tryz.func53 rfl Tryz.ntmps53 (Nat.le_of_ble_eq_true rfl) ?_
 have hD : (⟨fun i => ([ptr t0] : List Value).getD i undef, []⟩ : Env).D = [] := rfl
 have hP := Pv.nil M
 have hX := @kx_of Tryz.prog Tryz.f53 (fun v_ M => ∃ (r0 : Bool), v_ = .bool r0 ∧ K r0 M) X
 unfold S53 at H
 refine J_seq ?_
 refine J_region (by decide) ?_
 refine JO_assign (v := .bool false) rfl ?_
 refine JO_nil ?_
 refine J_seq ?_
 refine J_region (by decide) ?_
 refine JO_move (v := ptr t0) rfl ?_
 refine JO_eqlNil (p := t0) ip_26 rfl rfl ?_
 refine JO_move (v := .bool t0.isNone) rfl ?_
 refine JO_cut 5 (F53_1 K X) ?_ ?_
 ·
  obtain ⟨H1, H2⟩ := H
  obtain hc_ | hc_ := ff_or_tt t0.isNone
  ·
   replace H := H2 hc_
   clear H1 H2
   have hg1 := (congrArg Value.bool hc_ : Value.bool t0.isNone = Value.bool false)
   refine JO_on (s := 5) hg1 ?_
   refine JO_move (v := ptr t0) rfl ?_
   refine JO_on (s := 5) hg1 ?_
   obtain ⟨a2, g3, H⟩ := H
   refine JO_nilCheck (p := a2) (tr1 (rfl : _ = ptr t0) (congrArg ptr g3)) ?_
   refine JO_on (s := 5) hg1 ?_
   refine JO_fieldAddr (p := a2) fo_115_6 rfl ?_
   refine JO_on (s := 5) hg1 ?_
   obtain ⟨t9_4, g5, H⟩ := H
   refine JO_load (p := (a2.1, a2.2 + 6)) (v := .bool t9_4) na_4 rfl (hP.cel g5) ?_
   refine JO_pick (b := false) (v := .bool t9_4) hg1 rfl ?_
   refine JO_nil ?_
   exact (show F53_1 K X _ _ from ⟨t9_4, _, hD, rfl, hP, H⟩)
  ·
   replace H := H1 hc_
   clear H1 H2
   have hg6 := (congrArg Value.bool hc_ : Value.bool t0.isNone = Value.bool true)
   refine JO_off (s := 5) (c := true) hg6 (by decide) ?_
   refine JO_off (s := 5) (c := true) hg6 (by decide) ?_
   refine JO_off (s := 5) (c := true) hg6 (by decide) ?_
   refine JO_off (s := 5) (c := true) hg6 (by decide) ?_
   refine JO_pick (b := true) (v := .bool true) hg6 rfl ?_
   refine JO_nil ?_
   exact (show F53_1 K X _ _ from ⟨true, _, hD, rfl, hP, H⟩)
 ·
  rintro e Mp ⟨t10_, M, hD, h10, hP, H⟩
  unfold S53_1 at H
  refine JO_assign (v := .bool t10_) h10 ?_
  refine JO_nil ?_
  exact J_ret (kret (pan := X)  hD (fun _ _ hb => hP.sub hb) (resOk (rs := [.tmp 2]) (vs := [.bool t10_]) rfl ⟨item_tmp rfl, trivial⟩) ⟨t10_, rfl, H⟩)

/-! (*brazier/disk.Disk).Remove -/
def S57 (t0 : Option PA) (t1 : ByteArray) (K : Int → Mem → Prop) (X : List PanicEntry → Mem → Prop) : Mem → Prop :=
 new (.cells #[.string t1] 9 (0, 0)) fun b1 => call 120 [ptr t0, .bool true, Sl.v (⟨some (b1, 0), 1, 1⟩ : Sl)] X fun v_ M => ∃ (r2 : Int), v_ = .int .i64 r2 ∧ ( ite' (r2 != 0) (K r2) (call 121 [ptr t0, .agg #[.string t1, .string (⟨#[]⟩ : ByteArray), .int .i64 0]] X fun v_ M => ( K 0) M)) M
theorem br57 {t0 : Option PA} {t1 : ByteArray} {K : Int → Mem → Prop} {X : List PanicEntry → Mem → Prop} {M : Mem} (H : S57 t0 t1 K X M) :
  Spec Tryz.prog 57 #[ptr t0, .string t1] M (fun v_ M => ∃ (r0 : Int), v_ = .int .i64 r0 ∧ K r0 M) X := by
 refine spec_of_J (args := [ptr t0, .string t1]) Tryz.func57 rfl Tryz.ntmps57 (Nat.le_of_ble_eq_true rfl) ?_
 have hD : (⟨fun i => ([ptr t0, .string t1] : List Value).getD i undef, []⟩ : Env).D = [] := rfl
 have hP := Pv.nil M
 have hX := @kx_of Tryz.prog Tryz.f57 (fun v_ M => ∃ (r0 : Int), v_ = .int .i64 r0 ∧ K r0 M) X
 unfold S57 at H
 refine J_seq ?_
 refine J_region (by decide) ?_
 refine JO_assign (v := .int .i64 0) rfl ?_
 refine JO_nil ?_
 refine J_seq ?_
 refine J_seq ?_
 refine J_region (by decide) ?_
 refine JO_move (v := ptr t0) rfl ?_
 refine JO_move (v := .string t1) rfl ?_
 refine JO_bsl (vs := [(0, .string t1)]) (cs := [.string t1]) (c0 := [.string (⟨#[]⟩ : ByteArray)]) ul_36 sz_9 zc_9 (by kernel_rfl) (by decide) (by decide) (mpc rfl mpn) rfl ?_
 intro b1 hb
 replace H := H b1 (hP.out hb).1
 replace hP := hP.new hb (.cells #[.string t1] 9 (0, 0))
 refine JO_call Tryz.call120 (vs := [ptr t0, .bool true, Sl.v (⟨some (b1, 0), 1, 1⟩ : Sl)]) (mc rfl (mc rfl (mc rfl mn))) ((hP.spec H).mono ?_ (fun ch Mp h => hX hD h))
 rintro v Mp ⟨M, hP, r2, rfl, H⟩
 refine JO_assign (v := .int .i64 r2) rfl ?_
 refine JO_nil ?_
 refine J_seq ?_
 refine J_region (by decide) ?_
 refine JO_move (v := .int .i64 r2) rfl ?_
 refine JO_iop (op := .neq) (k := .i64) (a := r2) (b := 0) rfl rfl trivial ?_
 refine JO_nil ?_
 refine J_cond (t := r2 != 0) rfl (fun hc_ => ?_) (fun hc_ => ?_)
 ·
  replace H := H.1 hc_
  clear hc_
  refine J_seq ?_
  refine J_region (by decide) ?_
  refine JO_move (v := .int .i64 r2) rfl ?_
  refine JO_assign (v := .int .i64 r2) rfl ?_
  refine JO_nil ?_
  exact J_ret (kret (pan := X)  hD (fun _ _ hb => hP.sub hb) (resOk (rs := [.tmp 4]) (vs := [.int .i64 r2]) rfl ⟨item_tmp rfl, trivial⟩) ⟨r2, rfl, H⟩)
 ·
  replace H := H.2 hc_
  clear hc_
  refine J_skip ?_
  refine J_seq ?_
  refine J_region (by decide) ?_
  refine JO_move (v := ptr t0) rfl ?_
  refine JO_move (v := .string t1) rfl ?_
  refine JO_bld (vs := [(0, .string t1)]) (cs := [.string t1, .string (⟨#[]⟩ : ByteArray), .int .i64 0]) pl_221 zc_221 (mpc rfl mpn) rfl ?_
  refine JO_call Tryz.call121 (vs := [ptr t0, .agg #[.string t1, .string (⟨#[]⟩ : ByteArray), .int .i64 0]]) (mc rfl (mc rfl mn)) ((hP.spec H).mono ?_ (fun ch Mp h => hX hD h))
  rintro rv_ Mp ⟨M, hP, H⟩
  refine JO_nil ?_
  refine J_seq ?_
  refine J_region (by decide) ?_
  refine JO_assign (v := .int .i64 0) rfl ?_
  refine JO_nil ?_
  exact J_ret (kret (pan := X)  hD (fun _ _ hb => hP.sub hb) (resOk (rs := [.tmp 4]) (vs := [.int .i64 0]) rfl ⟨item_tmp rfl, trivial⟩) ⟨0, rfl, H⟩)

/-! (*brazier/cas.Store).free -/
def S61_1b (a4_ : PA) (t8_ : Value) (K : ByteArray → Mem → Prop) (X : List PanicEntry → Mem → Prop) (y3_0 : ByteArray) (y3_1 : Bool) (y3_2 : Bool) (y3_3 : Sl) (y3_4 : Sl) (nx1 : Mem → Prop) (rt1 : Code → Mem → Prop) : Mem → Prop :=
 new (.cells #[.string (⟨#[]⟩ : ByteArray), .bool false, .bool false, Sl.v (⟨none, 0, 0⟩ : Sl), Sl.v (⟨none, 0, 0⟩ : Sl)] 125 (0, 0)) fun b4 => sts (b4, 0) [.string y3_0, .bool y3_1, .bool y3_2, Sl.v y3_3, Sl.v y3_4] <| ldB (b4, 1) fun t11_6 => ite' (!t11_6) (ldS (b4, 0) fun t14_8 => st a4_ (.string t14_8) <| rt1 .ret) (nx1)
def S61_1 (a4_ : PA) (t8_ : Value) (K : ByteArray → Mem → Prop) (X : List PanicEntry → Mem → Prop) : Mem → Prop :=
 rng t8_ 1 (fun args_ nx rt M => ∃ (y3_0 : ByteArray) (y3_1 : Bool) (y3_2 : Bool) (y3_3 : Sl) (y3_4 : Sl), args_ = [.agg #[.string y3_0, .bool y3_1, .bool y3_2, Sl.v y3_3, Sl.v y3_4]] ∧ S61_1b a4_ t8_ K X y3_0 y3_1 y3_2 y3_3 y3_4 nx rt M) (st a4_ (.string (⟨#[]⟩ : ByteArray)) <| ldS (a4_.1, a4_.2) fun z12 => K z12) (fun c_ M => (c_ = .ret ∧ (ldS (a4_.1, a4_.2) fun z14 => K z14) M))
def S61 (t0 : Option PA) (t1 : Sl) (K : ByteArray → Mem → Prop) (X : List PanicEntry → Mem → Prop) : Mem → Prop :=
 new (.cells #[.string (⟨#[]⟩ : ByteArray)] 9 (0, 0)) fun b1 => call 125 [ptr t0, Sl.v t1] X fun v_ M => ∃ (r2 : Value), v_ = r2 ∧ ( S61_1 (b1, 0) r2 K X) M
abbrev F61_1 (K : ByteArray → Mem → Prop) (X : List PanicEntry → Mem → Prop) (e : Env) (Mp : Mem) : Prop := ∃ (a4_ : PA) (t8_ : Value) (M : Mem), e.D = [] ∧ e.v 4 = ptr (some a4_) ∧ e.v 8 = t8_ ∧ Pv M [] Mp ∧ S61_1 a4_ t8_ K X M
theorem br61 {t0 : Option PA} {t1 : Sl} {K : ByteArray → Mem → Prop} {X : List PanicEntry → Mem → Prop} {M : Mem} (H : S61 t0 t1 K X M) :
  Spec Tryz.prog 61 #[ptr t0, Sl.v t1] M (fun v_ M => ∃ (r0 : ByteArray), v_ = .string r0 ∧ K r0 M) X := by
 refine spec_of_J (args := [ptr t0, Sl.v t1]) Tryz.func61 rfl Tryz.ntmps61 (Nat.le_of_ble_eq_true rfl) ?_
 have hD : (⟨fun i => ([ptr t0, Sl.v t1] : List Value).getD i undef, []⟩ : Env).D = [] := rfl
 have hP := Pv.nil M
 have hX := @kx_of Tryz.prog Tryz.f61 (fun v_ M => ∃ (r0 : ByteArray), v_ = .string r0 ∧ K r0 M) X
 unfold S61 at H
 refine J_seq ?_
 refine J_region (by decide) ?_
 refine JO_alloc (cs := [.string (⟨#[]⟩ : ByteArray)]) zc_9 ?_
 intro b1 hb
 replace H := H b1 (hP.out hb).1
 replace hP := hP.new hb (.cells #[.string (⟨#[]⟩ : ByteArray)] 9 (0, 0))
 refine JO_nil ?_
 refine J_seq ?_
 refine J_seq ?_
 refine J_region (by decide) ?_
 refine JO_move (v := ptr t0) rfl ?_
 refine JO_move (v := Sl.v t1) rfl ?_
 refine JO_call Tryz.call125 (vs := [ptr t0, Sl.v t1]) (mc rfl (mc rfl mn)) ((hP.spec H).mono ?_ (fun ch Mp h => hX hD h))
 rintro r2 Mp ⟨M, hP, _, rfl, H⟩
 refine JO_nil ?_
 refine J_block ?_
 refine J_of (F61_1 K X) (show F61_1 K X _ _ from ⟨(b1, 0), r2, _, hD, rfl, rfl, hP, H⟩) ?_
 rintro e Mp ⟨a4_, t8_, M, hD, h4, h8, hP, H⟩
 unfold S61_1 at H
 refine J_forget (fun _ _ hb => hP.sub hb) ?_
 obtain ⟨f_, caps_, hf_, he_, H⟩ := H
 refine J_range (gf := f_) (caps := caps_) (h8.trans hf_) he_ (by decide) ?_
 intro y_ l_ oR_ oD_ hM_ law_
 refine (H y_ l_ oR_ oD_ hM_ ?_).mono ?_ (fun _ _ f => f)
 ·
  rintro args_ κ_ M hlen_ hl_ ⟨y3_0, y3_1, y3_2, y3_3, y3_4, rfl, hb_⟩ ro_
  refine law_ _ κ_ M hlen_ hl_ ?_ ro_
  obtain ⟨nx1, rt1, hn_1, hr_1, H⟩ : ∃ (nx : Mem → Prop) (rt : Code → Mem → Prop), (∀ M, M l_ = none → nx M → κ_ (.bool true) (M.upd l_ oR_)) ∧ (∀ c M, M l_ = none → rt c M → κ_ (.bool false) (M.upd l_ (oD_ c))) ∧ S61_1b a4_ t8_ K X y3_0 y3_1 y3_2 y3_3 y3_4 nx rt (M.del l_) := ⟨_, _, fun _ h0 h => h h0, fun _ _ h0 h => h h0, hb_⟩
  clear hb_ hlen_ hl_ hP
  generalize M.del l_ = M at H ⊢
  have hP := Pv.nil M
  have hD : ([] : List Deferred) = [] := rfl
  unfold S61_1b at H
  refine J_region (by decide) ?_
  refine JO_alloc (cs := [.string (⟨#[]⟩ : ByteArray), .bool false, .bool false, Sl.v (⟨none, 0, 0⟩ : Sl), Sl.v (⟨none, 0, 0⟩ : Sl)]) zc_125 ?_
  intro b4 hb
  replace H := H b4 (hP.out hb).1
  replace hP := hP.new hb (.cells #[.string (⟨#[]⟩ : ByteArray), .bool false, .bool false, Sl.v (⟨none, 0, 0⟩ : Sl), Sl.v (⟨none, 0, 0⟩ : Sl)] 125 (0, 0))
  obtain ⟨g5, H⟩ := H
  refine JO_storeAgg (p := (b4, 0)) (cs := [.string y3_0, .bool y3_1, .bool y3_2, Sl.v y3_3, Sl.v y3_4]) sz_125 rfl rfl (all_cons rfl (all_cons rfl (all_cons rfl (all_cons rfl (all_cons rfl all_nil))))) (hP.wrs g5) ?_
  replace hP := hP.stos [.string y3_0, .bool y3_1, .bool y3_2, Sl.v y3_3, Sl.v y3_4] g5
  refine JO_nil ?_
  refine kd_nx ?_
  refine J_block ?_
  refine J_seq ?_
  refine J_region (by decide) ?_
  refine JO_fieldAddr (p := (b4, 0)) fo_125_1 rfl ?_
  obtain ⟨t11_6, g7, H⟩ := H
  refine JO_load (p := (b4, 1)) (v := .bool t11_6) na_4 rfl (hP.cel g7) ?_
  refine JO_not (b := t11_6) rfl ?_
  refine JO_nil ?_
  refine J_cond (t := !t11_6) rfl (fun hc_ => ?_) (fun hc_ => ?_)
  ·
   replace H := H.1 hc_
   clear hc_
   refine J_seq ?_
   refine J_region (by decide) ?_
   refine JO_fieldAddr (p := (b4, 0)) fo_125_0 rfl ?_
   obtain ⟨t14_8, g9, H⟩ := H
   refine JO_load (p := (b4, 0)) (v := .string t14_8) na_9 rfl (hP.cel g9) ?_
   obtain ⟨g10, H⟩ := H
   refine JO_store (p := a4_) (v := .string t14_8) sz_9 h4 rfl rfl (hP.wr g10) ?_
   replace hP := hP.sto g10 (.string t14_8)
   refine JO_nil ?_
   exact J_ret (rb_ret (oR := oR_) (oD := oD_) (e := ⟨fun _ => undef, []⟩) fun hl_ => ⟨_, fun _ _ hb => hP.sub hb, hr_1 _ _ (sub_none (b := l_) (fun _ _ hb => hP.sub hb) hl_) H⟩)
  ·
   replace H := H.2 hc_
   clear hc_
   refine J_skip ?_
   exact rb_nx (oR := oR_) (oD := oD_) (e := ⟨fun _ => undef, []⟩) fun hl_ => ⟨_, fun _ _ hb => hP.sub hb, hn_1 _ (sub_none (b := l_) (fun _ _ hb => hP.sub hb) hl_) H⟩
 ·
  rintro _ M (⟨hl_, H⟩ | ⟨c_, hl_, H⟩)
  ·
   refine .inl ⟨hl_, ?_⟩
   clear hl_ hP
   generalize M.del l_ = M at H ⊢
   have hP := Pv.nil M
   refine J_seq ?_
   refine J_region (by decide) ?_
   obtain ⟨g11, H⟩ := H
   refine JO_store (p := a4_) (v := .string (⟨#[]⟩ : ByteArray)) sz_9 h4 rfl rfl (hP.wr g11) ?_
   replace hP := hP.sto g11 (.string (⟨#[]⟩ : ByteArray))
   refine JO_nil ?_
   obtain ⟨z12, g13, H⟩ := H
   exact J_ret (kret (pan := X)  hD (fun _ _ hb => hP.sub hb) (resOk (rs := [.cell 4 9]) (vs := [.string z12]) rfl ⟨item_cell (p := a4_) na_9 (by exact h4) (hP.cel g13), trivial⟩) ⟨z12, rfl, H⟩)
  ·
   obtain ⟨rfl, H⟩ := H
   refine .inr ⟨_, hl_, ?_⟩
   clear hl_ hP
   generalize M.del l_ = M at H ⊢
   have hP := Pv.nil M
   obtain ⟨z14, g15, H⟩ := H
   exact J_ret (kret (pan := X)  hD (fun _ _ hb => hP.sub hb) (resOk (rs := [.cell 4 9]) (vs := [.string z14]) rfl ⟨item_cell (p := a4_) na_9 (by exact h4) (hP.cel g15), trivial⟩) ⟨z14, rfl, H⟩)

/-! brazier/wal.Parse -/
def S65_1b (a2_ : PA) (a3_ : PA) (t6_ : Value) (K : Sl → Int → Mem → Prop) (X : List PanicEntry → Mem → Prop) (y4 : Sl) (nx1 : Mem → Prop) (rt1 : Code → Mem → Prop) : Mem → Prop :=
 ldL a2_ fun t8_5 => callK 64 [Sl.v y4] fun v_ M => ∃ (r7 : Sl), v_ = Sl.v r7 ∧ ( new (.cells #[Sl.v r7] 32 (0, 0)) fun b8 => appS 32 1 24 [Sl.v (⟨none, 0, 0⟩ : Sl)] t8_5 (⟨some (b8, 0), 1, 1⟩ : Sl) fun x9 => st a2_ (Sl.v x9) <| ldI .i64 a3_ fun t13_11 => st a3_ (.int .i64 (IntKind.wrap .i64 (t13_11 + (IntKind.wrap .i64 ((y4.n : Int) + 8))))) <| nx1) M
def S65_2 (a2_ : PA) (a3_ : PA) (K : Sl → Int → Mem → Prop) (X : List PanicEntry → Mem → Prop) : Mem → Prop :=
 ldL (a2_.1, a2_.2) fun z24 => ldI .i64 (a3_.1, a3_.2) fun z26 => K z24 z26
def S65_1 (a2_ : PA) (a3_ : PA) (t6_ : Value) (K : Sl → Int → Mem → Prop) (X : List PanicEntry → Mem → Prop) : Mem → Prop :=
 rng t6_ 1 (fun args_ nx rt M => ∃ (y4 : Sl), args_ = [Sl.v y4] ∧ S65_1b a2_ a3_ t6_ K X y4 nx rt M) (ldL a2_ fun t18_14 => both (ldI .i64 a3_ fun t19_16 => st a2_ (Sl.v t18_14) <| st a3_ (.int .i64 t19_16) <| S65_2 a2_ a3_ K X) (st a2_ (Sl.v t18_14) <| ldI .i64 a3_ fun t19_21 => st a3_ (.int .i64 t19_21) <| S65_2 a2_ a3_ K X)) (fun _ _ => False)
def S65 (t0 : Sl) (K : Sl → Int → Mem → Prop) (X : List PanicEntry → Mem → Prop) : Mem → Prop :=
 new (.cells #[Sl.v (⟨none, 0, 0⟩ : Sl)] 55 (0, 0)) fun b1 => new (.cells #[.int .i64 0] 3 (0, 0)) fun b2 => call 131 [Sl.v t0] X fun v_ M => ∃ (r3 : Value), v_ = r3 ∧ ( S65_1 (b1, 0) (b2, 0) r3 K X) M
abbrev F65_2 (K : Sl → Int → Mem → Prop) (X : List PanicEntry → Mem → Prop) (e : Env) (Mp : Mem) : Prop := ∃ (a2_ : PA) (a3_ : PA) (M : Mem), e.D = [] ∧ e.v 2 = ptr (some a2_) ∧ e.v 3 = ptr (some a3_) ∧ Pv M [] Mp ∧ S65_2 a2_ a3_ K X M
abbrev F65_1 (K : Sl → Int → Mem → Prop) (X : List PanicEntry → Mem → Prop) (e : Env) (Mp : Mem) : Prop := ∃ (a2_ : PA) (a3_ : PA) (t6_ : Value) (M : Mem), e.D = [] ∧ e.v 2 = ptr (some a2_) ∧ e.v 3 = ptr (some a3_) ∧ e.v 6 = t6_ ∧ Pv M [] Mp ∧ S65_1 a2_ a3_ t6_ K X M
theorem br65 {t0 : Sl} {K : Sl → Int → Mem → Prop} {X : List PanicEntry → Mem → Prop} {M : Mem} (H : S65 t0 K X M) :
  Spec Tryz.prog 65 #[Sl.v t0] M (fun v_ M => ∃ (r0 : Sl) (r1 : Int), v_ = .tuple #[Sl.v r0, .int .i64 r1] ∧ K r0 r1 M) X := by
 refine spec_of_J (args := [Sl.v t0]) Tryz.func65 rfl Tryz.ntmps65 (Nat.le_of_ble_eq_true rfl) ?_
 have hD : (⟨fun i => ([Sl.v t0] : List Value).getD i undef, []⟩ : Env).D = [] := rfl
 have hP := Pv.nil M
 have hX := @kx_of Tryz.prog Tryz.f65 (fun v_ M => ∃ (r0 : Sl) (r1 : Int), v_ = .tuple #[Sl.v r0, .int .i64 r1] ∧ K r0 r1 M) X
 unfold S65 at H
 refine J_seq ?_
 refine J_region (by decide) ?_
 refine JO_alloc (cs := [Sl.v (⟨none, 0, 0⟩ : Sl)]) zc_55 ?_
 intro b1 hb
 replace H := H b1 (hP.out hb).1
 replace hP := hP.new hb (.cells #[Sl.v (⟨none, 0, 0⟩ : Sl)] 55 (0, 0))
 refine JO_alloc (cs := [.int .i64 0]) zc_3 ?_
 intro b2 hb
 replace H := H b2 (hP.out hb).1
 replace hP := hP.new hb (.cells #[.int .i64 0] 3 (0, 0))
 refine JO_nil ?_
 refine J_seq ?_
 refine J_seq ?_
 refine J_region (by decide) ?_
 refine JO_move (v := Sl.v t0) rfl ?_
 refine JO_call Tryz.call131 (vs := [Sl.v t0]) (mc rfl mn) ((hP.spec H).mono ?_ (fun ch Mp h => hX hD h))
 rintro r3 Mp ⟨M, hP, _, rfl, H⟩
 refine JO_nil ?_
 refine J_block ?_
 refine J_of (F65_1 K X) (show F65_1 K X _ _ from ⟨(b1, 0), (b2, 0), r3, _, hD, rfl, rfl, rfl, hP, H⟩) ?_
 rintro e Mp ⟨a2_, a3_, t6_, M, hD, h2, h3, h6, hP, H⟩
 unfold S65_1 at H
 refine J_forget (fun _ _ hb => hP.sub hb) ?_
 obtain ⟨f_, caps_, hf_, he_, H⟩ := H
 refine J_range (gf := f_) (caps := caps_) (h6.trans hf_) he_ (by decide) ?_
 intro y_ l_ oR_ oD_ hM_ law_
 refine (H y_ l_ oR_ oD_ hM_ ?_).mono ?_ (fun _ _ f => f)
 ·
  rintro args_ κ_ M hlen_ hl_ ⟨y4, rfl, hb_⟩ ro_
  refine law_ _ κ_ M hlen_ hl_ ?_ ro_
  obtain ⟨nx1, rt1, hn_1, hr_1, H⟩ : ∃ (nx : Mem → Prop) (rt : Code → Mem → Prop), (∀ M, M l_ = none → nx M → κ_ (.bool true) (M.upd l_ oR_)) ∧ (∀ c M, M l_ = none → rt c M → κ_ (.bool false) (M.upd l_ (oD_ c))) ∧ S65_1b a2_ a3_ t6_ K X y4 nx rt (M.del l_) := ⟨_, _, fun _ h0 h => h h0, fun _ _ h0 h => h h0, hb_⟩
  clear hb_ hlen_ hl_ hP
  generalize M.del l_ = M at H ⊢
  have hP := Pv.nil M
  have hD : ([] : List Deferred) = [] := rfl
  unfold S65_1b at H
  refine J_region (by decide) ?_
  refine JO_assign (v := Sl.v y4) rfl ?_
  refine JO_nil ?_
  refine kd_nx ?_
  refine J_block ?_
  refine J_seq ?_
  refine J_draw [1, 0, 4, 2, 3, 3] (.cho 1 (.cho 0 (.cho 2 (.cho 3 (.cho 4 (.cho 5 .done .none) .none) .none) .none) .none) .none) rfl (by kernel_rfl) ?_
  refine JE_one ?_
  refine ST0 (fun _ h => by cases h) (fun w => OV_move (v := Sl.v y4) rfl w) ?_
  refine JE_one ?_
  obtain ⟨t8_5, g6, H⟩ := H
  refine ST1 (fun _ h => by cases h) (fun w hs => OV_load (p := a2_) (v := Sl.v t8_5) na_55 (by exact h2) (hP.cel g6) w hs) ?_
  refine JE_one ?_
  refine ST4 ?_
  refine JO_call Tryz.call64 (vs := [Sl.v y4]) (mc rfl mn) ((hP.specK H).mono ?_ (fun _ _ ⟨_, _, f⟩ => f.elim))
  rintro rv_ Mp ⟨M, hP', hk_, r7, rfl, H⟩
  refine Kd_nil ?_
  refine And.intro hk_ ?_
  replace hP := hP'
  refine JE_one ?_
  refine ST2 (val := fun b => Sl.v ⟨some (b, 0), 1, 1⟩) (fun _ h => by cases h) (fun w => OA_bsl (vs := [(0, Sl.v r7)]) (cs := [Sl.v r7]) (c0 := [Sl.v (⟨none, 0, 0⟩ : Sl)]) ul_55 sz_32 zc_32 (by kernel_rfl) (by decide) (by decide) (mpc rfl mpn) rfl w) ?_
  intro b8 hb
  replace H := H b8 (hP.out hb).1
  replace hP := hP.new hb (.cells #[Sl.v r7] 32 (0, 0))
  refine JE_one ?_
  refine ST3 ?_
  refine JO_loud ((hP.opJ (OpJ_app (s := t8_5) (z := (⟨some (b8, 0), 1, 1⟩ : Sl)) ul_55 sb_32 zc_32 rfl rfl H)).mono (fun _ _ h => h) (fun _ _ ⟨_, _, f⟩ => f.elim)) ?_
  rintro _ Mp ⟨M, hP, x9, rfl, H⟩
  refine Kd_nil ?_
  refine JE_one ?_
  refine ST3 ?_
  obtain ⟨g10, H⟩ := H
  refine JO_store (p := a2_) (v := Sl.v x9) sz_55 (by exact h2) rfl rfl (hP.wr g10) ?_
  replace hP := hP.sto g10 (Sl.v x9)
  refine Kd_nil ?_
  refine JE_done ?_
  refine J_region (by decide) ?_
  obtain ⟨t13_11, g12, H⟩ := H
  refine JO_load (p := a3_) (v := .int .i64 t13_11) na_3 h3 (hP.cel g12) ?_
  refine JO_move (v := Sl.v y4) rfl ?_
  refine JO_len (s := y4) is_32 rfl ?_
  refine JO_iop (op := .add) (k := .i64) (a := (y4.n : Int)) (b := 8) rfl rfl trivial ?_
  refine JO_iop (op := .add) (k := .i64) (a := t13_11) (b := IntKind.wrap .i64 ((y4.n : Int) + 8)) rfl rfl trivial ?_
  obtain ⟨g13, H⟩ := H
  refine JO_store (p := a3_) (v := .int .i64 (IntKind.wrap .i64 (t13_11 + (IntKind.wrap .i64 ((y4.n : Int) + 8))))) sz_3 h3 rfl rfl (hP.wr g13) ?_
  replace hP := hP.sto g13 (.int .i64 (IntKind.wrap .i64 (t13_11 + (IntKind.wrap .i64 ((y4.n : Int) + 8)))))
  refine JO_nil ?_
  exact rb_nx (oR := oR_) (oD := oD_) (e := ⟨fun _ => undef, []⟩) fun hl_ => ⟨_, fun _ _ hb => hP.sub hb, hn_1 _ (sub_none (b := l_) (fun _ _ hb => hP.sub hb) hl_) H⟩
 ·
  rintro _ M (⟨hl_, H⟩ | ⟨c_, hl_, H⟩)
  ·
   refine .inl ⟨hl_, ?_⟩
   clear hl_ hP
   generalize M.del l_ = M at H ⊢
   have hP := Pv.nil M
   refine J_seq ?_
   refine J_mid (F65_2 K X) ?_ ?_
   ·
    refine J_draw [1, 1, 3, 3] (.cho 0 (.cho 1 (.cho 2 (.cho 3 .done .none) .none) (.cho 2 (.cho 1 (.cho 3 .done .none) .none) .none)) .none) rfl (by kernel_rfl) ?_
    refine JE_one ?_
    obtain ⟨t18_14, g15, H⟩ := H
    refine ST1 (fun _ h => by cases h) (fun w hs => OV_load (p := a2_) (v := Sl.v t18_14) na_55 (by exact h2) (hP.cel g15) w hs) ?_
    obtain ⟨H0_, H⟩ := H
    refine JE_cho ?_ ?_
    ·
     replace H := H0_
     obtain ⟨t19_16, g17, H⟩ := H
     refine ST1 (fun _ h => by cases h) (fun w hs => OV_load (p := a3_) (v := .int .i64 t19_16) na_3 (by exact h3) (hP.cel g17) w hs) ?_
     refine JE_one ?_
     refine ST3 ?_
     obtain ⟨g18, H⟩ := H
     refine JO_store (p := a2_) (v := Sl.v t18_14) sz_55 (by exact h2) rfl rfl (hP.wr g18) ?_
     replace hP := hP.sto g18 (Sl.v t18_14)
     refine Kd_nil ?_
     refine JE_one ?_
     refine ST3 ?_
     obtain ⟨g19, H⟩ := H
     refine JO_store (p := a3_) (v := .int .i64 t19_16) sz_3 (by exact h3) rfl rfl (hP.wr g19) ?_
     replace hP := hP.sto g19 (.int .i64 t19_16)
     refine Kd_nil ?_
     refine JE_done ?_
     exact (show F65_2 K X _ _ from ⟨a2_, a3_, _, hD, h2, h3, hP, H⟩)
    refine JE_one ?_
    refine ST3 ?_
    obtain ⟨g20, H⟩ := H
    refine JO_store (p := a2_) (v := Sl.v t18_14) sz_55 (by exact h2) rfl rfl (hP.wr g20) ?_
    replace hP := hP.sto g20 (Sl.v t18_14)
    refine Kd_nil ?_
    refine JE_one ?_
    obtain ⟨t19_21, g22, H⟩ := H
    refine ST1 (fun _ h => by cases h) (fun w hs => OV_load (p := a3_) (v := .int .i64 t19_21) na_3 (by exact h3) (hP.cel g22) w hs) ?_
    refine JE_one ?_
    refine ST3 ?_
    obtain ⟨g23, H⟩ := H
    refine JO_store (p := a3_) (v := .int .i64 t19_21) sz_3 (by exact h3) rfl rfl (hP.wr g23) ?_
    replace hP := hP.sto g23 (.int .i64 t19_21)
    refine Kd_nil ?_
    refine JE_done ?_
    exact (show F65_2 K X _ _ from ⟨a2_, a3_, _, hD, h2, h3, hP, H⟩)
   ·
    rintro e Mp ⟨a2_, a3_, M, hD, h2, h3, hP, H⟩
    unfold S65_2 at H
    obtain ⟨z24, g25, H⟩ := H
    obtain ⟨z26, g27, H⟩ := H
    exact J_ret (kret (pan := X)  hD (fun _ _ hb => hP.sub hb) (resOk (rs := [.cell 2 55, .cell 3 3]) (vs := [Sl.v z24, .int .i64 z26]) rfl ⟨item_cell (p := a2_) na_55 (by exact h2) (hP.cel g25), item_cell (p := a3_) na_3 (by exact h3) (hP.cel g27), trivial⟩) ⟨z24, z26, rfl, H⟩)
  ·
   exact H.elim

/-! (*brazier/disk.Disk).Each$1 -/
def S116_1b (t0_ : Value) (t1_ : Option PA) (a3_ : PA) (t14_ : Value) (K : Mem → Prop) (X : List PanicEntry → Mem → Prop) (y13 : ByteArray) (y14 : Int) (nx1 : Mem → Prop) (rt1 : Code → Mem → Prop) : Mem → Prop :=
 ldL a3_ fun t17_15 => nn t1_ fun a17 => ldP a17 fun t19_19 => nn t19_19 fun a21 => ldL a21 fun t22_23 => ix t22_23 2 y14 fun p29 => ldL p29 fun t26_30 => callK 64 [Sl.v t26_30] fun v_ M => ∃ (r32 : Sl), v_ = Sl.v r32 ∧ ( new (.cells #[.string y13, Sl.v r32] 141 (0, 0)) fun b33 => appS 141 2 40 [.string (⟨#[]⟩ : ByteArray), Sl.v (⟨none, 0, 0⟩ : Sl)] t17_15 (⟨some (b33, 0), 1, 1⟩ : Sl) fun x34 => st a3_ (Sl.v x34) <| nx1) M
def S116_2 (K : Mem → Prop) (X : List PanicEntry → Mem → Prop) : Mem → Prop :=
 K
def S116_3b (t0_ : Value) (t31_ : Sl) (t32_ : Int) (K : Mem → Prop) (X : List PanicEntry → Mem → Prop) (t33_ : Int) (next3 : Int → Mem → Prop) : Mem → Prop :=
 ite' (decide (t33_ < t32_)) (ix t31_ 2 t33_ fun p42 => ldS (p42.1, p42.2) fun t36_0 => ldL (p42.1, p42.2 + 1) fun t36_1 => new (.cells #[.string (⟨#[]⟩ : ByteArray), Sl.v (⟨none, 0, 0⟩ : Sl)] 141 (0, 0)) fun b45 => sts (b45, 0) [.string t36_0, Sl.v t36_1] <| ldS (b45, 0) fun t39_47 => ldL (b45, 1) fun t41_49 => callV t0_ [.string t39_47, Sl.v t41_49] X fun v_ M => ∃ (r51 : Bool), v_ = .bool r51 ∧ ( ite' (!r51) (K) (next3 (IntKind.wrap .i64 (t33_ + 1)))) M) (S116_2 K X)
def S116_3 (t0_ : Value) (t31_ : Sl) (t32_ : Int) (t33_ : Int) (K : Mem → Prop) (X : List PanicEntry → Mem → Prop) : Mem → Prop :=
 Lp (fun (s_ : Int) next3 => S116_3b t0_ t31_ t32_ K X s_ next3) t33_
def S116_1 (t0_ : Value) (t1_ : Option PA) (a3_ : PA) (t14_ : Value) (K : Mem → Prop) (X : List PanicEntry → Mem → Prop) : Mem → Prop :=
 rng t14_ 2 (fun args_ nx rt M => ∃ (y13 : ByteArray) (y14 : Int), args_ = [.string y13, .int .i64 y14] ∧ S116_1b t0_ t1_ a3_ t14_ K X y13 y14 nx rt M) (ldL a3_ fun t31_36 => S116_3 t0_ t31_36 (t31_36.n : Int) 0 K X) (fun _ _ => False)
def S116 (t0 : Value) (t1 : Option PA) (K : Mem → Prop) (X : List PanicEntry → Mem → Prop) : Mem → Prop :=
 nn t1 fun a1 => ldP a1 fun t8_3 => ite' t8_3.isNone (K) (new (.cells #[Sl.v (⟨none, 0, 0⟩ : Sl)] 49 (0, 0)) fun b5 => ldP a1 fun t10_6 => nn t10_6 fun a8 => ldP (a8.1, a8.2 + 1) fun t13_10 => call 117 [ptr t13_10] X fun v_ M => ∃ (r12 : Value), v_ = r12 ∧ ( S116_1 t0 t1 (b5, 0) r12 K X) M)
abbrev F116_3 (K : Mem → Prop) (X : List PanicEntry → Mem → Prop) (e : Env) (Mp : Mem) : Prop := ∃ (t0_ : Value) (t31_ : Sl) (t32_ : Int) (t33_ : Int) (M : Mem), e.D = [] ∧ e.v 0 = t0_ ∧ e.v 31 = Sl.v t31_ ∧ e.v 32 = .int .i64 t32_ ∧ e.v 33 = .int .i64 t33_ ∧ Pv M [] Mp ∧ S116_3 t0_ t31_ t32_ t33_ K X M
abbrev F116_2 (K : Mem → Prop) (X : List PanicEntry → Mem → Prop) (e : Env) (Mp : Mem) : Prop := ∃ (M : Mem), e.D = [] ∧ Pv M [] Mp ∧ S116_2  K X M
abbrev F116_1 (K : Mem → Prop) (X : List PanicEntry → Mem → Prop) (e : Env) (Mp : Mem) : Prop := ∃ (t0_ : Value) (t1_ : Option PA) (a3_ : PA) (t14_ : Value) (M : Mem), e.D = [] ∧ e.v 0 = t0_ ∧ e.v 1 = ptr t1_ ∧ e.v 3 = ptr (some a3_) ∧ e.v 14 = t14_ ∧ Pv M [] Mp ∧ S116_1 t0_ t1_ a3_ t14_ K X M
theorem br116 {t0 : Value} {t1 : Option PA} {K : Mem → Prop} {X : List PanicEntry → Mem → Prop} {M : Mem} (H : S116 t0 t1 K X M) :
  Spec Tryz.prog 116 #[t0, ptr t1] M (fun _ M => K M) X := by
 refine spec_of_J (args := [t0, ptr t1]) Tryz.func116 rfl Tryz.ntmps116 (Nat.le_of_ble_eq_true rfl) ?_
 have hD : (⟨fun i => ([t0, ptr t1] : List Value).getD i undef, []⟩ : Env).D = [] := rfl
 have hP := Pv.nil M
 have hX := @kx_of Tryz.prog Tryz.f116 (fun _ M => K M) X
 unfold S116 at H
 refine J_seq ?_
 refine J_seq ?_
 refine J_region (by decide) ?_
 obtain ⟨a1, g2, H⟩ := H
 obtain ⟨t8_3, g4, H⟩ := H
 refine JO_load (p := a1) (v := ptr t8_3) na_26 (tr1 (rfl : _ = ptr t1) (congrArg ptr g2)) (hP.cel g4) ?_
 refine JO_eqlNil (p := t8_3) ip_26 rfl rfl ?_
 refine JO_nil ?_
 refine J_cond (t := t8_3.isNone) rfl (fun hc_ => ?_) (fun hc_ => ?_)
 ·
  replace H := H.1 hc_
  clear hc_
  exact J_ret (kret (pan := X)  hD (fun _ _ hb => hP.sub hb) (resOk (rs := []) (vs := []) rfl trivial) H)
 ·
  replace H := H.2 hc_
  clear hc_
  refine J_skip ?_
  refine J_seq ?_
  refine J_region (by decide) ?_
  refine JO_alloc (cs := [Sl.v (⟨none, 0, 0⟩ : Sl)]) zc_49 ?_
  intro b5 hb
  replace H := H b5 (hP.out hb).1
  replace hP := hP.new hb (.cells #[Sl.v (⟨none, 0, 0⟩ : Sl)] 49 (0, 0))
  refine JO_nil ?_
  refine J_seq ?_
  refine J_seq ?_
  refine J_region (by decide) ?_
  obtain ⟨t10_6, g7, H⟩ := H
  refine JO_load (p := a1) (v := ptr t10_6) na_26 (tr1 (rfl : _ = ptr t1) (congrArg ptr g2)) (hP.cel g7) ?_
  obtain ⟨a8, g9, H⟩ := H
  refine JO_nilCheck (p := a8) (tr1 (rfl : _ = ptr t10_6) (congrArg ptr g9)) ?_
  refine JO_fieldAddr (p := a8) fo_115_1 rfl ?_
  obtain ⟨t13_10, g11, H⟩ := H
  refine JO_load (p := (a8.1, a8.2 + 1)) (v := ptr t13_10) na_108 rfl (hP.cel g11) ?_
  refine JO_call Tryz.call117 (vs := [ptr t13_10]) (mc rfl mn) ((hP.spec H).mono ?_ (fun ch Mp h => hX hD h))
  rintro r12 Mp ⟨M, hP, _, rfl, H⟩
  refine JO_nil ?_
  refine J_block ?_
  refine J_of (F116_1 K X) (show F116_1 K X _ _ from ⟨t0, t1, (b5, 0), r12, _, hD, rfl, rfl, rfl, rfl, hP, H⟩) ?_
  rintro e Mp ⟨t0_, t1_, a3_, t14_, M, hD, h0, h1, h3, h14, hP, H⟩
  unfold S116_1 at H
  refine J_forget (fun _ _ hb => hP.sub hb) ?_
  obtain ⟨f_, caps_, hf_, he_, H⟩ := H
  refine J_range (gf := f_) (caps := caps_) (h14.trans hf_) he_ (by decide) ?_
  intro y_ l_ oR_ oD_ hM_ law_
  refine (H y_ l_ oR_ oD_ hM_ ?_).mono ?_ (fun _ _ f => f)
  ·
   rintro args_ κ_ M hlen_ hl_ ⟨y13, y14, rfl, hb_⟩ ro_
   refine law_ _ κ_ M hlen_ hl_ ?_ ro_
   obtain ⟨nx1, rt1, hn_1, hr_1, H⟩ : ∃ (nx : Mem → Prop) (rt : Code → Mem → Prop), (∀ M, M l_ = none → nx M → κ_ (.bool true) (M.upd l_ oR_)) ∧ (∀ c M, M l_ = none → rt c M → κ_ (.bool false) (M.upd l_ (oD_ c))) ∧ S116_1b t0_ t1_ a3_ t14_ K X y13 y14 nx rt (M.del l_) := ⟨_, _, fun _ h0 h => h h0, fun _ _ h0 h => h h0, hb_⟩
   clear hb_ hlen_ hl_ hP
   generalize M.del l_ = M at H ⊢
   have hP := Pv.nil M
   have hD : ([] : List Deferred) = [] := rfl
   unfold S116_1b at H
   refine J_seq ?_
   refine J_region (by decide) ?_
   refine JO_assign (v := .string y13) rfl ?_
   refine JO_nil ?_
   refine J_region (by decide) ?_
   refine JO_assign (v := .int .i64 y14) rfl ?_
   refine JO_nil ?_
   refine kd_nx ?_
   refine J_block ?_
   refine J_draw [1, 0, 1, 0, 0, 1, 0, 0, 0, 1, 4, 0, 2, 3, 3] (.cho 1 (.cho 6 (.cho 0 (.cho 2 (.cho 3 (.cho 4 (.cho 5 (.cho 7 (.cho 8 (.cho 9 (.cho 10 (.cho 11 (.cho 12 (.cho 13 (.cho 14 .done .none) .none) .none) .none) .none) .none) .none) .none) .none) .none) .none) .none) .none) .none) .none) rfl (by kernel_rfl) ?_
   refine JE_one ?_
   refine ST0 (fun _ h => by cases h) (fun w => OV_move (v := .string y13) rfl w) ?_
   refine JE_one ?_
   refine ST0 (fun _ h => by cases h) (fun w => OV_move (v := .int .i64 y14) rfl w) ?_
   refine JE_one ?_
   obtain ⟨t17_15, g16, H⟩ := H
   refine ST1 (fun _ h => by cases h) (fun w hs => OV_load (p := a3_) (v := Sl.v t17_15) na_49 (by exact h3) (hP.cel g16) w hs) ?_
   refine JE_one ?_
   obtain ⟨a17, g18, H⟩ := H
   obtain ⟨t19_19, g20, H⟩ := H
   refine ST1 (fun _ h => by cases h) (fun w hs => OV_load (p := a17) (v := ptr t19_19) na_26 (by exact tr1 (by exact h1) (congrArg ptr g18)) (hP.cel g20) w hs) ?_
   refine JE_one ?_
   obtain ⟨a21, g22, H⟩ := H
   refine ST0 (fun _ h => by cases h) (fun w => OV_nilCheck (p := a21) (by exact tr1 (rfl : _ = ptr t19_19) (congrArg ptr g22)) w) ?_
   refine JE_one ?_
   refine ST0 (fun _ h => by cases h) (fun w => OV_fieldAddr (p := a21) fo_115_0 rfl w) ?_
   refine JE_one ?_
   obtain ⟨t22_23, g24, H⟩ := H
   refine ST1 (fun _ h => by cases h) (fun w hs => OV_load (p := a21) (v := Sl.v t22_23) na_112 rfl (hP.cel g24) w hs) ?_
   refine JE_one ?_
   obtain ⟨a25, g26, g27, g28, H⟩ := H
   refine ST0 (fun _ h => by cases h) (fun w => OV_indexAddr (s := t22_23) (p := a25) (i := y14) es_112 rfl rfl g26 g27 g28 w) ?_
   obtain ⟨p29, hq_⟩ : ∃ q : PA, q = (a25.1, a25.2 + (y14 : Int).toNat * 2) := ⟨_, rfl⟩; rw [← hq_] at H ⊢; clear hq_
   refine JE_one ?_
   refine ST0 (fun _ h => by cases h) (fun w => OV_fieldAddr (p := p29) fo_135_0 rfl w) ?_
   refine JE_one ?_
   obtain ⟨t26_30, g31, H⟩ := H
   refine ST1 (fun _ h => by cases h) (fun w hs => OV_load (p := p29) (v := Sl.v t26_30) na_32 rfl (hP.cel g31) w hs) ?_
   refine JE_one ?_
   refine ST4 ?_
   refine JO_call Tryz.call64 (vs := [Sl.v t26_30]) (mc rfl mn) ((hP.specK H).mono ?_ (fun _ _ ⟨_, _, f⟩ => f.elim))
   rintro rv_ Mp ⟨M, hP', hk_, r32, rfl, H⟩
   refine Kd_nil ?_
   refine And.intro hk_ ?_
   replace hP := hP'
   refine JE_one ?_
   refine ST0 (fun _ h => by cases h) (fun w => OV_bld (vs := [(0, .string y13), (1, Sl.v r32)]) (cs := [.string y13, Sl.v r32]) pl_141 zc_141 (mpc rfl (mpc rfl mpn)) rfl w) ?_
   refine JE_one ?_
   refine ST2 (val := fun b => Sl.v ⟨some (b, 0), 1, 1⟩) (fun _ h => by cases h) (fun w => OA_bsl (vs := [(0, .agg #[.string y13, Sl.v r32])]) (cs := [.string y13, Sl.v r32]) (c0 := [.string (⟨#[]⟩ : ByteArray), Sl.v (⟨none, 0, 0⟩ : Sl)]) ul_49 sz_141 zc_141 (by kernel_rfl) (by decide) (by decide) (mpc rfl mpn) rfl w) ?_
   intro b33 hb
   replace H := H b33 (hP.out hb).1
   replace hP := hP.new hb (.cells #[.string y13, Sl.v r32] 141 (0, 0))
   refine JE_one ?_
   refine ST3 ?_
   refine JO_loud ((hP.opJ (OpJ_app (s := t17_15) (z := (⟨some (b33, 0), 1, 1⟩ : Sl)) ul_49 sb_141 zc_141 rfl rfl H)).mono (fun _ _ h => h) (fun _ _ ⟨_, _, f⟩ => f.elim)) ?_
   rintro _ Mp ⟨M, hP, x34, rfl, H⟩
   refine Kd_nil ?_
   refine JE_one ?_
   refine ST3 ?_
   obtain ⟨g35, H⟩ := H
   refine JO_store (p := a3_) (v := Sl.v x34) sz_49 (by exact h3) rfl rfl (hP.wr g35) ?_
   replace hP := hP.sto g35 (Sl.v x34)
   refine Kd_nil ?_
   refine JE_done ?_
   exact rb_nx (oR := oR_) (oD := oD_) (e := ⟨fun _ => undef, []⟩) fun hl_ => ⟨_, fun _ _ hb => hP.sub hb, hn_1 _ (sub_none (b := l_) (fun _ _ hb => hP.sub hb) hl_) H⟩
  ·
   rintro _ M (⟨hl_, H⟩ | ⟨c_, hl_, H⟩)
   ·
    refine .inl ⟨hl_, ?_⟩
    clear hl_ hP
    generalize M.del l_ = M at H ⊢
    have hP := Pv.nil M
    refine J_seq ?_
    refine J_region (by decide) ?_
    obtain ⟨t31_36, g37, H⟩ := H
    refine JO_load (p := a3_) (v := Sl.v t31_36) na_49 h3 (hP.cel g37) ?_
    refine JO_len (s := t31_36) is_49 rfl ?_
    refine JO_move (v := .int .i64 0) rfl ?_
    refine JO_nil ?_
    refine J_blockF (F116_2 K X) ?_ ?_
    ·
     refine J_of (F116_3 K X) (show F116_3 K X _ _ from ⟨t0_, t31_36, (t31_36.n : Int), 0, _, hD, h0, rfl, rfl, rfl, hP, H⟩) ?_
     rintro e Mp ⟨t0_, t31_, t32_, t33_, M, hD, h0, h31, h32, h33, hP, H⟩
     unfold S116_3 at H
     refine J_loopP (σ := Int) (body := fun (s_ : Int) next3 => S116_3b t0_ t31_ t32_ K X s_ next3) (s := t33_) (M := M) (fun (s_ : Int) (e : Env) (M Mp : Mem) => e.D = [] ∧ e.v 0 = t0_ ∧ e.v 31 = Sl.v t31_ ∧ e.v 32 = .int .i64 t32_ ∧ e.v 33 = .int .i64 s_ ∧ Pv M [] Mp) ?_ ⟨hD, h0, h31, h32, h33, hP⟩ H
     rintro next3 t33_ e M Mp ⟨hD, h0, h31, h32, h33, hP⟩ H
     replace H : S116_3b t0_ t31_ t32_ K X t33_ next3 M := H
     unfold S116_3b at H
     refine J_seq ?_
     refine J_region (by decide) ?_
     refine JO_iop (op := .lss) (k := .i64) (a := t33_) (b := t32_) h33 h32 trivial ?_
     refine JO_nil ?_
     refine J_seq ?_
     refine J_cond (t := decide (t33_ < t32_)) rfl (fun hc_ => ?_) (fun hc_ => ?_)
     ·
      replace H := H.1 hc_
      clear hc_
      refine J_skip ?_
      refine J_seq ?_
      refine J_block ?_
      refine J_seq ?_
      refine J_region (by decide) ?_
      obtain ⟨a38, g39, g40, g41, H⟩ := H
      refine JO_indexAddr (s := t31_) (p := a38) (i := t33_) es_49 h31 h33 g39 g40 g41 ?_
      obtain ⟨p42, hq_⟩ : ∃ q : PA, q = (a38.1, a38.2 + (t33_ : Int).toNat * 2) := ⟨_, rfl⟩; rw [← hq_] at H ⊢; clear hq_
      obtain ⟨t36_0, g43, H⟩ := H
      obtain ⟨t36_1, g44, H⟩ := H
      refine JO_loadAgg (p := p42) (cs := [.string t36_0, Sl.v t36_1]) ag_141 (Nat.succ_pos _) rfl (cels_of (b := p42.1) (o := p42.2) ⟨hP.cel g43, hP.cel g44, trivial⟩) ?_
      refine JO_alloc (cs := [.string (⟨#[]⟩ : ByteArray), Sl.v (⟨none, 0, 0⟩ : Sl)]) zc_141 ?_
      intro b45 hb
      replace H := H b45 (hP.out hb).1
      replace hP := hP.new hb (.cells #[.string (⟨#[]⟩ : ByteArray), Sl.v (⟨none, 0, 0⟩ : Sl)] 141 (0, 0))
      obtain ⟨g46, H⟩ := H
      refine JO_storeAgg (p := (b45, 0)) (cs := [.string t36_0, Sl.v t36_1]) sz_141 rfl rfl (all_cons rfl (all_cons rfl all_nil)) (hP.wrs g46) ?_
      replace hP := hP.stos [.string t36_0, Sl.v t36_1] g46
      refine JO_nil ?_
      refine J_seq ?_
      refine J_region (by decide) ?_
      refine JO_move (v := t0_) h0 ?_
      refine JO_fieldAddr (p := (b45, 0)) fo_141_0 rfl ?_
      obtain ⟨t39_47, g48, H⟩ := H
      refine JO_load (p := (b45, 0)) (v := .string t39_47) na_9 rfl (hP.cel g48) ?_
      refine JO_fieldAddr (p := (b45, 0)) fo_141_1 rfl ?_
      obtain ⟨t41_49, g50, H⟩ := H
      refine JO_load (p := (b45, 1)) (v := Sl.v t41_49) na_32 rfl (hP.cel g50) ?_
      refine JO_callV (vs := [.string t39_47, Sl.v t41_49]) rfl (mc rfl (mc rfl mn)) ((hP.callV (H _)).mono ?_ (fun ch Mp h => hX hD h))
      rintro v Mp ⟨M, hP, r51, rfl, H⟩
      refine JO_not (b := r51) rfl ?_
      refine JO_nil ?_
      refine J_cond (t := !r51) rfl (fun hc_ => ?_) (fun hc_ => ?_)
      ·
       replace H := H.1 hc_
       clear hc_
       exact J_ret (kret (pan := X)  hD (fun _ _ hb => hP.sub hb) (resOk (rs := []) (vs := []) rfl trivial) H)
      ·
       replace H := H.2 hc_
       clear hc_
       refine J_skip ?_
       refine J_region (by decide) ?_
       refine JO_iop (op := .add) (k := .i64) (a := t33_) (b := 1) h33 rfl trivial ?_
       refine JO_move (v := .int .i64 (IntKind.wrap .i64 (t33_ + 1))) rfl ?_
       refine JO_nil ?_
       exact ⟨IntKind.wrap .i64 (t33_ + 1), _, ⟨hD, h0, h31, h32, rfl, hP⟩, H⟩
     ·
      replace H := H.2 hc_
      clear hc_
      refine J_exit ?_
      exact (show F116_2 K X _ _ from ⟨_, hD, hP, H⟩)
    ·
     rintro e Mp ⟨M, hD, hP, H⟩
     unfold S116_2 at H
     exact (kend (pan := X)  hD (fun _ _ hb => hP.sub hb) (resOk (rs := []) (vs := []) rfl trivial) H)
   ·
    exact H.elim

/-! (*brazier/disk.Disk).check -/
def S120_3 (K : Int → Mem → Prop) (X : List PanicEntry → Mem → Prop) : Mem → Prop :=
 K 0
def S120_1 (t0_ : Option PA) (t1_ : Bool) (t2_ : Sl) (K : Int → Mem → Prop) (X : List PanicEntry → Mem → Prop) : Mem → Prop :=
 ite' t1_ (ix t2_ 1 0 fun p14 => ldS p14 fun t29_15 => call 63 [ptr t0_, .string t29_15] X fun v_ M => ∃ (r17_0 : Option PA) (r17_1 : Bool), v_ = .tuple #[ptr r17_0, .bool r17_1] ∧ ( ite' (!r17_1) (K 3) (S120_3 K X)) M) (S120_3 K X)
def S120_2b (t0_ : Option PA) (t1_ : Bool) (t2_ : Sl) (t14_ : Sl) (t15_ : Int) (K : Int → Mem → Prop) (X : List PanicEntry → Mem → Prop) (t16_ : Int) (next2 : Int → Mem → Prop) : Mem → Prop :=
 ite' (decide (t16_ < t15_)) (ix t14_ 1 t16_ fun p6 => ldS p6 fun t19_7 => call 197 [.string t19_7] X fun v_ M => ∃ (r9 : Bool), v_ = .bool r9 ∧ ( ite' (!r9) (K 1) (next2 (IntKind.wrap .i64 (t16_ + 1)))) M) (S120_1 t0_ t1_ t2_ K X)
def S120_2 (t0_ : Option PA) (t1_ : Bool) (t2_ : Sl) (t14_ : Sl) (t15_ : Int) (t16_ : Int) (K : Int → Mem → Prop) (X : List PanicEntry → Mem → Prop) : Mem → Prop :=
 Lp (fun (s_ : Int) next2 => S120_2b t0_ t1_ t2_ t14_ t15_ K X s_ next2) t16_
def S120 (t0 : Option PA) (t1 : Bool) (t2 : Sl) (K : Int → Mem → Prop) (X : List PanicEntry → Mem → Prop) : Mem → Prop :=
 call 196 [ptr t0] X fun v_ M => ∃ (r1 : Bool), v_ = .bool r1 ∧ ( ite' (!r1) (K 5) (S120_2 t0 t1 t2 t2 (t2.n : Int) 0 K X)) M
abbrev F120_2 (K : Int → Mem → Prop) (X : List PanicEntry → Mem → Prop) (e : Env) (Mp : Mem) : Prop := ∃ (t0_ : Option PA) (t1_ : Bool) (t2_ : Sl) (t14_ : Sl) (t15_ : Int) (t16_ : Int) (M : Mem), e.D = [] ∧ e.v 0 = ptr t0_ ∧ e.v 1 = .bool t1_ ∧ e.v 2 = Sl.v t2_ ∧ e.v 14 = Sl.v t14_ ∧ e.v 15 = .int .i64 t15_ ∧ e.v 16 = .int .i64 t16_ ∧ Pv M [] Mp ∧ S120_2 t0_ t1_ t2_ t14_ t15_ t16_ K X M
abbrev F120_3 (K : Int → Mem → Prop) (X : List PanicEntry → Mem → Prop) (e : Env) (Mp : Mem) : Prop := ∃ (M : Mem), e.D = [] ∧ Pv M [] Mp ∧ S120_3  K X M
abbrev F120_1 (K : Int → Mem → Prop) (X : List PanicEntry → Mem → Prop) (e : Env) (Mp : Mem) : Prop := ∃ (t0_ : Option PA) (t1_ : Bool) (t2_ : Sl) (M : Mem), e.D = [] ∧ e.v 0 = ptr t0_ ∧ e.v 1 = .bool t1_ ∧ e.v 2 = Sl.v t2_ ∧ Pv M [] Mp ∧ S120_1 t0_ t1_ t2_ K X M
theorem br120 {t0 : Option PA} {t1 : Bool} {t2 : Sl} {K : Int → Mem → Prop} {X : List PanicEntry → Mem → Prop} {M : Mem} (H : S120 t0 t1 t2 K X M) :
  Spec Tryz.prog 120 #[ptr t0, .bool t1, Sl.v t2] M (fun v_ M => ∃ (r0 : Int), v_ = .int .i64 r0 ∧ K r0 M) X := by
 refine spec_of_J (args := [ptr t0, .bool t1, Sl.v t2]) Tryz.func120 rfl Tryz.ntmps120 (Nat.le_of_ble_eq_true rfl) ?_
 have hD : (⟨fun i => ([ptr t0, .bool t1, Sl.v t2] : List Value).getD i undef, []⟩ : Env).D = [] := rfl
 have hP := Pv.nil M
 have hX := @kx_of Tryz.prog Tryz.f120 (fun v_ M => ∃ (r0 : Int), v_ = .int .i64 r0 ∧ K r0 M) X
 unfold S120 at H
 refine J_seq ?_
 refine J_region (by decide) ?_
 refine JO_assign (v := .int .i64 0) rfl ?_
 refine JO_nil ?_
 refine J_seq ?_
 refine J_seq ?_
 refine J_region (by decide) ?_
 refine JO_move (v := ptr t0) rfl ?_
 refine JO_call Tryz.call196 (vs := [ptr t0]) (mc rfl mn) ((hP.spec H).mono ?_ (fun ch Mp h => hX hD h))
 rintro v Mp ⟨M, hP, r1, rfl, H⟩
 refine JO_not (b := r1) rfl ?_
 refine JO_nil ?_
 refine J_cond (t := !r1) rfl (fun hc_ => ?_) (fun hc_ => ?_)
 ·
  replace H := H.1 hc_
  clear hc_
  refine J_seq ?_
  refine J_region (by decide) ?_
  refine JO_assign (v := .int .i64 5) rfl ?_
  refine JO_nil ?_
  exact J_ret (kret (pan := X)  hD (fun _ _ hb => hP.sub hb) (resOk (rs := [.tmp 6]) (vs := [.int .i64 5]) rfl ⟨item_tmp rfl, trivial⟩) ⟨5, rfl, H⟩)
 ·
  replace H := H.2 hc_
  clear hc_
  refine J_skip ?_
  refine J_seq ?_
  refine J_seq ?_
  refine J_region (by decide) ?_
  refine JO_move (v := Sl.v t2) rfl ?_
  refine JO_len (s := t2) is_36 rfl ?_
  refine JO_move (v := .int .i64 0) rfl ?_
  refine JO_nil ?_
  refine J_blockF (F120_1 K X) ?_ ?_
  ·
   refine J_of (F120_2 K X) (show F120_2 K X _ _ from ⟨t0, t1, t2, t2, (t2.n : Int), 0, _, hD, rfl, rfl, rfl, rfl, rfl, rfl, hP, H⟩) ?_
   rintro e Mp ⟨t0_, t1_, t2_, t14_, t15_, t16_, M, hD, h0, h1, h2, h14, h15, h16, hP, H⟩
   unfold S120_2 at H
   refine J_loopP (σ := Int) (body := fun (s_ : Int) next2 => S120_2b t0_ t1_ t2_ t14_ t15_ K X s_ next2) (s := t16_) (M := M) (fun (s_ : Int) (e : Env) (M Mp : Mem) => e.D = [] ∧ e.v 0 = ptr t0_ ∧ e.v 1 = .bool t1_ ∧ e.v 2 = Sl.v t2_ ∧ e.v 14 = Sl.v t14_ ∧ e.v 15 = .int .i64 t15_ ∧ e.v 16 = .int .i64 s_ ∧ Pv M [] Mp) ?_ ⟨hD, h0, h1, h2, h14, h15, h16, hP⟩ H
   rintro next2 t16_ e M Mp ⟨hD, h0, h1, h2, h14, h15, h16, hP⟩ H
   replace H : S120_2b t0_ t1_ t2_ t14_ t15_ K X t16_ next2 M := H
   unfold S120_2b at H
   refine J_seq ?_
   refine J_region (by decide) ?_
   refine JO_iop (op := .lss) (k := .i64) (a := t16_) (b := t15_) h16 h15 trivial ?_
   refine JO_nil ?_
   refine J_seq ?_
   refine J_cond (t := decide (t16_ < t15_)) rfl (fun hc_ => ?_) (fun hc_ => ?_)
   ·
    replace H := H.1 hc_
    clear hc_
    refine J_skip ?_
    refine J_seq ?_
    refine J_block ?_
    refine J_seq ?_
    refine J_region (by decide) ?_
    obtain ⟨a2, g3, g4, g5, H⟩ := H
    refine JO_indexAddr (s := t14_) (p := a2) (i := t16_) es_36 h14 h16 g3 g4 g5 ?_
    obtain ⟨p6, hq_⟩ : ∃ q : PA, q = (a2.1, a2.2 + (t16_ : Int).toNat * 1) := ⟨_, rfl⟩; rw [← hq_] at H ⊢; clear hq_
    obtain ⟨t19_7, g8, H⟩ := H
    refine JO_load (p := p6) (v := .string t19_7) na_9 rfl (hP.cel g8) ?_
    refine JO_assign (v := .string t19_7) rfl ?_
    refine JO_nil ?_
    refine J_seq ?_
    refine J_region (by decide) ?_
    refine JO_move (v := .string t19_7) rfl ?_
    refine JO_call Tryz.call197 (vs := [.string t19_7]) (mc rfl mn) ((hP.spec H).mono ?_ (fun ch Mp h => hX hD h))
    rintro v Mp ⟨M, hP, r9, rfl, H⟩
    refine JO_not (b := r9) rfl ?_
    refine JO_nil ?_
    refine J_cond (t := !r9) rfl (fun hc_ => ?_) (fun hc_ => ?_)
    ·
     replace H := H.1 hc_
     clear hc_
     refine J_seq ?_
     refine J_region (by decide) ?_
     refine JO_assign (v := .int .i64 1) rfl ?_
     refine JO_nil ?_
     exact J_ret (kret (pan := X)  hD (fun _ _ hb => hP.sub hb) (resOk (rs := [.tmp 6]) (vs := [.int .i64 1]) rfl ⟨item_tmp rfl, trivial⟩) ⟨1, rfl, H⟩)
    ·
     replace H := H.2 hc_
     clear hc_
     refine J_skip ?_
     refine J_region (by decide) ?_
     refine JO_iop (op := .add) (k := .i64) (a := t16_) (b := 1) h16 rfl trivial ?_
     refine JO_move (v := .int .i64 (IntKind.wrap .i64 (t16_ + 1))) rfl ?_
     refine JO_nil ?_
     exact ⟨IntKind.wrap .i64 (t16_ + 1), _, ⟨hD, h0, h1, h2, h14, h15, rfl, hP⟩, H⟩
   ·
    replace H := H.2 hc_
    clear hc_
    refine J_exit ?_
    exact (show F120_1 K X _ _ from ⟨t0_, t1_, t2_, _, hD, h0, h1, h2, hP, H⟩)
  ·
   rintro e Mp ⟨t0_, t1_, t2_, M, hD, h0, h1, h2, hP, H⟩
   unfold S120_1 at H
   refine J_seqF (F120_3 K X) ?_ ?_
   ·
    refine J_seq ?_
    refine J_region (by decide) ?_
    refine JO_move (v := .bool t1_) h1 ?_
    refine JO_nil ?_
    refine J_cond (t := t1_) rfl (fun hc_ => ?_) (fun hc_ => ?_)
    ·
     replace H := H.1 hc_
     clear hc_
     refine J_seq ?_
     refine J_region (by decide) ?_
     refine JO_move (v := ptr t0_) h0 ?_
     refine JO_move (v := Sl.v t2_) h2 ?_
     obtain ⟨a10, g11, g12, g13, H⟩ := H
     refine JO_indexAddr (s := t2_) (p := a10) (i := 0) es_36 rfl rfl g11 g12 g13 ?_
     obtain ⟨p14, hq_⟩ : ∃ q : PA, q = (a10.1, a10.2 + (0 : Int).toNat * 1) := ⟨_, rfl⟩; rw [← hq_] at H ⊢; clear hq_
     obtain ⟨t29_15, g16, H⟩ := H
     refine JO_load (p := p14) (v := .string t29_15) na_9 rfl (hP.cel g16) ?_
     refine JO_call Tryz.call63 (vs := [ptr t0_, .string t29_15]) (mc rfl (mc rfl mn)) ((hP.spec H).mono ?_ (fun ch Mp h => hX hD h))
     rintro v Mp ⟨M, hP, r17_0, r17_1, rfl, H⟩
     refine JO_move (v := .tuple #[ptr r17_0, .bool r17_1]) rfl ?_
     refine JO_extract (vs := #[ptr r17_0, .bool r17_1]) (v := ptr r17_0) rfl rfl ?_
     refine JO_extract (vs := #[ptr r17_0, .bool r17_1]) (v := .bool r17_1) rfl rfl ?_
     refine JO_assign (v := ptr r17_0) rfl ?_
     refine JO_assign (v := .bool r17_1) rfl ?_
     refine JO_nil ?_
     refine J_seq ?_
     refine J_region (by decide) ?_
     refine JO_move (v := .bool r17_1) rfl ?_
     refine JO_not (b := r17_1) rfl ?_
     refine JO_nil ?_
     refine J_cond (t := !r17_1) rfl (fun hc_ => ?_) (fun hc_ => ?_)
     ·
      replace H := H.1 hc_
      clear hc_
      refine J_seq ?_
      refine J_region (by decide) ?_
      refine JO_assign (v := .int .i64 3) rfl ?_
      refine JO_nil ?_
      exact J_ret (kret (pan := X)  hD (fun _ _ hb => hP.sub hb) (resOk (rs := [.tmp 6]) (vs := [.int .i64 3]) rfl ⟨item_tmp rfl, trivial⟩) ⟨3, rfl, H⟩)
     ·
      replace H := H.2 hc_
      clear hc_
      refine J_skip ?_
      exact (show F120_3 K X _ _ from ⟨_, hD, hP, H⟩)
    ·
     replace H := H.2 hc_
     clear hc_
     refine J_skip ?_
     exact (show F120_3 K X _ _ from ⟨_, hD, hP, H⟩)
   ·
    rintro e Mp ⟨M, hD, hP, H⟩
    unfold S120_3 at H
    refine J_seq ?_
    refine J_region (by decide) ?_
    refine JO_assign (v := .int .i64 0) rfl ?_
    refine JO_nil ?_
    exact J_ret (kret (pan := X)  hD (fun _ _ hb => hP.sub hb) (resOk (rs := [.tmp 6]) (vs := [.int .i64 0]) rfl ⟨item_tmp rfl, trivial⟩) ⟨0, rfl, H⟩)

/-! slices.Concat[[]byte,byte] -/
def S124_3 (t3_ : Int) (t11_ : Int) (t0_ : Sl) (t9_ : Sl) (t10_ : Int) (K : Sl → Mem → Prop) (X : List PanicEntry → Mem → Prop) (next2 : (Int × Int) → Mem → Prop) : Mem → Prop :=
 next2 (t3_, IntKind.wrap .i64 (t11_ + 1))
def S124_4 (t6_ : Sl) (K : Sl → Mem → Prop) (X : List PanicEntry → Mem → Prop) : Mem → Prop :=
 K t6_
def S124_5b (t25_ : Sl) (t26_ : Int) (K : Sl → Mem → Prop) (X : List PanicEntry → Mem → Prop) (t6_ : Sl) (t27_ : Int) (next5 : (Sl × Int) → Mem → Prop) : Mem → Prop :=
 ite' (decide (t27_ < t26_)) (ix t25_ 1 t27_ fun p13 => ldL p13 fun t30_14 => appS 5 1 1 [.int .u8 0] t6_ t30_14 fun x16 => next5 (x16, IntKind.wrap .i64 (t27_ + 1))) (S124_4 t6_ K X)
def S124_5 (t6_ : Sl) (t25_ : Sl) (t26_ : Int) (t27_ : Int) (K : Sl → Mem → Prop) (X : List PanicEntry → Mem → Prop) : Mem → Prop :=
 Lp (fun (s_ : (Sl × Int)) next5 => S124_5b t25_ t26_ K X s_.1 s_.2 next5) (t6_, t27_)
def S124_1 (t0_ : Sl) (t3_ : Int) (K : Sl → Mem → Prop) (X : List PanicEntry → Mem → Prop) : Mem → Prop :=
 call 202 [Sl.v (⟨none, 0, 0⟩ : Sl), .int .i64 t3_] X fun v_ M => ∃ (r8 : Sl), v_ = Sl.v r8 ∧ ( S124_5 r8 t0_ (t0_.n : Int) 0 K X) M
def S124_2b (t0_ : Sl) (t9_ : Sl) (t10_ : Int) (K : Sl → Mem → Prop) (X : List PanicEntry → Mem → Prop) (t3_ : Int) (t11_ : Int) (next2 : (Int × Int) → Mem → Prop) : Mem → Prop :=
 ite' (decide (t11_ < t10_)) (ix t9_ 1 t11_ fun p5 => ldL p5 fun t14_6 => ite' (decide ((IntKind.wrap .i64 (t3_ + (t14_6.n : Int))) < 0)) (no) (S124_3 (IntKind.wrap .i64 (t3_ + (t14_6.n : Int))) t11_ t0_ t9_ t10_ K X next2)) (S124_1 t0_ t3_ K X)
def S124_2 (t0_ : Sl) (t3_ : Int) (t9_ : Sl) (t10_ : Int) (t11_ : Int) (K : Sl → Mem → Prop) (X : List PanicEntry → Mem → Prop) : Mem → Prop :=
 Lp (fun (s_ : (Int × Int)) next2 => S124_2b t0_ t9_ t10_ K X s_.1 s_.2 next2) (t3_, t11_)
def S124 (t0 : Sl) (K : Sl → Mem → Prop) (X : List PanicEntry → Mem → Prop) : Mem → Prop :=
 S124_2 t0 0 t0 (t0.n : Int) 0 K X
abbrev F124_3 (t0_ : Sl) (t9_ : Sl) (t10_ : Int) (K : Sl → Mem → Prop) (X : List PanicEntry → Mem → Prop) (next2 : (Int × Int) → Mem → Prop) (e : Env) (Mp : Mem) : Prop := ∃ (t3_ : Int) (t11_ : Int) (M : Mem), e.D = [] ∧ e.v 0 = Sl.v t0_ ∧ e.v 3 = .int .i64 t3_ ∧ e.v 9 = Sl.v t9_ ∧ e.v 10 = .int .i64 t10_ ∧ e.v 11 = .int .i64 t11_ ∧ Pv M [] Mp ∧ S124_3 t3_ t11_ t0_ t9_ t10_ K X next2 M
abbrev F124_2 (K : Sl → Mem → Prop) (X : List PanicEntry → Mem → Prop) (e : Env) (Mp : Mem) : Prop := ∃ (t0_ : Sl) (t3_ : Int) (t9_ : Sl) (t10_ : Int) (t11_ : Int) (M : Mem), e.D = [] ∧ e.v 0 = Sl.v t0_ ∧ e.v 3 = .int .i64 t3_ ∧ e.v 9 = Sl.v t9_ ∧ e.v 10 = .int .i64 t10_ ∧ e.v 11 = .int .i64 t11_ ∧ Pv M [] Mp ∧ S124_2 t0_ t3_ t9_ t10_ t11_ K X M
abbrev F124_5 (K : Sl → Mem → Prop) (X : List PanicEntry → Mem → Prop) (e : Env) (Mp : Mem) : Prop := ∃ (t6_ : Sl) (t25_ : Sl) (t26_ : Int) (t27_ : Int) (M : Mem), e.D = [] ∧ e.v 6 = Sl.v t6_ ∧ e.v 25 = Sl.v t25_ ∧ e.v 26 = .int .i64 t26_ ∧ e.v 27 = .int .i64 t27_ ∧ Pv M [] Mp ∧ S124_5 t6_ t25_ t26_ t27_ K X M
abbrev F124_4 (K : Sl → Mem → Prop) (X : List PanicEntry → Mem → Prop) (e : Env) (Mp : Mem) : Prop := ∃ (t6_ : Sl) (M : Mem), e.D = [] ∧ e.v 6 = Sl.v t6_ ∧ Pv M [] Mp ∧ S124_4 t6_ K X M
abbrev F124_1 (K : Sl → Mem → Prop) (X : List PanicEntry → Mem → Prop) (e : Env) (Mp : Mem) : Prop := ∃ (t0_ : Sl) (t3_ : Int) (M : Mem), e.D = [] ∧ e.v 0 = Sl.v t0_ ∧ e.v 3 = .int .i64 t3_ ∧ Pv M [] Mp ∧ S124_1 t0_ t3_ K X M
theorem br124 {t0 : Sl} {K : Sl → Mem → Prop} {X : List PanicEntry → Mem → Prop} {M : Mem} (H : S124 t0 K X M) :
  Spec Tryz.prog 124 #[Sl.v t0] M (fun v_ M => ∃ (r0 : Sl), v_ = Sl.v r0 ∧ K r0 M) X := by
 refine spec_of_J (args := [Sl.v t0]) Tryz.func124 rfl Tryz.ntmps124 (Nat.le_of_ble_eq_true rfl) ?_
 have hD : (⟨fun i => ([Sl.v t0] : List Value).getD i undef, []⟩ : Env).D = [] := rfl
 have hP := Pv.nil M
 have hX := @kx_of Tryz.prog Tryz.f124 (fun v_ M => ∃ (r0 : Sl), v_ = Sl.v r0 ∧ K r0 M) X
 unfold S124 at H
 refine J_seq ?_
 refine J_region (by decide) ?_
 refine JO_assign (v := Sl.v (⟨none, 0, 0⟩ : Sl)) rfl ?_
 refine JO_nil ?_
 refine J_seq ?_
 refine J_region (by decide) ?_
 refine JO_assign (v := .int .i64 0) rfl ?_
 refine JO_nil ?_
 refine J_seq ?_
 refine J_seq ?_
 refine J_region (by decide) ?_
 refine JO_move (v := Sl.v t0) rfl ?_
 refine JO_len (s := t0) is_55 rfl ?_
 refine JO_move (v := .int .i64 0) rfl ?_
 refine JO_nil ?_
 refine J_blockF (F124_1 K X) ?_ ?_
 ·
  refine J_of (F124_2 K X) (show F124_2 K X _ _ from ⟨t0, 0, t0, (t0.n : Int), 0, _, hD, rfl, rfl, rfl, rfl, rfl, hP, H⟩) ?_
  rintro e Mp ⟨t0_, t3_, t9_, t10_, t11_, M, hD, h0, h3, h9, h10, h11, hP, H⟩
  unfold S124_2 at H
  refine J_loopP (σ := (Int × Int)) (body := fun (s_ : (Int × Int)) next2 => S124_2b t0_ t9_ t10_ K X s_.1 s_.2 next2) (s := (t3_, t11_)) (M := M) (fun (s_ : (Int × Int)) (e : Env) (M Mp : Mem) => e.D = [] ∧ e.v 0 = Sl.v t0_ ∧ e.v 3 = .int .i64 s_.1 ∧ e.v 9 = Sl.v t9_ ∧ e.v 10 = .int .i64 t10_ ∧ e.v 11 = .int .i64 s_.2 ∧ Pv M [] Mp) ?_ ⟨hD, h0, h3, h9, h10, h11, hP⟩ H
  rintro next2 ⟨t3_, t11_⟩ e M Mp ⟨hD, h0, h3, h9, h10, h11, hP⟩ H
  replace H : S124_2b t0_ t9_ t10_ K X t3_ t11_ next2 M := H
  unfold S124_2b at H
  refine J_seq ?_
  refine J_region (by decide) ?_
  refine JO_iop (op := .lss) (k := .i64) (a := t11_) (b := t10_) h11 h10 trivial ?_
  refine JO_nil ?_
  refine J_seq ?_
  refine J_cond (t := decide (t11_ < t10_)) rfl (fun hc_ => ?_) (fun hc_ => ?_)
  ·
   replace H := H.1 hc_
   clear hc_
   refine J_skip ?_
   refine J_seq ?_
   refine J_blockF (F124_3 t0_ t9_ t10_ K X next2) ?_ ?_
   ·
    refine J_seq ?_
    refine J_region (by decide) ?_
    obtain ⟨a1, g2, g3, g4, H⟩ := H
    refine JO_indexAddr (s := t9_) (p := a1) (i := t11_) es_55 h9 h11 g2 g3 g4 ?_
    obtain ⟨p5, hq_⟩ : ∃ q : PA, q = (a1.1, a1.2 + (t11_ : Int).toNat * 1) := ⟨_, rfl⟩; rw [← hq_] at H ⊢; clear hq_
    obtain ⟨t14_6, g7, H⟩ := H
    refine JO_load (p := p5) (v := Sl.v t14_6) na_32 rfl (hP.cel g7) ?_
    refine JO_assign (v := Sl.v t14_6) rfl ?_
    refine JO_nil ?_
    refine J_seq ?_
    refine J_region (by decide) ?_
    refine JO_move (v := .int .i64 t3_) h3 ?_
    refine JO_move (v := Sl.v t14_6) rfl ?_
    refine JO_len (s := t14_6) is_32 rfl ?_
    refine JO_iop (op := .add) (k := .i64) (a := t3_) (b := (t14_6.n : Int)) rfl rfl trivial ?_
    refine JO_assign (v := .int .i64 (IntKind.wrap .i64 (t3_ + (t14_6.n : Int)))) rfl ?_
    refine JO_nil ?_
    refine J_seq ?_
    refine J_region (by decide) ?_
    refine JO_move (v := .int .i64 (IntKind.wrap .i64 (t3_ + (t14_6.n : Int)))) rfl ?_
    refine JO_iop (op := .lss) (k := .i64) (a := IntKind.wrap .i64 (t3_ + (t14_6.n : Int))) (b := 0) rfl rfl trivial ?_
    refine JO_nil ?_
    refine J_cond (t := decide ((IntKind.wrap .i64 (t3_ + (t14_6.n : Int))) < 0)) rfl (fun hc_ => ?_) (fun hc_ => ?_)
    ·
     replace H := H.1 hc_
     clear hc_
     refine J_region (by decide) ?_
     exact H.elim
    ·
     replace H := H.2 hc_
     clear hc_
     refine J_skip ?_
     exact (show F124_3 t0_ t9_ t10_ K X next2 _ _ from ⟨IntKind.wrap .i64 (t3_ + (t14_6.n : Int)), t11_, _, hD, h0, rfl, h9, h10, h11, hP, H⟩)
   ·
    rintro e Mp ⟨t3_, t11_, M, hD, h0, h3, h9, h10, h11, hP, H⟩
    unfold S124_3 at H
    refine J_region (by decide) ?_
    refine JO_iop (op := .add) (k := .i64) (a := t11_) (b := 1) h11 rfl trivial ?_
    refine JO_move (v := .int .i64 (IntKind.wrap .i64 (t11_ + 1))) rfl ?_
    refine JO_nil ?_
    exact ⟨(t3_, IntKind.wrap .i64 (t11_ + 1)), _, ⟨hD, h0, h3, h9, h10, rfl, hP⟩, H⟩
  ·
   replace H := H.2 hc_
   clear hc_
   refine J_exit ?_
   exact (show F124_1 K X _ _ from ⟨t0_, t3_, _, hD, h0, h3, hP, H⟩)
 ·
  rintro e Mp ⟨t0_, t3_, M, hD, h0, h3, hP, H⟩
  unfold S124_1 at H
  refine J_seq ?_
  refine J_region (by decide) ?_
  refine JO_move (v := .int .i64 t3_) h3 ?_
  refine JO_call Tryz.call202 (vs := [Sl.v (⟨none, 0, 0⟩ : Sl), .int .i64 t3_]) (mc rfl (mc rfl mn)) ((hP.spec H).mono ?_ (fun ch Mp h => hX hD h))
  rintro v Mp ⟨M, hP, r8, rfl, H⟩
  refine JO_assign (v := Sl.v r8) rfl ?_
  refine JO_nil ?_
  refine J_seq ?_
  refine J_seq ?_
  refine J_region (by decide) ?_
  refine JO_move (v := Sl.v t0_) h0 ?_
  refine JO_len (s := t0_) is_55 rfl ?_
  refine JO_move (v := .int .i64 0) rfl ?_
  refine JO_nil ?_
  refine J_blockF (F124_4 K X) ?_ ?_
  ·
   refine J_of (F124_5 K X) (show F124_5 K X _ _ from ⟨r8, t0_, (t0_.n : Int), 0, _, hD, rfl, rfl, rfl, rfl, hP, H⟩) ?_
   rintro e Mp ⟨t6_, t25_, t26_, t27_, M, hD, h6, h25, h26, h27, hP, H⟩
   unfold S124_5 at H
   refine J_loopP (σ := (Sl × Int)) (body := fun (s_ : (Sl × Int)) next5 => S124_5b t25_ t26_ K X s_.1 s_.2 next5) (s := (t6_, t27_)) (M := M) (fun (s_ : (Sl × Int)) (e : Env) (M Mp : Mem) => e.D = [] ∧ e.v 6 = Sl.v s_.1 ∧ e.v 25 = Sl.v t25_ ∧ e.v 26 = .int .i64 t26_ ∧ e.v 27 = .int .i64 s_.2 ∧ Pv M [] Mp) ?_ ⟨hD, h6, h25, h26, h27, hP⟩ H
   rintro next5 ⟨t6_, t27_⟩ e M Mp ⟨hD, h6, h25, h26, h27, hP⟩ H
   replace H : S124_5b t25_ t26_ K X t6_ t27_ next5 M := H
   unfold S124_5b at H
   refine J_seq ?_
   refine J_region (by decide) ?_
   refine JO_iop (op := .lss) (k := .i64) (a := t27_) (b := t26_) h27 h26 trivial ?_
   refine JO_nil ?_
   refine J_seq ?_
   refine J_cond (t := decide (t27_ < t26_)) rfl (fun hc_ => ?_) (fun hc_ => ?_)
   ·
    replace H := H.1 hc_
    clear hc_
    refine J_skip ?_
    refine J_seq ?_
    refine J_block ?_
    refine J_seq ?_
    refine J_region (by decide) ?_
    obtain ⟨a9, g10, g11, g12, H⟩ := H
    refine JO_indexAddr (s := t25_) (p := a9) (i := t27_) es_55 h25 h27 g10 g11 g12 ?_
    obtain ⟨p13, hq_⟩ : ∃ q : PA, q = (a9.1, a9.2 + (t27_ : Int).toNat * 1) := ⟨_, rfl⟩; rw [← hq_] at H ⊢; clear hq_
    obtain ⟨t30_14, g15, H⟩ := H
    refine JO_load (p := p13) (v := Sl.v t30_14) na_32 rfl (hP.cel g15) ?_
    refine JO_assign (v := Sl.v t30_14) rfl ?_
    refine JO_nil ?_
    refine J_region (by decide) ?_
    refine JO_move (v := Sl.v t6_) h6 ?_
    refine JO_move (v := Sl.v t30_14) rfl ?_
    refine JO_loud ((hP.opJ (OpJ_app (s := t6_) (z := t30_14) ul_32 sb_5 zc_5 rfl rfl H)).mono (fun _ _ h => h) (fun _ _ ⟨_, _, f⟩ => f.elim)) ?_
    rintro _ Mp ⟨M, hP, x16, rfl, H⟩
    refine JO_assign (v := Sl.v x16) rfl ?_
    refine JO_nil ?_
    refine J_region (by decide) ?_
    refine JO_iop (op := .add) (k := .i64) (a := t27_) (b := 1) h27 rfl trivial ?_
    refine JO_move (v := .int .i64 (IntKind.wrap .i64 (t27_ + 1))) rfl ?_
    refine JO_nil ?_
    exact ⟨(x16, IntKind.wrap .i64 (t27_ + 1)), _, ⟨hD, rfl, h25, h26, rfl, hP⟩, H⟩
   ·
    replace H := H.2 hc_
    clear hc_
    refine J_exit ?_
    exact (show F124_4 K X _ _ from ⟨t6_, _, hD, h6, hP, H⟩)
  ·
   rintro e Mp ⟨t6_, M, hD, h6, hP, H⟩
   unfold S124_4 at H
   refine J_seq ?_
   refine J_region (by decide) ?_
   refine JO_move (v := Sl.v t6_) h6 ?_
   refine JO_assign (v := Sl.v t6_) rfl ?_
   refine JO_nil ?_
   exact J_ret (kret (pan := X)  hD (fun _ _ hb => hP.sub hb) (resOk (rs := [.tmp 2]) (vs := [Sl.v t6_]) rfl ⟨item_tmp rfl, trivial⟩) ⟨t6_, rfl, H⟩)

/-! (*brazier/disk.Disk).Sync -/
def S128 (t0 : Option PA) (t1 : ByteArray) (K : Int → Mem → Prop) (X : List PanicEntry → Mem → Prop) : Mem → Prop :=
 new (.cells #[.string t1] 9 (0, 0)) fun b1 => call 120 [ptr t0, .bool true, Sl.v (⟨some (b1, 0), 1, 1⟩ : Sl)] X fun v_ M => ∃ (r2 : Int), v_ = .int .i64 r2 ∧ ( ite' (r2 != 0) (K r2) (call 63 [ptr t0, .string t1] X fun v_ M => ∃ (r3_0 : Option PA) (r3_1 : Bool), v_ = .tuple #[ptr r3_0, .bool r3_1] ∧ ( nn r3_0 fun a4 => ldL a4 fun t25_6 => st (a4.1, a4.2 + 1) (.int .i64 (t25_6.n : Int)) <| K 0) M)) M
theorem br128 {t0 : Option PA} {t1 : ByteArray} {K : Int → Mem → Prop} {X : List PanicEntry → Mem → Prop} {M : Mem} (H : S128 t0 t1 K X M) :
  Spec Tryz.prog 128 #[ptr t0, .string t1] M (fun v_ M => ∃ (r0 : Int), v_ = .int .i64 r0 ∧ K r0 M) X := by
 refine spec_of_J (args := [ptr t0, .string t1]) Tryz.func128 rfl Tryz.ntmps128 (Nat.le_of_ble_eq_true rfl) ?_
 have hD : (⟨fun i => ([ptr t0, .string t1] : List Value).getD i undef, []⟩ : Env).D = [] := rfl
 have hP := Pv.nil M
 have hX := @kx_of Tryz.prog Tryz.f128 (fun v_ M => ∃ (r0 : Int), v_ = .int .i64 r0 ∧ K r0 M) X
 unfold S128 at H
 refine J_seq ?_
 refine J_region (by decide) ?_
 refine JO_assign (v := .int .i64 0) rfl ?_
 refine JO_nil ?_
 refine J_seq ?_
 refine J_seq ?_
 refine J_region (by decide) ?_
 refine JO_move (v := ptr t0) rfl ?_
 refine JO_move (v := .string t1) rfl ?_
 refine JO_bsl (vs := [(0, .string t1)]) (cs := [.string t1]) (c0 := [.string (⟨#[]⟩ : ByteArray)]) ul_36 sz_9 zc_9 (by kernel_rfl) (by decide) (by decide) (mpc rfl mpn) rfl ?_
 intro b1 hb
 replace H := H b1 (hP.out hb).1
 replace hP := hP.new hb (.cells #[.string t1] 9 (0, 0))
 refine JO_call Tryz.call120 (vs := [ptr t0, .bool true, Sl.v (⟨some (b1, 0), 1, 1⟩ : Sl)]) (mc rfl (mc rfl (mc rfl mn))) ((hP.spec H).mono ?_ (fun ch Mp h => hX hD h))
 rintro v Mp ⟨M, hP, r2, rfl, H⟩
 refine JO_assign (v := .int .i64 r2) rfl ?_
 refine JO_nil ?_
 refine J_seq ?_
 refine J_region (by decide) ?_
 refine JO_move (v := .int .i64 r2) rfl ?_
 refine JO_iop (op := .neq) (k := .i64) (a := r2) (b := 0) rfl rfl trivial ?_
 refine JO_nil ?_
 refine J_cond (t := r2 != 0) rfl (fun hc_ => ?_) (fun hc_ => ?_)
 ·
  replace H := H.1 hc_
  clear hc_
  refine J_seq ?_
  refine J_region (by decide) ?_
  refine JO_move (v := .int .i64 r2) rfl ?_
  refine JO_assign (v := .int .i64 r2) rfl ?_
  refine JO_nil ?_
  exact J_ret (kret (pan := X)  hD (fun _ _ hb => hP.sub hb) (resOk (rs := [.tmp 4]) (vs := [.int .i64 r2]) rfl ⟨item_tmp rfl, trivial⟩) ⟨r2, rfl, H⟩)
 ·
  replace H := H.2 hc_
  clear hc_
  refine J_skip ?_
  refine J_seq ?_
  refine J_region (by decide) ?_
  refine JO_move (v := ptr t0) rfl ?_
  refine JO_move (v := .string t1) rfl ?_
  refine JO_call Tryz.call63 (vs := [ptr t0, .string t1]) (mc rfl (mc rfl mn)) ((hP.spec H).mono ?_ (fun ch Mp h => hX hD h))
  rintro v Mp ⟨M, hP, r3_0, r3_1, rfl, H⟩
  refine JO_move (v := .tuple #[ptr r3_0, .bool r3_1]) rfl ?_
  refine JO_extract (vs := #[ptr r3_0, .bool r3_1]) (v := ptr r3_0) rfl rfl ?_
  refine JO_extract (vs := #[ptr r3_0, .bool r3_1]) (v := .bool r3_1) rfl rfl ?_
  refine JO_assign (v := ptr r3_0) rfl ?_
  refine JO_assign (v := .bool r3_1) rfl ?_
  refine JO_nil ?_
  refine J_seq ?_
  refine J_region (by decide) ?_
  refine JO_move (v := ptr r3_0) rfl ?_
  refine JO_move (v := ptr r3_0) rfl ?_
  obtain ⟨a4, g5, H⟩ := H
  refine JO_nilCheck (p := a4) (tr1 (rfl : _ = ptr r3_0) (congrArg ptr g5)) ?_
  refine JO_fieldAddr (p := a4) fo_135_0 rfl ?_
  obtain ⟨t25_6, g7, H⟩ := H
  refine JO_load (p := a4) (v := Sl.v t25_6) na_32 rfl (hP.cel g7) ?_
  refine JO_len (s := t25_6) is_32 rfl ?_
  refine JO_nilCheck (p := a4) (tr1 (rfl : _ = ptr r3_0) (congrArg ptr g5)) ?_
  refine JO_fieldAddr (p := a4) fo_135_1 rfl ?_
  obtain ⟨g8, H⟩ := H
  refine JO_store (p := (a4.1, a4.2 + 1)) (v := .int .i64 (t25_6.n : Int)) sz_3 rfl rfl rfl (hP.wr g8) ?_
  replace hP := hP.sto g8 (.int .i64 (t25_6.n : Int))
  refine JO_nil ?_
  refine J_seq ?_
  refine J_region (by decide) ?_
  refine JO_assign (v := .int .i64 0) rfl ?_
  refine JO_nil ?_
  exact J_ret (kret (pan := X)  hD (fun _ _ hb => hP.sub hb) (resOk (rs := [.tmp 4]) (vs := [.int .i64 0]) rfl ⟨item_tmp rfl, trivial⟩) ⟨0, rfl, H⟩)

/-! slices.Clone[[]string,string] -/
def S154 (t0 : Sl) (K : Sl → Mem → Prop) (X : List PanicEntry → Mem → Prop) : Mem → Prop :=
 ite' t0.a.isNone (K (⟨none, 0, 0⟩ : Sl)) (new (.cells #[] 9 (0, 0)) fun b1 => appS 9 1 16 [.string (⟨#[]⟩ : ByteArray)] (⟨some (b1, 0), 0, 0⟩ : Sl) t0 fun x2 => K x2)
theorem br154 {t0 : Sl} {K : Sl → Mem → Prop} {X : List PanicEntry → Mem → Prop} {M : Mem} (H : S154 t0 K X M) :
  Spec Tryz.prog 154 #[Sl.v t0] M (fun v_ M => ∃ (r0 : Sl), v_ = Sl.v r0 ∧ K r0 M) X := by
 refine spec_of_J (args := [Sl.v t0]) Tryz.func154 rfl Tryz.ntmps154 (Nat.le_of_ble_eq_true rfl) ?_
 have hD : (⟨fun i => ([Sl.v t0] : List Value).getD i undef, []⟩ : Env).D = [] := rfl
 have hP := Pv.nil M
 have hX := @kx_of Tryz.prog Tryz.f154 (fun v_ M => ∃ (r0 : Sl), v_ = Sl.v r0 ∧ K r0 M) X
 unfold S154 at H
 refine J_seq ?_
 refine J_region (by decide) ?_
 refine JO_assign (v := Sl.v (⟨none, 0, 0⟩ : Sl)) rfl ?_
 refine JO_nil ?_
 refine J_seq ?_
 refine J_seq ?_
 refine J_region (by decide) ?_
 refine JO_move (v := Sl.v t0) rfl ?_
 refine JO_eqlNilSl (s := t0) is_36 rfl rfl ?_
 refine JO_nil ?_
 refine J_cond (t := t0.a.isNone) rfl (fun hc_ => ?_) (fun hc_ => ?_)
 ·
  replace H := H.1 hc_
  clear hc_
  refine J_seq ?_
  refine J_region (by decide) ?_
  refine JO_assign (v := Sl.v (⟨none, 0, 0⟩ : Sl)) rfl ?_
  refine JO_nil ?_
  exact J_ret (kret (pan := X)  hD (fun _ _ hb => hP.sub hb) (resOk (rs := [.tmp 2]) (vs := [Sl.v (⟨none, 0, 0⟩ : Sl)]) rfl ⟨item_tmp rfl, trivial⟩) ⟨(⟨none, 0, 0⟩ : Sl), rfl, H⟩)
 ·
  replace H := H.2 hc_
  clear hc_
  refine J_skip ?_
  refine J_seq ?_
  refine J_region (by decide) ?_
  refine JO_bsl0 ul_36 sz_9 ?_
  intro b1 hb
  replace H := H b1 (hP.out hb).1
  replace hP := hP.new hb (.cells #[] 9 (0, 0))
  refine JO_move (v := Sl.v t0) rfl ?_
  refine JO_loud ((hP.opJ (OpJ_app (s := (⟨some (b1, 0), 0, 0⟩ : Sl)) (z := t0) ul_36 sb_9 zc_9 rfl rfl H)).mono (fun _ _ h => h) (fun _ _ ⟨_, _, f⟩ => f.elim)) ?_
  rintro _ Mp ⟨M, hP, x2, rfl, H⟩
  refine JO_assign (v := Sl.v x2) rfl ?_
  refine JO_nil ?_
  exact J_ret (kret (pan := X)  hD (fun _ _ hb => hP.sub hb) (resOk (rs := [.tmp 2]) (vs := [Sl.v x2]) rfl ⟨item_tmp rfl, trivial⟩) ⟨x2, rfl, H⟩)

/-! (*brazier/disk.Disk).begin -/
def S196_2 (t0_ : Option PA) (K : Bool → Mem → Prop) (X : List PanicEntry → Mem → Prop) : Mem → Prop :=
 nn t0_ fun a15 => ldI .i64 (a15.1, a15.2 + 7) fun t30_17 => st (a15.1, a15.2 + 7) (.int .i64 (if (-1) > IntKind.wrap .i64 (t30_17 - 1) then (-1) else IntKind.wrap .i64 (t30_17 - 1))) <| ldB (a15.1, a15.2 + 6) fun t38_20 => K (!t38_20)
def S196_1 (t0_ : Option PA) (t10_ : Bool) (K : Bool → Mem → Prop) (X : List PanicEntry → Mem → Prop) : Mem → Prop :=
 ite' t10_ (K false) (nn t0_ fun a7 => ldI .i64 (a7.1, a7.2 + 8) fun t14_9 => st (a7.1, a7.2 + 8) (.int .i64 (IntKind.wrap .i64 (t14_9 + 1))) <| ldI .i64 (a7.1, a7.2 + 7) fun t21_12 => ite' (t21_12 == 0) (st (a7.1, a7.2 + 6) (.bool true) <| S196_2 t0_ K X) (S196_2 t0_ K X))
def S196 (t0 : Option PA) (K : Bool → Mem → Prop) (X : List PanicEntry → Mem → Prop) : Mem → Prop :=
 ite' t0.isNone (S196_1 t0 true K X) (nn t0 fun a2 => ldB (a2.1, a2.2 + 6) fun t9_4 => S196_1 t0 t9_4 K X)
abbrev F196_2 (K : Bool → Mem → Prop) (X : List PanicEntry → Mem → Prop) (e : Env) (Mp : Mem) : Prop := ∃ (t0_ : Option PA) (M : Mem), e.D = [] ∧ e.v 0 = ptr t0_ ∧ Pv M [] Mp ∧ S196_2 t0_ K X M
abbrev F196_1 (K : Bool → Mem → Prop) (X : List PanicEntry → Mem → Prop) (e : Env) (Mp : Mem) : Prop := ∃ (t0_ : Option PA) (t10_ : Bool) (M : Mem), e.D = [] ∧ e.v 0 = ptr t0_ ∧ e.v 10 = .bool t10_ ∧ Pv M [] Mp ∧ S196_1 t0_ t10_ K X M
theorem br196 {t0 : Option PA} {K : Bool → Mem → Prop} {X : List PanicEntry → Mem → Prop} {M : Mem} (H : S196 t0 K X M) :
  Spec Tryz.prog 196 #[ptr t0] M (fun v_ M => ∃ (r0 : Bool), v_ = .bool r0 ∧ K r0 M) X := by
 refine spec_of_J (args := [ptr t0]) Tryz.func196 rfl Tryz.ntmps196 (Nat.le_of_ble_eq_true rfl) ?_
 have hD : (⟨fun i => ([ptr t0] : List Value).getD i undef, []⟩ : Env).D = [] := rfl
 have hP := Pv.nil M
 have hX := @kx_of Tryz.prog Tryz.f196 (fun v_ M => ∃ (r0 : Bool), v_ = .bool r0 ∧ K r0 M) X
 unfold S196 at H
 refine J_seq ?_
 refine J_region (by decide) ?_
 refine JO_assign (v := .bool false) rfl ?_
 refine JO_nil ?_
 refine J_seq ?_
 refine J_seq ?_
 refine J_region (by decide) ?_
 refine JO_move (v := ptr t0) rfl ?_
 refine JO_eqlNil (p := t0) ip_26 rfl rfl ?_
 refine JO_move (v := .bool t0.isNone) rfl ?_
 refine JO_cut 5 (F196_1 K X) ?_ ?_
 ·
  obtain ⟨H1, H2⟩ := H
  obtain hc_ | hc_ := ff_or_tt t0.isNone
  ·
   replace H := H2 hc_
   clear H1 H2
   have hg1 := (congrArg Value.bool hc_ : Value.bool t0.isNone = Value.bool false)
   refine JO_on (s := 5) hg1 ?_
   refine JO_move (v := ptr t0) rfl ?_
   refine JO_on (s := 5) hg1 ?_
   obtain ⟨a2, g3, H⟩ := H
   refine JO_nilCheck (p := a2) (tr1 (rfl : _ = ptr t0) (congrArg ptr g3)) ?_
   refine JO_on (s := 5) hg1 ?_
   refine JO_fieldAddr (p := a2) fo_115_6 rfl ?_
   refine JO_on (s := 5) hg1 ?_
   obtain ⟨t9_4, g5, H⟩ := H
   refine JO_load (p := (a2.1, a2.2 + 6)) (v := .bool t9_4) na_4 rfl (hP.cel g5) ?_
   refine JO_pick (b := false) (v := .bool t9_4) hg1 rfl ?_
   refine JO_nil ?_
   exact (show F196_1 K X _ _ from ⟨t0, t9_4, _, hD, rfl, rfl, hP, H⟩)
  ·
   replace H := H1 hc_
   clear H1 H2
   have hg6 := (congrArg Value.bool hc_ : Value.bool t0.isNone = Value.bool true)
   refine JO_off (s := 5) (c := true) hg6 (by decide) ?_
   refine JO_off (s := 5) (c := true) hg6 (by decide) ?_
   refine JO_off (s := 5) (c := true) hg6 (by decide) ?_
   refine JO_off (s := 5) (c := true) hg6 (by decide) ?_
   refine JO_pick (b := true) (v := .bool true) hg6 rfl ?_
   refine JO_nil ?_
   exact (show F196_1 K X _ _ from ⟨t0, true, _, hD, rfl, rfl, hP, H⟩)
 ·
  rintro e Mp ⟨t0_, t10_, M, hD, h0, h10, hP, H⟩
  unfold S196_1 at H
  refine JO_nil ?_
  refine J_cond (t := t10_) h10 (fun hc_ => ?_) (fun hc_ => ?_)
  ·
   replace H := H.1 hc_
   clear hc_
   refine J_seq ?_
   refine J_region (by decide) ?_
   refine JO_assign (v := .bool false) rfl ?_
   refine JO_nil ?_
   exact J_ret (kret (pan := X)  hD (fun _ _ hb => hP.sub hb) (resOk (rs := [.tmp 2]) (vs := [.bool false]) rfl ⟨item_tmp rfl, trivial⟩) ⟨false, rfl, H⟩)
  ·
   replace H := H.2 hc_
   clear hc_
   refine J_skip ?_
   refine J_seq ?_
   refine J_region (by decide) ?_
   refine JO_move (v := ptr t0_) h0 ?_
   obtain ⟨a7, g8, H⟩ := H
   refine JO_nilCheck (p := a7) (tr1 (rfl : _ = ptr t0_) (congrArg ptr g8)) ?_
   refine JO_fieldAddr (p := a7) fo_115_8 rfl ?_
   obtain ⟨t14_9, g10, H⟩ := H
   refine JO_load (p := (a7.1, a7.2 + 8)) (v := .int .i64 t14_9) na_3 rfl (hP.cel g10) ?_
   refine JO_iop (op := .add) (k := .i64) (a := t14_9) (b := 1) rfl rfl trivial ?_
   refine JO_nilCheck (p := a7) (tr1 (rfl : _ = ptr t0_) (congrArg ptr g8)) ?_
   refine JO_fieldAddr (p := a7) fo_115_8 rfl ?_
   obtain ⟨g11, H⟩ := H
   refine JO_store (p := (a7.1, a7.2 + 8)) (v := .int .i64 (IntKind.wrap .i64 (t14_9 + 1))) sz_3 rfl rfl rfl (hP.wr g11) ?_
   replace hP := hP.sto g11 (.int .i64 (IntKind.wrap .i64 (t14_9 + 1)))
   refine JO_nil ?_
   refine J_seqF (F196_2 K X) ?_ ?_
   ·
    refine J_seq ?_
    refine J_region (by decide) ?_
    refine JO_move (v := ptr t0_) h0 ?_
    refine JO_nilCheck (p := a7) (tr1 (rfl : _ = ptr t0_) (congrArg ptr g8)) ?_
    refine JO_fieldAddr (p := a7) fo_115_7 rfl ?_
    obtain ⟨t21_12, g13, H⟩ := H
    refine JO_load (p := (a7.1, a7.2 + 7)) (v := .int .i64 t21_12) na_3 rfl (hP.cel g13) ?_
    refine JO_iop (op := .eql) (k := .i64) (a := t21_12) (b := 0) rfl rfl trivial ?_
    refine JO_nil ?_
    refine J_cond (t := t21_12 == 0) rfl (fun hc_ => ?_) (fun hc_ => ?_)
    ·
     replace H := H.1 hc_
     clear hc_
     refine J_region (by decide) ?_
     refine JO_move (v := ptr t0_) h0 ?_
     refine JO_nilCheck (p := a7) (tr1 (rfl : _ = ptr t0_) (congrArg ptr g8)) ?_
     refine JO_fieldAddr (p := a7) fo_115_6 rfl ?_
     obtain ⟨g14, H⟩ := H
     refine JO_store (p := (a7.1, a7.2 + 6)) (v := .bool true) sz_4 rfl rfl rfl (hP.wr g14) ?_
     replace hP := hP.sto g14 (.bool true)
     refine JO_nil ?_
     exact (show F196_2 K X _ _ from ⟨t0_, _, hD, h0, hP, H⟩)
    ·
     replace H := H.2 hc_
     clear hc_
     refine J_skip ?_
     exact (show F196_2 K X _ _ from ⟨t0_, _, hD, h0, hP, H⟩)
   ·
    rintro e Mp ⟨t0_, M, hD, h0, hP, H⟩
    unfold S196_2 at H
    refine J_seq ?_
    refine J_region (by decide) ?_
    refine JO_move (v := ptr t0_) h0 ?_
    refine JO_move (v := ptr t0_) h0 ?_
    obtain ⟨a15, g16, H⟩ := H
    refine JO_nilCheck (p := a15) (tr1 (rfl : _ = ptr t0_) (congrArg ptr g16)) ?_
    refine JO_fieldAddr (p := a15) fo_115_7 rfl ?_
    obtain ⟨t30_17, g18, H⟩ := H
    refine JO_load (p := (a15.1, a15.2 + 7)) (v := .int .i64 t30_17) na_3 rfl (hP.cel g18) ?_
    refine JO_iop (op := .sub) (k := .i64) (a := t30_17) (b := 1) rfl rfl trivial ?_
    refine JO_max (k := .i64) (a := IntKind.wrap .i64 (t30_17 - 1)) (b := (-1)) rfl rfl ?_
    refine JO_nilCheck (p := a15) (tr1 (rfl : _ = ptr t0_) (congrArg ptr g16)) ?_
    refine JO_fieldAddr (p := a15) fo_115_7 rfl ?_
    obtain ⟨g19, H⟩ := H
    refine JO_store (p := (a15.1, a15.2 + 7)) (v := .int .i64 (if (-1) > IntKind.wrap .i64 (t30_17 - 1) then (-1) else IntKind.wrap .i64 (t30_17 - 1))) sz_3 rfl rfl rfl (hP.wr g19) ?_
    replace hP := hP.sto g19 (.int .i64 (if (-1) > IntKind.wrap .i64 (t30_17 - 1) then (-1) else IntKind.wrap .i64 (t30_17 - 1)))
    refine JO_nil ?_
    refine J_seq ?_
    refine J_region (by decide) ?_
    refine JO_move (v := ptr t0_) h0 ?_
    refine JO_nilCheck (p := a15) (tr1 (rfl : _ = ptr t0_) (congrArg ptr g16)) ?_
    refine JO_fieldAddr (p := a15) fo_115_6 rfl ?_
    obtain ⟨t38_20, g21, H⟩ := H
    refine JO_load (p := (a15.1, a15.2 + 6)) (v := .bool t38_20) na_4 rfl (hP.cel g21) ?_
    refine JO_not (b := t38_20) rfl ?_
    refine JO_assign (v := .bool (!t38_20)) rfl ?_
    refine JO_nil ?_
    exact J_ret (kret (pan := X)  hD (fun _ _ hb => hP.sub hb) (resOk (rs := [.tmp 2]) (vs := [.bool (!t38_20)]) rfl ⟨item_tmp rfl, trivial⟩) ⟨!t38_20, rfl, H⟩)

/-! brazier/word.Put -/
def S200 (t0 : Sl) (t1 : Int) (K : Sl → Mem → Prop) (X : List PanicEntry → Mem → Prop) : Mem → Prop :=
 must (0 ≤ (0 : Int) ∧ (0 : Int) ≤ (t0.n : Int) ∧ (t0.n : Int) ≤ (t0.n : Int) ∧ (t0.n : Int) ≤ (t0.c : Int)) <| new (.cells #[.int .u8 (IntKind.wrap .u8 (IntKind.wrap .u32 t1)), .int .u8 (IntKind.wrap .u8 (ishr .u32 (IntKind.wrap .u32 t1) 8)), .int .u8 (IntKind.wrap .u8 (ishr .u32 (IntKind.wrap .u32 t1) 16)), .int .u8 (IntKind.wrap .u8 (ishr .u32 (IntKind.wrap .u32 t1) 24))] 5 (0, 0)) fun b2 => appS 5 1 1 [.int .u8 0] (Sl.cut t0 1 (0 : Int) (t0.n : Int) (t0.n : Int)) (⟨some (b2, 0), 4, 4⟩ : Sl) fun x3 => K x3
theorem br200 {t0 : Sl} {t1 : Int} {K : Sl → Mem → Prop} {X : List PanicEntry → Mem → Prop} {M : Mem} (H : S200 t0 t1 K X M) :
  Spec Tryz.prog 200 #[Sl.v t0, .int .i32 t1] M (fun v_ M => ∃ (r0 : Sl), v_ = Sl.v r0 ∧ K r0 M) X := by
 refine spec_of_J (args := [Sl.v t0, .int .i32 t1]) Tryz.func200 rfl Tryz.ntmps200 (Nat.le_of_ble_eq_true rfl) ?_
 have hD : (⟨fun i => ([Sl.v t0, .int .i32 t1] : List Value).getD i undef, []⟩ : Env).D = [] := rfl
 have hP := Pv.nil M
 have hX := @kx_of Tryz.prog Tryz.f200 (fun v_ M => ∃ (r0 : Sl), v_ = Sl.v r0 ∧ K r0 M) X
 unfold S200 at H
 refine J_seq ?_
 refine J_region (by decide) ?_
 refine JO_assign (v := Sl.v (⟨none, 0, 0⟩ : Sl)) rfl ?_
 refine JO_nil ?_
 refine J_seq ?_
 refine J_region (by decide) ?_
 refine JO_move (v := .int .i32 t1) rfl ?_
 refine JO_convI (k := .i32) (k' := .u32) (n := t1) ul_301 (tt := .int .i32) ul_21 rfl ?_
 refine JO_assign (v := .int .u32 (IntKind.wrap .u32 t1)) rfl ?_
 refine JO_nil ?_
 refine J_seq ?_
 refine J_region (by decide) ?_
 refine JO_move (v := Sl.v t0) rfl ?_
 refine JO_move (v := Sl.v t0) rfl ?_
 refine JO_len (s := t0) is_32 rfl ?_
 refine JO_move (v := Sl.v t0) rfl ?_
 refine JO_len (s := t0) is_32 rfl ?_
 obtain ⟨g1, H⟩ := H
 refine JO_slice (s := t0) (l := (0 : Int)) (h := (t0.n : Int)) (m := (t0.n : Int)) es_32 rfl ⟨_, rfl⟩ ⟨_, rfl⟩ rfl g1.1 g1.2.1 (fun _ => g1.2.2.1) g1.2.2.2 (by simp) ?_
 refine JO_move (v := .int .u32 (IntKind.wrap .u32 t1)) rfl ?_
 refine JO_convI (k := .u32) (k' := .u8) (n := IntKind.wrap .u32 t1) ul_5 (tt := .int .u32) ul_301 rfl ?_
 refine JO_move (v := .int .u32 (IntKind.wrap .u32 t1)) rfl ?_
 refine JO_shift (op := .shr) (k := .u32) (a := IntKind.wrap .u32 t1) (b := 8) (.inr rfl) rfl rfl (by decide) ?_
 refine JO_convI (k := .u32) (k' := .u8) (n := ishr .u32 (IntKind.wrap .u32 t1) 8) ul_5 (tt := .int .u32) ul_301 rfl ?_
 refine JO_move (v := .int .u32 (IntKind.wrap .u32 t1)) rfl ?_
 refine JO_shift (op := .shr) (k := .u32) (a := IntKind.wrap .u32 t1) (b := 16) (.inr rfl) rfl rfl (by decide) ?_
 refine JO_convI (k := .u32) (k' := .u8) (n := ishr .u32 (IntKind.wrap .u32 t1) 16) ul_5 (tt := .int .u32) ul_301 rfl ?_
 refine JO_move (v := .int .u32 (IntKind.wrap .u32 t1)) rfl ?_
 refine JO_shift (op := .shr) (k := .u32) (a := IntKind.wrap .u32 t1) (b := 24) (.inr rfl) rfl rfl (by decide) ?_
 refine JO_convI (k := .u32) (k' := .u8) (n := ishr .u32 (IntKind.wrap .u32 t1) 24) ul_5 (tt := .int .u32) ul_301 rfl ?_
 refine JO_bsl (vs := [(0, .int .u8 (IntKind.wrap .u8 (IntKind.wrap .u32 t1))), (1, .int .u8 (IntKind.wrap .u8 (ishr .u32 (IntKind.wrap .u32 t1) 8))), (2, .int .u8 (IntKind.wrap .u8 (ishr .u32 (IntKind.wrap .u32 t1) 16))), (3, .int .u8 (IntKind.wrap .u8 (ishr .u32 (IntKind.wrap .u32 t1) 24)))]) (cs := [.int .u8 (IntKind.wrap .u8 (IntKind.wrap .u32 t1)), .int .u8 (IntKind.wrap .u8 (ishr .u32 (IntKind.wrap .u32 t1) 8)), .int .u8 (IntKind.wrap .u8 (ishr .u32 (IntKind.wrap .u32 t1) 16)), .int .u8 (IntKind.wrap .u8 (ishr .u32 (IntKind.wrap .u32 t1) 24))]) (c0 := [.int .u8 0, .int .u8 0, .int .u8 0, .int .u8 0]) ul_32 sz_5 zc_5 (by kernel_rfl) (by decide) (by decide) (mpc rfl (mpc rfl (mpc rfl (mpc rfl mpn)))) rfl ?_
 intro b2 hb
 replace H := H b2 (hP.out hb).1
 replace hP := hP.new hb (.cells #[.int .u8 (IntKind.wrap .u8 (IntKind.wrap .u32 t1)), .int .u8 (IntKind.wrap .u8 (ishr .u32 (IntKind.wrap .u32 t1) 8)), .int .u8 (IntKind.wrap .u8 (ishr .u32 (IntKind.wrap .u32 t1) 16)), .int .u8 (IntKind.wrap .u8 (ishr .u32 (IntKind.wrap .u32 t1) 24))] 5 (0, 0))
 refine JO_loud ((hP.opJ (OpJ_app (s := Sl.cut t0 1 (0 : Int) (t0.n : Int) (t0.n : Int)) (z := (⟨some (b2, 0), 4, 4⟩ : Sl)) ul_32 sb_5 zc_5 rfl rfl H)).mono (fun _ _ h => h) (fun _ _ ⟨_, _, f⟩ => f.elim)) ?_
 rintro _ Mp ⟨M, hP, x3, rfl, H⟩
 refine JO_assign (v := Sl.v x3) rfl ?_
 refine JO_nil ?_
 exact J_ret (kret (pan := X)  hD (fun _ _ hb => hP.sub hb) (resOk (rs := [.tmp 4]) (vs := [Sl.v x3]) rfl ⟨item_tmp rfl, trivial⟩) ⟨x3, rfl, H⟩)

/-! (*brazier/sets.Row[string, int]).Len -/
def S204 (t0 : Option PA) (K : Int → Mem → Prop) (X : List PanicEntry → Mem → Prop) : Mem → Prop :=
 ite' t0.isNone (K 0) (nn t0 fun a1 => ldL a1 fun t8_3 => K (t8_3.n : Int))
theorem br204 {t0 : Option PA} {K : Int → Mem → Prop} {X : List PanicEntry → Mem → Prop} {M : Mem} (H : S204 t0 K X M) :
  Spec Tryz.prog 204 #[ptr t0] M (fun v_ M => ∃ (r0 : Int), v_ = .int .i64 r0 ∧ K r0 M) X := by
 refine spec_of_J (args := [ptr t0]) Tryz.func204 rfl Tryz.ntmps204 (Nat.le_of_ble_eq_true rfl) ?_
 have hD : (⟨fun i => ([ptr t0] : List Value).getD i undef, []⟩ : Env).D = [] := rfl
 have hP := Pv.nil M
 have hX := @kx_of Tryz.prog Tryz.f204 (fun v_ M => ∃ (r0 : Int), v_ = .int .i64 r0 ∧ K r0 M) X
 unfold S204 at H
 refine J_seq ?_
 refine J_region (by decide) ?_
 refine JO_assign (v := .int .i64 0) rfl ?_
 refine JO_nil ?_
 refine J_seq ?_
 refine J_seq ?_
 refine J_region (by decide) ?_
 refine JO_move (v := ptr t0) rfl ?_
 refine JO_eqlNil (p := t0) ip_108 rfl rfl ?_
 refine JO_nil ?_
 refine J_cond (t := t0.isNone) rfl (fun hc_ => ?_) (fun hc_ => ?_)
 ·
  replace H := H.1 hc_
  clear hc_
  refine J_seq ?_
  refine J_region (by decide) ?_
  refine JO_assign (v := .int .i64 0) rfl ?_
  refine JO_nil ?_
  exact J_ret (kret (pan := X)  hD (fun _ _ hb => hP.sub hb) (resOk (rs := [.tmp 2]) (vs := [.int .i64 0]) rfl ⟨item_tmp rfl, trivial⟩) ⟨0, rfl, H⟩)
 ·
  replace H := H.2 hc_
  clear hc_
  refine J_skip ?_
  refine J_seq ?_
  refine J_region (by decide) ?_
  refine JO_move (v := ptr t0) rfl ?_
  obtain ⟨a1, g2, H⟩ := H
  refine JO_nilCheck (p := a1) (tr1 (rfl : _ = ptr t0) (congrArg ptr g2)) ?_
  refine JO_fieldAddr (p := a1) fo_111_0 rfl ?_
  obtain ⟨t8_3, g4, H⟩ := H
  refine JO_load (p := a1) (v := Sl.v t8_3) na_36 rfl (hP.cel g4) ?_
  refine JO_len (s := t8_3) is_36 rfl ?_
  refine JO_assign (v := .int .i64 (t8_3.n : Int)) rfl ?_
  refine JO_nil ?_
  exact J_ret (kret (pan := X)  hD (fun _ _ hb => hP.sub hb) (resOk (rs := [.tmp 2]) (vs := [.int .i64 (t8_3.n : Int)]) rfl ⟨item_tmp rfl, trivial⟩) ⟨(t8_3.n : Int), rfl, H⟩)

/-! brazier/wal.first -/
def S208_3 (t0_ : Sl) (t4_ : Int) (t31_ : Bool) (K : Sl → Bool → Mem → Prop) (X : List PanicEntry → Mem → Prop) : Mem → Prop :=
 ite' t31_ (K (⟨none, 0, 0⟩ : Sl) false) (call 284 [Sl.v t0_, .int .i64 (IntKind.wrap .i64 (4 + (IntKind.wrap .i64 t4_)))] X fun v_ M => ∃ (r8_0 : Int) (r8_1 : Bool), v_ = .tuple #[.int .i32 r8_0, .bool r8_1] ∧ ( must (0 ≤ (4 : Int) ∧ (4 : Int) ≤ IntKind.wrap .i64 (4 + (IntKind.wrap .i64 t4_)) ∧ IntKind.wrap .i64 (4 + (IntKind.wrap .i64 t4_)) ≤ IntKind.wrap .i64 (4 + (IntKind.wrap .i64 t4_)) ∧ IntKind.wrap .i64 (4 + (IntKind.wrap .i64 t4_)) ≤ (t0_.c : Int)) <| must (0 ≤ (0 : Int) ∧ (0 : Int) ≤ IntKind.wrap .i64 (4 + (IntKind.wrap .i64 t4_)) ∧ IntKind.wrap .i64 (4 + (IntKind.wrap .i64 t4_)) ≤ (t0_.c : Int) ∧ (t0_.c : Int) ≤ (t0_.c : Int)) <| callK 201 [Sl.v (Sl.cut t0_ 1 (0 : Int) (IntKind.wrap .i64 (4 + (IntKind.wrap .i64 t4_))) (t0_.c : Int))] fun v_ M => ∃ (r11 : Int), v_ = .int .u32 r11 ∧ ( K (Sl.cut t0_ 1 (4 : Int) (IntKind.wrap .i64 (4 + (IntKind.wrap .i64 t4_))) (IntKind.wrap .i64 (4 + (IntKind.wrap .i64 t4_)))) ((IntKind.wrap .u32 r8_0) == r11)) M) M)
def S208_2 (t0_ : Sl) (t4_ : Int) (t23_ : Bool) (K : Sl → Bool → Mem → Prop) (X : List PanicEntry → Mem → Prop) : Mem → Prop :=
 ite' t23_ (S208_3 t0_ t4_ true K X) (S208_3 t0_ t4_ (decide ((IntKind.wrap .i64 ((t0_.n : Int) - 8)) < (IntKind.wrap .i64 t4_))) K X)
def S208_1 (t0_ : Sl) (t4_ : Int) (t19_ : Bool) (K : Sl → Bool → Mem → Prop) (X : List PanicEntry → Mem → Prop) : Mem → Prop :=
 ite' t19_ (S208_2 t0_ t4_ true K X) (S208_2 t0_ t4_ (decide (t4_ > 65536)) K X)
def S208 (t0 : Sl) (K : Sl → Bool → Mem → Prop) (X : List PanicEntry → Mem → Prop) : Mem → Prop :=
 call 284 [Sl.v t0, .int .i64 0] X fun v_ M => ∃ (r1_0 : Int) (r1_1 : Bool), v_ = .tuple #[.int .i32 r1_0, .bool r1_1] ∧ ( ite' (!r1_1) (S208_1 t0 r1_0 true K X) (S208_1 t0 r1_0 (decide (r1_0 < 0)) K X)) M
abbrev F208_3 (K : Sl → Bool → Mem → Prop) (X : List PanicEntry → Mem → Prop) (e : Env) (Mp : Mem) : Prop := ∃ (t0_ : Sl) (t4_ : Int) (t31_ : Bool) (M : Mem), e.D = [] ∧ e.v 0 = Sl.v t0_ ∧ e.v 4 = .int .i32 t4_ ∧ e.v 31 = .bool t31_ ∧ Pv M [] Mp ∧ S208_3 t0_ t4_ t31_ K X M
abbrev F208_2 (K : Sl → Bool → Mem → Prop) (X : List PanicEntry → Mem → Prop) (e : Env) (Mp : Mem) : Prop := ∃ (t0_ : Sl) (t4_ : Int) (t23_ : Bool) (M : Mem), e.D = [] ∧ e.v 0 = Sl.v t0_ ∧ e.v 4 = .int .i32 t4_ ∧ e.v 23 = .bool t23_ ∧ Pv M [] Mp ∧ S208_2 t0_ t4_ t23_ K X M
abbrev F208_1 (K : Sl → Bool → Mem → Prop) (X : List PanicEntry → Mem → Prop) (e : Env) (Mp : Mem) : Prop := ∃ (t0_ : Sl) (t4_ : Int) (t19_ : Bool) (M : Mem), e.D = [] ∧ e.v 0 = Sl.v t0_ ∧ e.v 4 = .int .i32 t4_ ∧ e.v 19 = .bool t19_ ∧ Pv M [] Mp ∧ S208_1 t0_ t4_ t19_ K X M
theorem br208 {t0 : Sl} {K : Sl → Bool → Mem → Prop} {X : List PanicEntry → Mem → Prop} {M : Mem} (H : S208 t0 K X M) :
  Spec Tryz.prog 208 #[Sl.v t0] M (fun v_ M => ∃ (r0 : Sl) (r1 : Bool), v_ = .tuple #[Sl.v r0, .bool r1] ∧ K r0 r1 M) X := by
 refine spec_of_J (args := [Sl.v t0]) Tryz.func208 rfl Tryz.ntmps208 (Nat.le_of_ble_eq_true rfl) ?_
 have hD : (⟨fun i => ([Sl.v t0] : List Value).getD i undef, []⟩ : Env).D = [] := rfl
 have hP := Pv.nil M
 have hX := @kx_of Tryz.prog Tryz.f208 (fun v_ M => ∃ (r0 : Sl) (r1 : Bool), v_ = .tuple #[Sl.v r0, .bool r1] ∧ K r0 r1 M) X
 unfold S208 at H
 refine J_seq ?_
 refine J_region (by decide) ?_
 refine JO_assign (v := Sl.v (⟨none, 0, 0⟩ : Sl)) rfl ?_
 refine JO_assign (v := .bool false) rfl ?_
 refine JO_nil ?_
 refine J_seq ?_
 refine J_region (by decide) ?_
 refine JO_move (v := Sl.v t0) rfl ?_
 refine JO_call Tryz.call284 (vs := [Sl.v t0, .int .i64 0]) (mc rfl (mc rfl mn)) ((hP.spec H).mono ?_ (fun ch Mp h => hX hD h))
 rintro v Mp ⟨M, hP, r1_0, r1_1, rfl, H⟩
 refine JO_move (v := .tuple #[.int .i32 r1_0, .bool r1_1]) rfl ?_
 refine JO_extract (vs := #[.int .i32 r1_0, .bool r1_1]) (v := .int .i32 r1_0) rfl rfl ?_
 refine JO_extract (vs := #[.int .i32 r1_0, .bool r1_1]) (v := .bool r1_1) rfl rfl ?_
 refine JO_assign (v := .int .i32 r1_0) rfl ?_
 refine JO_assign (v := .bool r1_1) rfl ?_
 refine JO_nil ?_
 refine J_seq ?_
 refine J_seq ?_
 refine J_region (by decide) ?_
 refine JO_move (v := .bool r1_1) rfl ?_
 refine JO_not (b := r1_1) rfl ?_
 refine JO_move (v := .bool (!r1_1)) rfl ?_
 refine JO_cut 3 (F208_1 K X) ?_ ?_
 ·
  obtain ⟨H1, H2⟩ := H
  obtain hc_ | hc_ := ff_or_tt (!r1_1)
  ·
   replace H := H2 hc_
   clear H1 H2
   have hg2 := (congrArg Value.bool hc_ : Value.bool (!r1_1) = Value.bool false)
   refine JO_on (s := 16) hg2 ?_
   refine JO_move (v := .int .i32 r1_0) rfl ?_
   refine JO_on (s := 16) hg2 ?_
   refine JO_iop (op := .lss) (k := .i32) (a := r1_0) (b := 0) rfl rfl trivial ?_
   refine JO_pick (b := false) (v := .bool (decide (r1_0 < 0))) hg2 rfl ?_
   refine JO_nil ?_
   exact (show F208_1 K X _ _ from ⟨t0, r1_0, decide (r1_0 < 0), _, hD, rfl, rfl, rfl, hP, H⟩)
  ·
   replace H := H1 hc_
   clear H1 H2
   have hg3 := (congrArg Value.bool hc_ : Value.bool (!r1_1) = Value.bool true)
   refine JO_off (s := 16) (c := true) hg3 (by decide) ?_
   refine JO_off (s := 16) (c := true) hg3 (by decide) ?_
   refine JO_pick (b := true) (v := .bool true) hg3 rfl ?_
   refine JO_nil ?_
   exact (show F208_1 K X _ _ from ⟨t0, r1_0, true, _, hD, rfl, rfl, rfl, hP, H⟩)
 ·
  rintro e Mp ⟨t0_, t4_, t19_, M, hD, h0, h4, h19, hP, H⟩
  unfold S208_1 at H
  refine JO_move (v := .bool t19_) h19 ?_
  refine JO_cut 3 (F208_2 K X) ?_ ?_
  ·
   obtain ⟨H1, H2⟩ := H
   obtain hc_ | hc_ := ff_or_tt t19_
   ·
    replace H := H2 hc_
    clear H1 H2
    have hg4 := (congrArg Value.bool hc_ : Value.bool t19_ = Value.bool false)
    refine JO_on (s := 20) hg4 ?_
    refine JO_move (v := .int .i32 t4_) h4 ?_
    refine JO_on (s := 20) hg4 ?_
    refine JO_iop (op := .gtr) (k := .i32) (a := t4_) (b := 65536) rfl rfl trivial ?_
    refine JO_pick (b := false) (v := .bool (decide (t4_ > 65536))) hg4 rfl ?_
    refine JO_nil ?_
    exact (show F208_2 K X _ _ from ⟨t0_, t4_, decide (t4_ > 65536), _, hD, h0, h4, rfl, hP, H⟩)
   ·
    replace H := H1 hc_
    clear H1 H2
    have hg5 := (congrArg Value.bool hc_ : Value.bool t19_ = Value.bool true)
    refine JO_off (s := 20) (c := true) hg5 (by decide) ?_
    refine JO_off (s := 20) (c := true) hg5 (by decide) ?_
    refine JO_pick (b := true) (v := .bool true) hg5 rfl ?_
    refine JO_nil ?_
    exact (show F208_2 K X _ _ from ⟨t0_, t4_, true, _, hD, h0, h4, rfl, hP, H⟩)
  ·
   rintro e Mp ⟨t0_, t4_, t23_, M, hD, h0, h4, h23, hP, H⟩
   unfold S208_2 at H
   refine JO_move (v := .bool t23_) h23 ?_
   refine JO_cut 7 (F208_3 K X) ?_ ?_
   ·
    obtain ⟨H1, H2⟩ := H
    obtain hc_ | hc_ := ff_or_tt t23_
    ·
     replace H := H2 hc_
     clear H1 H2
     have hg6 := (congrArg Value.bool hc_ : Value.bool t23_ = Value.bool false)
     refine JO_on (s := 24) hg6 ?_
     refine JO_move (v := Sl.v t0_) h0 ?_
     refine JO_on (s := 24) hg6 ?_
     refine JO_len (s := t0_) is_32 rfl ?_
     refine JO_on (s := 24) hg6 ?_
     refine JO_iop (op := .sub) (k := .i64) (a := (t0_.n : Int)) (b := 8) rfl rfl trivial ?_
     refine JO_on (s := 24) hg6 ?_
     refine JO_move (v := .int .i32 t4_) h4 ?_
     refine JO_on (s := 24) hg6 ?_
     refine JO_convI (k := .i32) (k' := .i64) (n := t4_) ul_3 (tt := .int .i32) ul_21 rfl ?_
     refine JO_on (s := 24) hg6 ?_
     refine JO_iop (op := .lss) (k := .i64) (a := IntKind.wrap .i64 ((t0_.n : Int) - 8)) (b := IntKind.wrap .i64 t4_) rfl rfl trivial ?_
     refine JO_pick (b := false) (v := .bool (decide ((IntKind.wrap .i64 ((t0_.n : Int) - 8)) < (IntKind.wrap .i64 t4_)))) hg6 rfl ?_
     refine JO_nil ?_
     exact (show F208_3 K X _ _ from ⟨t0_, t4_, decide ((IntKind.wrap .i64 ((t0_.n : Int) - 8)) < (IntKind.wrap .i64 t4_)), _, hD, h0, h4, rfl, hP, H⟩)
    ·
     replace H := H1 hc_
     clear H1 H2
     have hg7 := (congrArg Value.bool hc_ : Value.bool t23_ = Value.bool true)
     refine JO_off (s := 24) (c := true) hg7 (by decide) ?_
     refine JO_off (s := 24) (c := true) hg7 (by decide) ?_
     refine JO_off (s := 24) (c := true) hg7 (by decide) ?_
     refine JO_off (s := 24) (c := true) hg7 (by decide) ?_
     refine JO_off (s := 24) (c := true) hg7 (by decide) ?_
     refine JO_off (s := 24) (c := true) hg7 (by decide) ?_
     refine JO_pick (b := true) (v := .bool true) hg7 rfl ?_
     refine JO_nil ?_
     exact (show F208_3 K X _ _ from ⟨t0_, t4_, true, _, hD, h0, h4, rfl, hP, H⟩)
   ·
    rintro e Mp ⟨t0_, t4_, t31_, M, hD, h0, h4, h31, hP, H⟩
    unfold S208_3 at H
    refine JO_nil ?_
    refine J_cond (t := t31_) h31 (fun hc_ => ?_) (fun hc_ => ?_)
    ·
     replace H := H.1 hc_
     clear hc_
     refine J_seq ?_
     refine J_region (by decide) ?_
     refine JO_assign (v := Sl.v (⟨none, 0, 0⟩ : Sl)) rfl ?_
     refine JO_assign (v := .bool false) rfl ?_
     refine JO_nil ?_
     exact J_ret (kret (pan := X)  hD (fun _ _ hb => hP.sub hb) (resOk (rs := [.tmp 2, .tmp 3]) (vs := [Sl.v (⟨none, 0, 0⟩ : Sl), .bool false]) rfl ⟨item_tmp rfl, item_tmp rfl, trivial⟩) ⟨(⟨none, 0, 0⟩ : Sl), false, rfl, H⟩)
    ·
     replace H := H.2 hc_
     clear hc_
     refine J_skip ?_
     refine J_seq ?_
     refine J_region (by decide) ?_
     refine JO_move (v := .int .i32 t4_) h4 ?_
     refine JO_convI (k := .i32) (k' := .i64) (n := t4_) ul_3 (tt := .int .i32) ul_21 rfl ?_
     refine JO_iop (op := .add) (k := .i64) (a := 4) (b := IntKind.wrap .i64 t4_) rfl rfl trivial ?_
     refine JO_assign (v := .int .i64 (IntKind.wrap .i64 (4 + (IntKind.wrap .i64 t4_)))) rfl ?_
     refine JO_nil ?_
     refine J_seq ?_
     refine J_region (by decide) ?_
     refine JO_move (v := Sl.v t0_) h0 ?_
     refine JO_move (v := .int .i64 (IntKind.wrap .i64 (4 + (IntKind.wrap .i64 t4_)))) rfl ?_
     refine JO_call Tryz.call284 (vs := [Sl.v t0_, .int .i64 (IntKind.wrap .i64 (4 + (IntKind.wrap .i64 t4_)))]) (mc rfl (mc rfl mn)) ((hP.spec H).mono ?_ (fun ch Mp h => hX hD h))
     rintro v Mp ⟨M, hP, r8_0, r8_1, rfl, H⟩
     refine JO_move (v := .tuple #[.int .i32 r8_0, .bool r8_1]) rfl ?_
     refine JO_extract (vs := #[.int .i32 r8_0, .bool r8_1]) (v := .int .i32 r8_0) rfl rfl ?_
     refine JO_extract (vs := #[.int .i32 r8_0, .bool r8_1]) (v := .bool r8_1) rfl rfl ?_
     refine JO_assign (v := .int .i32 r8_0) rfl ?_
     refine JO_assign (v := .bool r8_1) rfl ?_
     refine JO_nil ?_
     refine J_seq ?_
     refine J_draw [0, 0, 0, 0, 0, 0, 0, 0, 0, 4, 0, 0, 0] (.cho 0 (.cho 1 (.cho 2 (.cho 3 (.cho 4 (.cho 5 (.cho 6 (.cho 7 (.cho 8 (.cho 9 (.cho 10 (.cho 11 (.cho 12 .done .none) .none) .none) .none) .none) .none) .none) .none) .none) .none) .none) .none) .none) rfl (by kernel_rfl) ?_
     refine JE_one ?_
     refine ST0 (fun _ h => by cases h) (fun w => OV_move (v := Sl.v t0_) (by exact h0) w) ?_
     refine JE_one ?_
     refine ST0 (fun _ h => by cases h) (fun w => OV_move (v := .int .i64 (IntKind.wrap .i64 (4 + (IntKind.wrap .i64 t4_)))) rfl w) ?_
     refine JE_one ?_
     refine ST0 (fun _ h => by cases h) (fun w => OV_move (v := .int .i64 (IntKind.wrap .i64 (4 + (IntKind.wrap .i64 t4_)))) rfl w) ?_
     refine JE_one ?_
     obtain ⟨g9, H⟩ := H
     refine ST0 (fun _ h => by cases h) (fun w => OV_slice (s := t0_) (l := (4 : Int)) (h := IntKind.wrap .i64 (4 + (IntKind.wrap .i64 t4_))) (m := IntKind.wrap .i64 (4 + (IntKind.wrap .i64 t4_))) es_32 rfl (by exact ⟨_, rfl⟩) (by exact ⟨_, rfl⟩) (by exact ⟨_, rfl⟩) g9.1 g9.2.1 (fun _ => g9.2.2.1) g9.2.2.2 (by simp) w) ?_
     refine JE_one ?_
     refine ST0 (fun _ h => by cases h) (fun w => OV_move (v := .int .i32 r8_0) rfl w) ?_
     refine JE_one ?_
     refine ST0 (fun _ h => by cases h) (fun w => OV_convI (k := .i32) (k' := .u32) (n := r8_0) ul_301 (tt := .int .i32) ul_21 rfl w) ?_
     refine JE_one ?_
     refine ST0 (fun _ h => by cases h) (fun w => OV_move (v := Sl.v t0_) (by exact h0) w) ?_
     refine JE_one ?_
     refine ST0 (fun _ h => by cases h) (fun w => OV_move (v := .int .i64 (IntKind.wrap .i64 (4 + (IntKind.wrap .i64 t4_)))) rfl w) ?_
     refine JE_one ?_
     obtain ⟨g10, H⟩ := H
     refine ST0 (fun _ h => by cases h) (fun w => OV_slice (s := t0_) (l := (0 : Int)) (h := IntKind.wrap .i64 (4 + (IntKind.wrap .i64 t4_))) (m := (t0_.c : Int)) es_32 rfl (by exact rfl) (by exact ⟨_, rfl⟩) (by exact rfl) g10.1 g10.2.1 (fun _ => g10.2.2.1) g10.2.2.2 (by simp) w) ?_
     refine JE_one ?_
     refine ST4 ?_
     refine JO_call Tryz.call201 (vs := [Sl.v (Sl.cut t0_ 1 (0 : Int) (IntKind.wrap .i64 (4 + (IntKind.wrap .i64 t4_))) (t0_.c : Int))]) (mc rfl mn) ((hP.specK H).mono ?_ (fun _ _ ⟨_, _, f⟩ => f.elim))
     rintro rv_ Mp ⟨M, hP', hk_, r11, rfl, H⟩
     refine Kd_nil ?_
     refine And.intro hk_ ?_
     replace hP := hP'
     refine JE_one ?_
     refine ST0 (fun _ h => by cases h) (fun w => OV_iop (op := .eql) (k := .u32) (a := IntKind.wrap .u32 r8_0) (b := r11) rfl rfl trivial w) ?_
     refine JE_one ?_
     refine ST0 (fun _ h => by cases h) (fun w => OV_assign (v := Sl.v (Sl.cut t0_ 1 (4 : Int) (IntKind.wrap .i64 (4 + (IntKind.wrap .i64 t4_))) (IntKind.wrap .i64 (4 + (IntKind.wrap .i64 t4_))))) rfl w) ?_
     refine JE_one ?_
     refine ST0 (fun _ h => by cases h) (fun w => OV_assign (v := .bool ((IntKind.wrap .u32 r8_0) == r11)) rfl w) ?_
     refine JE_done ?_
     exact J_ret (kret (pan := X)  hD (fun _ _ hb => hP.sub hb) (resOk (rs := [.tmp 2, .tmp 3]) (vs := [Sl.v (Sl.cut t0_ 1 (4 : Int) (IntKind.wrap .i64 (4 + (IntKind.wrap .i64 t4_))) (IntKind.wrap .i64 (4 + (IntKind.wrap .i64 t4_)))), .bool ((IntKind.wrap .u32 r8_0) == r11)]) rfl ⟨item_tmp rfl, item_tmp rfl, trivial⟩) ⟨Sl.cut t0_ 1 (4 : Int) (IntKind.wrap .i64 (4 + (IntKind.wrap .i64 t4_))) (IntKind.wrap .i64 (4 + (IntKind.wrap .i64 t4_))), (IntKind.wrap .u32 r8_0) == r11, rfl, H⟩)

/-! brazier/word.Hex -/
def S278_1 (t3_ : Sl) (K : ByteArray → Mem → Prop) (X : List PanicEntry → Mem → Prop) : Mem → Prop :=
 b2s t3_ fun x14 => K x14
def S278_2b (t10_ : Sl) (t11_ : Int) (K : ByteArray → Mem → Prop) (X : List PanicEntry → Mem → Prop) (t3_ : Sl) (t12_ : Int) (next2 : (Sl × Int) → Mem → Prop) : Mem → Prop :=
 ite' (decide (t12_ < t11_)) (ix t10_ 1 t12_ fun p7 => ldI .u8 p7 fun t15_8 => call 330 [.int .u8 (ishr .u8 t15_8 4)] X fun v_ M => ∃ (r10 : Int), v_ = .int .u8 r10 ∧ ( call 330 [.int .u8 (iand .u8 t15_8 15)] X fun v_ M => ∃ (r11 : Int), v_ = .int .u8 r11 ∧ ( new (.cells #[.int .u8 r10, .int .u8 r11] 5 (0, 0)) fun b12 => appS 5 1 1 [.int .u8 0] t3_ (⟨some (b12, 0), 2, 2⟩ : Sl) fun x13 => next2 (x13, IntKind.wrap .i64 (t12_ + 1))) M) M) (S278_1 t3_ K X)
def S278_2 (t3_ : Sl) (t10_ : Sl) (t11_ : Int) (t12_ : Int) (K : ByteArray → Mem → Prop) (X : List PanicEntry → Mem → Prop) : Mem → Prop :=
 Lp (fun (s_ : (Sl × Int)) next2 => S278_2b t10_ t11_ K X s_.1 s_.2 next2) (t3_, t12_)
def S278 (t0 : Sl) (K : ByteArray → Mem → Prop) (X : List PanicEntry → Mem → Prop) : Mem → Prop :=
 must (0 ≤ (0 : Int) ∧ (0 : Int) ≤ (IntKind.wrap .i64 (2 * (t0.n : Int)) : Int) ∧ 1 * (IntKind.wrap .i64 (2 * (t0.n : Int)) : Int) ≤ 281474976710656 ∧ (IntKind.wrap .i64 (2 * (t0.n : Int)) : Int) ≤ 9223372036854775807) <| new (.cells (madeCells #[.int .u8 0] ((IntKind.wrap .i64 (2 * (t0.n : Int)) : Int).toNat * 1)) 5 (0, 0)) fun b2 => S278_2 (⟨some (b2, 0), (0 : Int).toNat, (IntKind.wrap .i64 (2 * (t0.n : Int)) : Int).toNat⟩ : Sl) t0 (t0.n : Int) 0 K X
abbrev F278_2 (K : ByteArray → Mem → Prop) (X : List PanicEntry → Mem → Prop) (e : Env) (Mp : Mem) : Prop := ∃ (t3_ : Sl) (t10_ : Sl) (t11_ : Int) (t12_ : Int) (M : Mem), e.D = [] ∧ e.v 3 = Sl.v t3_ ∧ e.v 10 = Sl.v t10_ ∧ e.v 11 = .int .i64 t11_ ∧ e.v 12 = .int .i64 t12_ ∧ Pv M [] Mp ∧ S278_2 t3_ t10_ t11_ t12_ K X M
abbrev F278_1 (K : ByteArray → Mem → Prop) (X : List PanicEntry → Mem → Prop) (e : Env) (Mp : Mem) : Prop := ∃ (t3_ : Sl) (M : Mem), e.D = [] ∧ e.v 3 = Sl.v t3_ ∧ Pv M [] Mp ∧ S278_1 t3_ K X M
theorem br278 {t0 : Sl} {K : ByteArray → Mem → Prop} {X : List PanicEntry → Mem → Prop} {M : Mem} (H : S278 t0 K X M) :
  Spec Tryz.prog 278 #[Sl.v t0] M (fun v_ M => ∃ (r0 : ByteArray), v_ = .string r0 ∧ K r0 M) X := by
 refine spec_of_J (args := [Sl.v t0]) Tryz.func278 rfl Tryz.ntmps278 (Nat.le_of_ble_eq_true rfl) ?_
 have hD : (⟨fun i => ([Sl.v t0] : List Value).getD i undef, []⟩ : Env).D = [] := rfl
 have hP := Pv.nil M
 have hX := @kx_of Tryz.prog Tryz.f278 (fun v_ M => ∃ (r0 : ByteArray), v_ = .string r0 ∧ K r0 M) X
 unfold S278 at H
 refine J_seq ?_
 refine J_region (by decide) ?_
 refine JO_assign (v := .string (⟨#[]⟩ : ByteArray)) rfl ?_
 refine JO_nil ?_
 refine J_seq ?_
 refine J_region (by decide) ?_
 refine JO_move (v := Sl.v t0) rfl ?_
 refine JO_len (s := t0) is_32 rfl ?_
 refine JO_iop (op := .mul) (k := .i64) (a := 2) (b := (t0.n : Int)) rfl rfl trivial ?_
 obtain ⟨g1, H⟩ := H
 refine JO_make (l := 0) (c := IntKind.wrap .i64 (2 * (t0.n : Int))) ul_32 sb_5 zc_5 rfl rfl g1.1 g1.2.1 g1.2.2.1 g1.2.2.2 ?_
 intro b2 hb
 replace H := H b2 (hP.out hb).1
 replace hP := hP.new hb (.cells (madeCells #[.int .u8 0] ((IntKind.wrap .i64 (2 * (t0.n : Int)) : Int).toNat * 1)) 5 (0, 0))
 refine JO_assign (v := Sl.v (⟨some (b2, 0), (0 : Int).toNat, (IntKind.wrap .i64 (2 * (t0.n : Int)) : Int).toNat⟩ : Sl)) rfl ?_
 refine JO_nil ?_
 refine J_seq ?_
 refine J_seq ?_
 refine J_region (by decide) ?_
 refine JO_move (v := Sl.v t0) rfl ?_
 refine JO_len (s := t0) is_32 rfl ?_
 refine JO_move (v := .int .i64 0) rfl ?_
 refine JO_nil ?_
 refine J_blockF (F278_1 K X) ?_ ?_
 ·
  refine J_of (F278_2 K X) (show F278_2 K X _ _ from ⟨(⟨some (b2, 0), (0 : Int).toNat, (IntKind.wrap .i64 (2 * (t0.n : Int)) : Int).toNat⟩ : Sl), t0, (t0.n : Int), 0, _, hD, rfl, rfl, rfl, rfl, hP, H⟩) ?_
  rintro e Mp ⟨t3_, t10_, t11_, t12_, M, hD, h3, h10, h11, h12, hP, H⟩
  unfold S278_2 at H
  refine J_loopP (σ := (Sl × Int)) (body := fun (s_ : (Sl × Int)) next2 => S278_2b t10_ t11_ K X s_.1 s_.2 next2) (s := (t3_, t12_)) (M := M) (fun (s_ : (Sl × Int)) (e : Env) (M Mp : Mem) => e.D = [] ∧ e.v 3 = Sl.v s_.1 ∧ e.v 10 = Sl.v t10_ ∧ e.v 11 = .int .i64 t11_ ∧ e.v 12 = .int .i64 s_.2 ∧ Pv M [] Mp) ?_ ⟨hD, h3, h10, h11, h12, hP⟩ H
  rintro next2 ⟨t3_, t12_⟩ e M Mp ⟨hD, h3, h10, h11, h12, hP⟩ H
  replace H : S278_2b t10_ t11_ K X t3_ t12_ next2 M := H
  unfold S278_2b at H
  refine J_seq ?_
  refine J_region (by decide) ?_
  refine JO_iop (op := .lss) (k := .i64) (a := t12_) (b := t11_) h12 h11 trivial ?_
  refine JO_nil ?_
  refine J_seq ?_
  refine J_cond (t := decide (t12_ < t11_)) rfl (fun hc_ => ?_) (fun hc_ => ?_)
  ·
   replace H := H.1 hc_
   clear hc_
   refine J_skip ?_
   refine J_seq ?_
   refine J_block ?_
   refine J_seq ?_
   refine J_region (by decide) ?_
   obtain ⟨a3, g4, g5, g6, H⟩ := H
   refine JO_indexAddr (s := t10_) (p := a3) (i := t12_) es_32 h10 h12 g4 g5 g6 ?_
   obtain ⟨p7, hq_⟩ : ∃ q : PA, q = (a3.1, a3.2 + (t12_ : Int).toNat * 1) := ⟨_, rfl⟩; rw [← hq_] at H ⊢; clear hq_
   obtain ⟨t15_8, g9, H⟩ := H
   refine JO_load (p := p7) (v := .int .u8 t15_8) na_5 rfl (hP.cel g9) ?_
   refine JO_assign (v := .int .u8 t15_8) rfl ?_
   refine JO_nil ?_
   refine J_region (by decide) ?_
   refine JO_move (v := Sl.v t3_) h3 ?_
   refine JO_move (v := .int .u8 t15_8) rfl ?_
   refine JO_shift (op := .shr) (k := .u8) (a := t15_8) (b := 4) (.inr rfl) rfl rfl (by decide) ?_
   refine JO_call Tryz.call330 (vs := [.int .u8 (ishr .u8 t15_8 4)]) (mc rfl mn) ((hP.spec H).mono ?_ (fun ch Mp h => hX hD h))
   rintro v Mp ⟨M, hP, r10, rfl, H⟩
   refine JO_move (v := .int .u8 t15_8) rfl ?_
   refine JO_iop (op := .and) (k := .u8) (a := t15_8) (b := 15) rfl rfl trivial ?_
   refine JO_call Tryz.call330 (vs := [.int .u8 (iand .u8 t15_8 15)]) (mc rfl mn) ((hP.spec H).mono ?_ (fun ch Mp h => hX hD h))
   rintro v Mp ⟨M, hP, r11, rfl, H⟩
   refine JO_bsl (vs := [(0, .int .u8 r10), (1, .int .u8 r11)]) (cs := [.int .u8 r10, .int .u8 r11]) (c0 := [.int .u8 0, .int .u8 0]) ul_32 sz_5 zc_5 (by kernel_rfl) (by decide) (by decide) (mpc rfl (mpc rfl mpn)) rfl ?_
   intro b12 hb
   replace H := H b12 (hP.out hb).1
   replace hP := hP.new hb (.cells #[.int .u8 r10, .int .u8 r11] 5 (0, 0))
   refine JO_loud ((hP.opJ (OpJ_app (s := t3_) (z := (⟨some (b12, 0), 2, 2⟩ : Sl)) ul_32 sb_5 zc_5 rfl rfl H)).mono (fun _ _ h => h) (fun _ _ ⟨_, _, f⟩ => f.elim)) ?_
   rintro _ Mp ⟨M, hP, x13, rfl, H⟩
   refine JO_assign (v := Sl.v x13) rfl ?_
   refine JO_nil ?_
   refine J_region (by decide) ?_
   refine JO_iop (op := .add) (k := .i64) (a := t12_) (b := 1) h12 rfl trivial ?_
   refine JO_move (v := .int .i64 (IntKind.wrap .i64 (t12_ + 1))) rfl ?_
   refine JO_nil ?_
   exact ⟨(x13, IntKind.wrap .i64 (t12_ + 1)), _, ⟨hD, rfl, h10, h11, rfl, hP⟩, H⟩
  ·
   replace H := H.2 hc_
   clear hc_
   refine J_exit ?_
   exact (show F278_1 K X _ _ from ⟨t3_, _, hD, h3, hP, H⟩)
 ·
  rintro e Mp ⟨t3_, M, hD, h3, hP, H⟩
  unfold S278_1 at H
  refine J_seq ?_
  refine J_region (by decide) ?_
  refine JO_move (v := Sl.v t3_) h3 ?_
  obtain ⟨x14, g15, g16, H⟩ := H
  refine JO_b2s (s := t3_) (b := x14) ul_32 ul_5 ul_9 rfl (hP.rdc g15) g16 ?_
  refine JO_assign (v := .string x14) rfl ?_
  refine JO_nil ?_
  exact J_ret (kret (pan := X)  hD (fun _ _ hb => hP.sub hb) (resOk (rs := [.tmp 2]) (vs := [.string x14]) rfl ⟨item_tmp rfl, trivial⟩) ⟨x14, rfl, H⟩)

/-! brazier/digest.More -/
def S282_3 (t5_ : Int) (t12_ : Int) (t10_ : Sl) (t11_ : Int) (K : Int → Mem → Prop) (X : List PanicEntry → Mem → Prop) (next2 : (Int × Int) → Mem → Prop) : Mem → Prop :=
 next2 (t5_, IntKind.wrap .i64 (t12_ + 1))
def S282_4b (t12_ : Int) (t10_ : Sl) (t11_ : Int) (K : Int → Mem → Prop) (X : List PanicEntry → Mem → Prop) (next2 : (Int × Int) → Mem → Prop) (t5_ : Int) (t20_ : Int) (next4 : (Int × Int) → Mem → Prop) : Mem → Prop :=
 ite' (decide (t20_ < 8)) (next4 (ixor .u32 (ishr .u32 t5_ 1) (iand .u32 3988292384 (IntKind.wrap .u32 (0 - (iand .u32 t5_ 1)))), IntKind.wrap .i64 (t20_ + 1))) (S282_3 t5_ t12_ t10_ t11_ K X next2)
def S282_4 (t5_ : Int) (t12_ : Int) (t20_ : Int) (t10_ : Sl) (t11_ : Int) (K : Int → Mem → Prop) (X : List PanicEntry → Mem → Prop) (next2 : (Int × Int) → Mem → Prop) : Mem → Prop :=
 Lp (fun (s_ : (Int × Int)) next4 => S282_4b t12_ t10_ t11_ K X next2 s_.1 s_.2 next4) (t5_, t20_)
def S282_1 (t5_ : Int) (K : Int → Mem → Prop) (X : List PanicEntry → Mem → Prop) : Mem → Prop :=
 K (inot .u32 t5_)
def S282_2b (t10_ : Sl) (t11_ : Int) (K : Int → Mem → Prop) (X : List PanicEntry → Mem → Prop) (t5_ : Int) (t12_ : Int) (next2 : (Int × Int) → Mem → Prop) : Mem → Prop :=
 ite' (decide (t12_ < t11_)) (ix t10_ 1 t12_ fun p5 => ldI .u8 p5 fun t15_6 => S282_4 (ixor .u32 t5_ (IntKind.wrap .u32 t15_6)) t12_ 0 t10_ t11_ K X next2) (S282_1 t5_ K X)
def S282_2 (t5_ : Int) (t10_ : Sl) (t11_ : Int) (t12_ : Int) (K : Int → Mem → Prop) (X : List PanicEntry → Mem → Prop) : Mem → Prop :=
 Lp (fun (s_ : (Int × Int)) next2 => S282_2b t10_ t11_ K X s_.1 s_.2 next2) (t5_, t12_)
def S282 (t0 : Int) (t1 : Sl) (K : Int → Mem → Prop) (X : List PanicEntry → Mem → Prop) : Mem → Prop :=
 S282_2 (inot .u32 t0) t1 (t1.n : Int) 0 K X
abbrev F282_4 (t10_ : Sl) (t11_ : Int) (K : Int → Mem → Prop) (X : List PanicEntry → Mem → Prop) (next2 : (Int × Int) → Mem → Prop) (e : Env) (Mp : Mem) : Prop := ∃ (t5_ : Int) (t12_ : Int) (t20_ : Int) (M : Mem), e.D = [] ∧ e.v 5 = .int .u32 t5_ ∧ e.v 10 = Sl.v t10_ ∧ e.v 11 = .int .i64 t11_ ∧ e.v 12 = .int .i64 t12_ ∧ e.v 20 = .int .i64 t20_ ∧ Pv M [] Mp ∧ S282_4 t5_ t12_ t20_ t10_ t11_ K X next2 M
abbrev F282_3 (t10_ : Sl) (t11_ : Int) (K : Int → Mem → Prop) (X : List PanicEntry → Mem → Prop) (next2 : (Int × Int) → Mem → Prop) (e : Env) (Mp : Mem) : Prop := ∃ (t5_ : Int) (t12_ : Int) (M : Mem), e.D = [] ∧ e.v 5 = .int .u32 t5_ ∧ e.v 10 = Sl.v t10_ ∧ e.v 11 = .int .i64 t11_ ∧ e.v 12 = .int .i64 t12_ ∧ Pv M [] Mp ∧ S282_3 t5_ t12_ t10_ t11_ K X next2 M
abbrev F282_2 (K : Int → Mem → Prop) (X : List PanicEntry → Mem → Prop) (e : Env) (Mp : Mem) : Prop := ∃ (t5_ : Int) (t10_ : Sl) (t11_ : Int) (t12_ : Int) (M : Mem), e.D = [] ∧ e.v 5 = .int .u32 t5_ ∧ e.v 10 = Sl.v t10_ ∧ e.v 11 = .int .i64 t11_ ∧ e.v 12 = .int .i64 t12_ ∧ Pv M [] Mp ∧ S282_2 t5_ t10_ t11_ t12_ K X M
abbrev F282_1 (K : Int → Mem → Prop) (X : List PanicEntry → Mem → Prop) (e : Env) (Mp : Mem) : Prop := ∃ (t5_ : Int) (M : Mem), e.D = [] ∧ e.v 5 = .int .u32 t5_ ∧ Pv M [] Mp ∧ S282_1 t5_ K X M
theorem br282 {t0 : Int} {t1 : Sl} {K : Int → Mem → Prop} {X : List PanicEntry → Mem → Prop} {M : Mem} (H : S282 t0 t1 K X M) :
  Spec Tryz.prog 282 #[.int .u32 t0, Sl.v t1] M (fun v_ M => ∃ (r0 : Int), v_ = .int .u32 r0 ∧ K r0 M) X := by
 refine spec_of_J (args := [.int .u32 t0, Sl.v t1]) Tryz.func282 rfl Tryz.ntmps282 (Nat.le_of_ble_eq_true rfl) ?_
 have hD : (⟨fun i => ([.int .u32 t0, Sl.v t1] : List Value).getD i undef, []⟩ : Env).D = [] := rfl
 have hP := Pv.nil M
 have hX := @kx_of Tryz.prog Tryz.f282 (fun v_ M => ∃ (r0 : Int), v_ = .int .u32 r0 ∧ K r0 M) X
 unfold S282 at H
 refine J_seq ?_
 refine J_region (by decide) ?_
 refine JO_assign (v := .int .u32 0) rfl ?_
 refine JO_nil ?_
 refine J_seq ?_
 refine J_region (by decide) ?_
 refine JO_move (v := .int .u32 t0) rfl ?_
 refine JO_xor1 (k := .u32) (a := t0) rfl ?_
 refine JO_assign (v := .int .u32 (inot .u32 t0)) rfl ?_
 refine JO_nil ?_
 refine J_seq ?_
 refine J_seq ?_
 refine J_region (by decide) ?_
 refine JO_move (v := Sl.v t1) rfl ?_
 refine JO_len (s := t1) is_32 rfl ?_
 refine JO_move (v := .int .i64 0) rfl ?_
 refine JO_nil ?_
 refine J_blockF (F282_1 K X) ?_ ?_
 ·
  refine J_of (F282_2 K X) (show F282_2 K X _ _ from ⟨inot .u32 t0, t1, (t1.n : Int), 0, _, hD, rfl, rfl, rfl, rfl, hP, H⟩) ?_
  rintro e Mp ⟨t5_, t10_, t11_, t12_, M, hD, h5, h10, h11, h12, hP, H⟩
  unfold S282_2 at H
  refine J_loopP (σ := (Int × Int)) (body := fun (s_ : (Int × Int)) next2 => S282_2b t10_ t11_ K X s_.1 s_.2 next2) (s := (t5_, t12_)) (M := M) (fun (s_ : (Int × Int)) (e : Env) (M Mp : Mem) => e.D = [] ∧ e.v 5 = .int .u32 s_.1 ∧ e.v 10 = Sl.v t10_ ∧ e.v 11 = .int .i64 t11_ ∧ e.v 12 = .int .i64 s_.2 ∧ Pv M [] Mp) ?_ ⟨hD, h5, h10, h11, h12, hP⟩ H
  rintro next2 ⟨t5_, t12_⟩ e M Mp ⟨hD, h5, h10, h11, h12, hP⟩ H
  replace H : S282_2b t10_ t11_ K X t5_ t12_ next2 M := H
  unfold S282_2b at H
  refine J_seq ?_
  refine J_region (by decide) ?_
  refine JO_iop (op := .lss) (k := .i64) (a := t12_) (b := t11_) h12 h11 trivial ?_
  refine JO_nil ?_
  refine J_seq ?_
  refine J_cond (t := decide (t12_ < t11_)) rfl (fun hc_ => ?_) (fun hc_ => ?_)
  ·
   replace H := H.1 hc_
   clear hc_
   refine J_skip ?_
   refine J_seq ?_
   refine J_block ?_
   refine J_seq ?_
   refine J_region (by decide) ?_
   obtain ⟨a1, g2, g3, g4, H⟩ := H
   refine JO_indexAddr (s := t10_) (p := a1) (i := t12_) es_32 h10 h12 g2 g3 g4 ?_
   obtain ⟨p5, hq_⟩ : ∃ q : PA, q = (a1.1, a1.2 + (t12_ : Int).toNat * 1) := ⟨_, rfl⟩; rw [← hq_] at H ⊢; clear hq_
   obtain ⟨t15_6, g7, H⟩ := H
   refine JO_load (p := p5) (v := .int .u8 t15_6) na_5 rfl (hP.cel g7) ?_
   refine JO_assign (v := .int .u8 t15_6) rfl ?_
   refine JO_nil ?_
   refine J_seq ?_
   refine J_region (by decide) ?_
   refine JO_move (v := .int .u32 t5_) h5 ?_
   refine JO_move (v := .int .u8 t15_6) rfl ?_
   refine JO_convI (k := .u8) (k' := .u32) (n := t15_6) ul_301 (tt := .int .u8) ul_5 rfl ?_
   refine JO_iop (op := .xor) (k := .u32) (a := t5_) (b := IntKind.wrap .u32 t15_6) rfl rfl trivial ?_
   refine JO_assign (v := .int .u32 (ixor .u32 t5_ (IntKind.wrap .u32 t15_6))) rfl ?_
   refine JO_nil ?_
   refine J_seq ?_
   refine J_region (by decide) ?_
   refine JO_move (v := .int .i64 0) rfl ?_
   refine JO_nil ?_
   refine J_blockF (F282_3 t10_ t11_ K X next2) ?_ ?_
   ·
    refine J_of (F282_4 t10_ t11_ K X next2) (show F282_4 t10_ t11_ K X next2 _ _ from ⟨ixor .u32 t5_ (IntKind.wrap .u32 t15_6), t12_, 0, _, hD, rfl, h10, h11, h12, rfl, hP, H⟩) ?_
    rintro e Mp ⟨t5_, t12_, t20_, M, hD, h5, h10, h11, h12, h20, hP, H⟩
    unfold S282_4 at H
    refine J_loopP (σ := (Int × Int)) (body := fun (s_ : (Int × Int)) next4 => S282_4b t12_ t10_ t11_ K X next2 s_.1 s_.2 next4) (s := (t5_, t20_)) (M := M) (fun (s_ : (Int × Int)) (e : Env) (M Mp : Mem) => e.D = [] ∧ e.v 5 = .int .u32 s_.1 ∧ e.v 10 = Sl.v t10_ ∧ e.v 11 = .int .i64 t11_ ∧ e.v 12 = .int .i64 t12_ ∧ e.v 20 = .int .i64 s_.2 ∧ Pv M [] Mp) ?_ ⟨hD, h5, h10, h11, h12, h20, hP⟩ H
    rintro next4 ⟨t5_, t20_⟩ e M Mp ⟨hD, h5, h10, h11, h12, h20, hP⟩ H
    replace H : S282_4b t12_ t10_ t11_ K X next2 t5_ t20_ next4 M := H
    unfold S282_4b at H
    refine J_seq ?_
    refine J_region (by decide) ?_
    refine JO_iop (op := .lss) (k := .i64) (a := t20_) (b := 8) h20 rfl trivial ?_
    refine JO_nil ?_
    refine J_seq ?_
    refine J_cond (t := decide (t20_ < 8)) rfl (fun hc_ => ?_) (fun hc_ => ?_)
    ·
     replace H := H.1 hc_
     clear hc_
     refine J_skip ?_
     refine J_seq ?_
     refine J_block ?_
     refine J_region (by decide) ?_
     refine JO_move (v := .int .u32 t5_) h5 ?_
     refine JO_shift (op := .shr) (k := .u32) (a := t5_) (b := 1) (.inr rfl) rfl rfl (by decide) ?_
     refine JO_move (v := .int .u32 t5_) h5 ?_
     refine JO_iop (op := .and) (k := .u32) (a := t5_) (b := 1) rfl rfl trivial ?_
     refine JO_neg (k := .u32) (a := iand .u32 t5_ 1) rfl ?_
     refine JO_iop (op := .and) (k := .u32) (a := 3988292384) (b := IntKind.wrap .u32 (0 - (iand .u32 t5_ 1))) rfl rfl trivial ?_
     refine JO_iop (op := .xor) (k := .u32) (a := ishr .u32 t5_ 1) (b := iand .u32 3988292384 (IntKind.wrap .u32 (0 - (iand .u32 t5_ 1)))) rfl rfl trivial ?_
     refine JO_assign (v := .int .u32 (ixor .u32 (ishr .u32 t5_ 1) (iand .u32 3988292384 (IntKind.wrap .u32 (0 - (iand .u32 t5_ 1)))))) rfl ?_
     refine JO_nil ?_
     refine J_region (by decide) ?_
     refine JO_iop (op := .add) (k := .i64) (a := t20_) (b := 1) h20 rfl trivial ?_
     refine JO_move (v := .int .i64 (IntKind.wrap .i64 (t20_ + 1))) rfl ?_
     refine JO_nil ?_
     exact ⟨(ixor .u32 (ishr .u32 t5_ 1) (iand .u32 3988292384 (IntKind.wrap .u32 (0 - (iand .u32 t5_ 1)))), IntKind.wrap .i64 (t20_ + 1)), _, ⟨hD, rfl, h10, h11, h12, rfl, hP⟩, H⟩
    ·
     replace H := H.2 hc_
     clear hc_
     refine J_exit ?_
     exact (show F282_3 t10_ t11_ K X next2 _ _ from ⟨t5_, t12_, _, hD, h5, h10, h11, h12, hP, H⟩)
   ·
    rintro e Mp ⟨t5_, t12_, M, hD, h5, h10, h11, h12, hP, H⟩
    unfold S282_3 at H
    refine J_region (by decide) ?_
    refine JO_iop (op := .add) (k := .i64) (a := t12_) (b := 1) h12 rfl trivial ?_
    refine JO_move (v := .int .i64 (IntKind.wrap .i64 (t12_ + 1))) rfl ?_
    refine JO_nil ?_
    exact ⟨(t5_, IntKind.wrap .i64 (t12_ + 1)), _, ⟨hD, h5, h10, h11, rfl, hP⟩, H⟩
  ·
   replace H := H.2 hc_
   clear hc_
   refine J_exit ?_
   exact (show F282_1 K X _ _ from ⟨t5_, _, hD, h5, hP, H⟩)
 ·
  rintro e Mp ⟨t5_, M, hD, h5, hP, H⟩
  unfold S282_1 at H
  refine J_seq ?_
  refine J_region (by decide) ?_
  refine JO_move (v := .int .u32 t5_) h5 ?_
  refine JO_xor1 (k := .u32) (a := t5_) rfl ?_
  refine JO_assign (v := .int .u32 (inot .u32 t5_)) rfl ?_
  refine JO_nil ?_
  exact J_ret (kret (pan := X)  hD (fun _ _ hb => hP.sub hb) (resOk (rs := [.tmp 4]) (vs := [.int .u32 (inot .u32 t5_)]) rfl ⟨item_tmp rfl, trivial⟩) ⟨inot .u32 t5_, rfl, H⟩)

/-! (*brazier/digest.Hash).Add -/
def S328 (t0 : Option PA) (t1 : Sl) (K : Mem → Prop) (X : List PanicEntry → Mem → Prop) : Mem → Prop :=
 ite' t0.isNone (K) (nn t0 fun a1 => ldI .i64 (a1.1, a1.2 + 9) fun t12_3 => st (a1.1, a1.2 + 9) (.int .i64 (IntKind.wrap .i64 (t12_3 + (t1.n : Int)))) <| ldL (a1.1, a1.2 + 8) fun t21_6 => ldL (a1.1, a1.2 + 8) fun t25_8 => ldL (a1.1, a1.2 + 8) fun t30_10 => must (0 ≤ (0 : Int) ∧ (0 : Int) ≤ (t25_8.n : Int) ∧ (t25_8.n : Int) ≤ (t30_10.n : Int) ∧ (t30_10.n : Int) ≤ (t21_6.c : Int)) <| appS 5 1 1 [.int .u8 0] (Sl.cut t21_6 1 (0 : Int) (t25_8.n : Int) (t30_10.n : Int)) t1 fun x13 => ldI .u32 (a1.1, a1.2) fun t39_0 => ldI .u32 (a1.1, a1.2 + 1) fun t39_1 => ldI .u32 (a1.1, a1.2 + 2) fun t39_2 => ldI .u32 (a1.1, a1.2 + 3) fun t39_3 => ldI .u32 (a1.1, a1.2 + 4) fun t39_4 => ldI .u32 (a1.1, a1.2 + 5) fun t39_5 => ldI .u32 (a1.1, a1.2 + 6) fun t39_6 => ldI .u32 (a1.1, a1.2 + 7) fun t39_7 => call 364 [.agg #[.int .u32 t39_0, .int .u32 t39_1, .int .u32 t39_2, .int .u32 t39_3, .int .u32 t39_4, .int .u32 t39_5, .int .u32 t39_6, .int .u32 t39_7], Sl.v x13] X fun v_ M => ∃ (r22_0_0 : Int) (r22_0_1 : Int) (r22_0_2 : Int) (r22_0_3 : Int) (r22_0_4 : Int) (r22_0_5 : Int) (r22_0_6 : Int) (r22_0_7 : Int) (r22_1 : Sl), v_ = .tuple #[.agg #[.int .u32 r22_0_0, .int .u32 r22_0_1, .int .u32 r22_0_2, .int .u32 r22_0_3, .int .u32 r22_0_4, .int .u32 r22_0_5, .int .u32 r22_0_6, .int .u32 r22_0_7], Sl.v r22_1] ∧ ( sts a1 [.int .u32 r22_0_0, .int .u32 r22_0_1, .int .u32 r22_0_2, .int .u32 r22_0_3, .int .u32 r22_0_4, .int .u32 r22_0_5, .int .u32 r22_0_6, .int .u32 r22_0_7] <| st (a1.1, a1.2 + 8) (Sl.v r22_1) <| K) M)
theorem br328 {t0 : Option PA} {t1 : Sl} {K : Mem → Prop} {X : List PanicEntry → Mem → Prop} {M : Mem} (H : S328 t0 t1 K X M) :
  Spec Tryz.prog 328 #[ptr t0, Sl.v t1] M (fun _ M => K M) X := by
 refine spec_of_J (args := [ptr t0, Sl.v t1]) Tryz.func328 rfl Tryz.ntmps328 (Nat.le_of_ble_eq_true rfl) ?_
 have hD : (⟨fun i => ([ptr t0, Sl.v t1] : List Value).getD i undef, []⟩ : Env).D = [] := rfl
 have hP := Pv.nil M
 have hX := @kx_of Tryz.prog Tryz.f328 (fun _ M => K M) X
 unfold S328 at H
 refine J_seq ?_
 refine J_seq ?_
 refine J_region (by decide) ?_
 refine JO_move (v := ptr t0) rfl ?_
 refine JO_eqlNil (p := t0) ip_405 rfl rfl ?_
 refine JO_nil ?_
 refine J_cond (t := t0.isNone) rfl (fun hc_ => ?_) (fun hc_ => ?_)
 ·
  replace H := H.1 hc_
  clear hc_
  exact J_ret (kret (pan := X)  hD (fun _ _ hb => hP.sub hb) (resOk (rs := []) (vs := []) rfl trivial) H)
 ·
  replace H := H.2 hc_
  clear hc_
  refine J_skip ?_
  refine J_seq ?_
  refine J_region (by decide) ?_
  refine JO_move (v := ptr t0) rfl ?_
  obtain ⟨a1, g2, H⟩ := H
  refine JO_nilCheck (p := a1) (tr1 (rfl : _ = ptr t0) (congrArg ptr g2)) ?_
  refine JO_fieldAddr (p := a1) fo_434_2 rfl ?_
  obtain ⟨t12_3, g4, H⟩ := H
  refine JO_load (p := (a1.1, a1.2 + 9)) (v := .int .i64 t12_3) na_3 rfl (hP.cel g4) ?_
  refine JO_move (v := Sl.v t1) rfl ?_
  refine JO_len (s := t1) is_32 rfl ?_
  refine JO_iop (op := .add) (k := .i64) (a := t12_3) (b := (t1.n : Int)) rfl rfl trivial ?_
  refine JO_nilCheck (p := a1) (tr1 (rfl : _ = ptr t0) (congrArg ptr g2)) ?_
  refine JO_fieldAddr (p := a1) fo_434_2 rfl ?_
  obtain ⟨g5, H⟩ := H
  refine JO_store (p := (a1.1, a1.2 + 9)) (v := .int .i64 (IntKind.wrap .i64 (t12_3 + (t1.n : Int)))) sz_3 rfl rfl rfl (hP.wr g5) ?_
  replace hP := hP.sto g5 (.int .i64 (IntKind.wrap .i64 (t12_3 + (t1.n : Int))))
  refine JO_nil ?_
  refine J_seq ?_
  refine J_draw [0, 0, 0, 1, 0, 0, 0, 1, 0, 0, 0, 0, 1, 0, 0, 0, 3, 0] (.cho 0 (.cho 1 (.cho 2 (.cho 4 (.cho 5 (.cho 6 (.cho 9 (.cho 10 (.cho 11 (.cho 15 (.cho 3 (.cho 7 (.cho 8 (.cho 12 (.cho 13 (.cho 14 (.cho 16 (.cho 17 .done .none) .none) .none) .none) .none) .none) .none) .none) .none) .none) .none) .none) .none) .none) .none) .none) .none) .none) rfl (by kernel_rfl) ?_
  refine JE_one ?_
  refine ST0 (fun _ h => by cases h) (fun w => OV_move (v := ptr t0) rfl w) ?_
  refine JE_one ?_
  refine ST0 (fun _ h => by cases h) (fun w => OV_nilCheck (p := a1) (by exact tr1 (rfl : _ = ptr t0) (congrArg ptr g2)) w) ?_
  refine JE_one ?_
  refine ST0 (fun _ h => by cases h) (fun w => OV_fieldAddr (p := a1) fo_434_1 rfl w) ?_
  refine JE_one ?_
  refine ST0 (fun _ h => by cases h) (fun w => OV_move (v := ptr t0) rfl w) ?_
  refine JE_one ?_
  refine ST0 (fun _ h => by cases h) (fun w => OV_nilCheck (p := a1) (by exact tr1 (rfl : _ = ptr t0) (congrArg ptr g2)) w) ?_
  refine JE_one ?_
  refine ST0 (fun _ h => by cases h) (fun w => OV_fieldAddr (p := a1) fo_434_1 rfl w) ?_
  refine JE_one ?_
  refine ST0 (fun _ h => by cases h) (fun w => OV_move (v := ptr t0) rfl w) ?_
  refine JE_one ?_
  refine ST0 (fun _ h => by cases h) (fun w => OV_nilCheck (p := a1) (by exact tr1 (rfl : _ = ptr t0) (congrArg ptr g2)) w) ?_
  refine JE_one ?_
  refine ST0 (fun _ h => by cases h) (fun w => OV_fieldAddr (p := a1) fo_434_1 rfl w) ?_
  refine JE_one ?_
  refine ST0 (fun _ h => by cases h) (fun w => OV_move (v := Sl.v t1) rfl w) ?_
  refine JE_one ?_
  obtain ⟨t21_6, g7, H⟩ := H
  refine ST1 (fun _ h => by cases h) (fun w hs => OV_load (p := (a1.1, a1.2 + 8)) (v := Sl.v t21_6) na_32 rfl (hP.cel g7) w hs) ?_
  refine JE_one ?_
  obtain ⟨t25_8, g9, H⟩ := H
  refine ST1 (fun _ h => by cases h) (fun w hs => OV_load (p := (a1.1, a1.2 + 8)) (v := Sl.v t25_8) na_32 rfl (hP.cel g9) w hs) ?_
  refine JE_one ?_
  refine ST0 (fun _ h => by cases h) (fun w => OV_len (s := t25_8) is_32 rfl w) ?_
  refine JE_one ?_
  obtain ⟨t30_10, g11, H⟩ := H
  refine ST1 (fun _ h => by cases h) (fun w hs => OV_load (p := (a1.1, a1.2 + 8)) (v := Sl.v t30_10) na_32 rfl (hP.cel g11) w hs) ?_
  refine JE_one ?_
  refine ST0 (fun _ h => by cases h) (fun w => OV_len (s := t30_10) is_32 rfl w) ?_
  refine JE_one ?_
  obtain ⟨g12, H⟩ := H
  refine ST0 (fun _ h => by cases h) (fun w => OV_slice (s := t21_6) (l := (0 : Int)) (h := (t25_8.n : Int)) (m := (t30_10.n : Int)) es_32 rfl (by exact ⟨_, rfl⟩) (by exact ⟨_, rfl⟩) (by exact rfl) g12.1 g12.2.1 (fun _ => g12.2.2.1) g12.2.2.2 (by simp) w) ?_
  refine JE_one ?_
  refine ST3 ?_
  refine JO_loud ((hP.opJ (OpJ_app (s := Sl.cut t21_6 1 (0 : Int) (t25_8.n : Int) (t30_10.n : Int)) (z := t1) ul_32 sb_5 zc_5 rfl rfl H)).mono (fun _ _ h => h) (fun _ _ ⟨_, _, f⟩ => f.elim)) ?_
  rintro _ Mp ⟨M, hP, x13, rfl, H⟩
  refine Kd_nil ?_
  refine JE_one ?_
  refine ST0 (fun _ h => by cases h) (fun w => OV_assign (v := Sl.v x13) rfl w) ?_
  refine JE_done ?_
  refine J_seq ?_
  refine J_region (by decide) ?_
  refine JO_move (v := ptr t0) rfl ?_
  refine JO_nilCheck (p := a1) (tr1 (rfl : _ = ptr t0) (congrArg ptr g2)) ?_
  refine JO_fieldAddr (p := a1) fo_434_0 rfl ?_
  obtain ⟨t39_0, g14, H⟩ := H
  obtain ⟨t39_1, g15, H⟩ := H
  obtain ⟨t39_2, g16, H⟩ := H
  obtain ⟨t39_3, g17, H⟩ := H
  obtain ⟨t39_4, g18, H⟩ := H
  obtain ⟨t39_5, g19, H⟩ := H
  obtain ⟨t39_6, g20, H⟩ := H
  obtain ⟨t39_7, g21, H⟩ := H
  refine JO_loadAgg (p := a1) (cs := [.int .u32 t39_0, .int .u32 t39_1, .int .u32 t39_2, .int .u32 t39_3, .int .u32 t39_4, .int .u32 t39_5, .int .u32 t39_6, .int .u32 t39_7]) ag_431 (Nat.succ_pos _) rfl (cels_of (b := a1.1) (o := a1.2) ⟨hP.cel g14, hP.cel g15, hP.cel g16, hP.cel g17, hP.cel g18, hP.cel g19, hP.cel g20, hP.cel g21, trivial⟩) ?_
  refine JO_move (v := Sl.v x13) rfl ?_
  refine JO_call Tryz.call364 (vs := [.agg #[.int .u32 t39_0, .int .u32 t39_1, .int .u32 t39_2, .int .u32 t39_3, .int .u32 t39_4, .int .u32 t39_5, .int .u32 t39_6, .int .u32 t39_7], Sl.v x13]) (mc rfl (mc rfl mn)) ((hP.spec H).mono ?_ (fun ch Mp h => hX hD h))
  rintro v Mp ⟨M, hP, r22_0_0, r22_0_1, r22_0_2, r22_0_3, r22_0_4, r22_0_5, r22_0_6, r22_0_7, r22_1, rfl, H⟩
  refine JO_move (v := .tuple #[.agg #[.int .u32 r22_0_0, .int .u32 r22_0_1, .int .u32 r22_0_2, .int .u32 r22_0_3, .int .u32 r22_0_4, .int .u32 r22_0_5, .int .u32 r22_0_6, .int .u32 r22_0_7], Sl.v r22_1]) rfl ?_
  refine JO_extract (vs := #[.agg #[.int .u32 r22_0_0, .int .u32 r22_0_1, .int .u32 r22_0_2, .int .u32 r22_0_3, .int .u32 r22_0_4, .int .u32 r22_0_5, .int .u32 r22_0_6, .int .u32 r22_0_7], Sl.v r22_1]) (v := .agg #[.int .u32 r22_0_0, .int .u32 r22_0_1, .int .u32 r22_0_2, .int .u32 r22_0_3, .int .u32 r22_0_4, .int .u32 r22_0_5, .int .u32 r22_0_6, .int .u32 r22_0_7]) rfl rfl ?_
  refine JO_extract (vs := #[.agg #[.int .u32 r22_0_0, .int .u32 r22_0_1, .int .u32 r22_0_2, .int .u32 r22_0_3, .int .u32 r22_0_4, .int .u32 r22_0_5, .int .u32 r22_0_6, .int .u32 r22_0_7], Sl.v r22_1]) (v := Sl.v r22_1) rfl rfl ?_
  refine JO_alloc (cs := [.int .u32 0, .int .u32 0, .int .u32 0, .int .u32 0, .int .u32 0, .int .u32 0, .int .u32 0, .int .u32 0]) zc_431 ?_
  intro b23 hb
  replace hP : Pv _ [(b23, .cells #[.int .u32 0, .int .u32 0, .int .u32 0, .int .u32 0, .int .u32 0, .int .u32 0, .int .u32 0, .int .u32 0] 431 (0, 0))] _ := hP.box hb _
  refine JO_storeAgg (p := (b23, 0)) (cs := [.int .u32 r22_0_0, .int .u32 r22_0_1, .int .u32 r22_0_2, .int .u32 r22_0_3, .int .u32 r22_0_4, .int .u32 r22_0_5, .int .u32 r22_0_6, .int .u32 r22_0_7]) sz_431 rfl rfl (all_cons rfl (all_cons rfl (all_cons rfl (all_cons rfl (all_cons rfl (all_cons rfl (all_cons rfl (all_cons rfl all_nil)))))))) (fun j hj => wrOf (hP.get 0 rfl) (by simp at hj ⊢; omega) (by simp)) ?_
  replace hP : Pv _ [(b23, .cells #[.int .u32 r22_0_0, .int .u32 r22_0_1, .int .u32 r22_0_2, .int .u32 r22_0_3, .int .u32 r22_0_4, .int .u32 r22_0_5, .int .u32 r22_0_6, .int .u32 r22_0_7] 431 (0, 0))] _ := Pv.stosL (i := 0) [.int .u32 r22_0_0, .int .u32 r22_0_1, .int .u32 r22_0_2, .int .u32 r22_0_3, .int .u32 r22_0_4, .int .u32 r22_0_5, .int .u32 r22_0_6, .int .u32 r22_0_7] [.int .u32 0, .int .u32 0, .int .u32 0, .int .u32 0, .int .u32 0, .int .u32 0, .int .u32 0, .int .u32 0] 0 _ _ hP rfl
  refine JO_assign (v := Sl.v r22_1) rfl ?_
  refine JO_nil ?_
  refine J_region (by decide) ?_
  refine JO_move (v := ptr t0) rfl ?_
  refine JO_move (v := ptr t0) rfl ?_
  refine JO_loadAgg (p := (b23, 0)) (cs := [.int .u32 r22_0_0, .int .u32 r22_0_1, .int .u32 r22_0_2, .int .u32 r22_0_3, .int .u32 r22_0_4, .int .u32 r22_0_5, .int .u32 r22_0_6, .int .u32 r22_0_7]) ag_431 (Nat.succ_pos _) rfl (cels_of (b := b23) (o := 0) ⟨celOf (hP.get 0 rfl) rfl, celOf (hP.get 0 rfl) rfl, celOf (hP.get 0 rfl) rfl, celOf (hP.get 0 rfl) rfl, celOf (hP.get 0 rfl) rfl, celOf (hP.get 0 rfl) rfl, celOf (hP.get 0 rfl) rfl, celOf (hP.get 0 rfl) rfl, trivial⟩) ?_
  refine JO_move (v := Sl.v r22_1) rfl ?_
  refine JO_nilCheck (p := a1) (tr1 (rfl : _ = ptr t0) (congrArg ptr g2)) ?_
  refine JO_fieldAddr (p := a1) fo_434_0 rfl ?_
  obtain ⟨g24, H⟩ := H
  refine JO_storeAgg (p := a1) (cs := [.int .u32 r22_0_0, .int .u32 r22_0_1, .int .u32 r22_0_2, .int .u32 r22_0_3, .int .u32 r22_0_4, .int .u32 r22_0_5, .int .u32 r22_0_6, .int .u32 r22_0_7]) sz_431 rfl rfl (all_cons rfl (all_cons rfl (all_cons rfl (all_cons rfl (all_cons rfl (all_cons rfl (all_cons rfl (all_cons rfl all_nil)))))))) (hP.wrs g24) ?_
  replace hP := hP.stos [.int .u32 r22_0_0, .int .u32 r22_0_1, .int .u32 r22_0_2, .int .u32 r22_0_3, .int .u32 r22_0_4, .int .u32 r22_0_5, .int .u32 r22_0_6, .int .u32 r22_0_7] g24
  refine JO_nilCheck (p := a1) (tr1 (rfl : _ = ptr t0) (congrArg ptr g2)) ?_
  refine JO_fieldAddr (p := a1) fo_434_1 rfl ?_
  obtain ⟨g25, H⟩ := H
  refine JO_store (p := (a1.1, a1.2 + 8)) (v := Sl.v r22_1) sz_32 rfl rfl rfl (hP.wr g25) ?_
  replace hP := hP.sto g25 (Sl.v r22_1)
  refine JO_nil ?_
  exact (kend (pan := X)  hD (fun _ _ hb => hP.sub hb) (resOk (rs := []) (vs := []) rfl trivial) H)

/-! slices.Delete[[]int,int] -/
def S332 (t0 : Sl) (t1 : Int) (t2 : Int) (K : Sl → Mem → Prop) (X : List PanicEntry → Mem → Prop) : Mem → Prop :=
 must (0 ≤ t1 ∧ t1 ≤ t2 ∧ t2 ≤ (t0.n : Int) ∧ (t0.n : Int) ≤ (t0.c : Int)) <| ite' (t1 == t2) (K t0) (must (0 ≤ (0 : Int) ∧ (0 : Int) ≤ t1 ∧ t1 ≤ (t0.c : Int) ∧ (t0.c : Int) ≤ (t0.c : Int)) <| must (0 ≤ t2 ∧ t2 ≤ (t0.n : Int) ∧ True ∧ (t0.c : Int) ≤ (t0.c : Int)) <| appS 3 1 8 [.int .i64 0] (Sl.cut t0 1 (0 : Int) t1 (t0.c : Int)) (Sl.cut t0 1 t2 (t0.n : Int) (t0.c : Int)) fun x4 => must (0 ≤ (x4.n : Int) ∧ (x4.n : Int) ≤ (t0.n : Int) ∧ (t0.n : Int) ≤ (x4.c : Int) ∧ (x4.c : Int) ≤ (x4.c : Int)) <| clr [.int .i64 0] (Sl.cut x4 1 (x4.n : Int) (t0.n : Int) (x4.c : Int)) <| K x4)
theorem br332 {t0 : Sl} {t1 : Int} {t2 : Int} {K : Sl → Mem → Prop} {X : List PanicEntry → Mem → Prop} {M : Mem} (H : S332 t0 t1 t2 K X M) :
  Spec Tryz.prog 332 #[Sl.v t0, .int .i64 t1, .int .i64 t2] M (fun v_ M => ∃ (r0 : Sl), v_ = Sl.v r0 ∧ K r0 M) X := by
 refine spec_of_J (args := [Sl.v t0, .int .i64 t1, .int .i64 t2]) Tryz.func332 rfl Tryz.ntmps332 (Nat.le_of_ble_eq_true rfl) ?_
 have hD : (⟨fun i => ([Sl.v t0, .int .i64 t1, .int .i64 t2] : List Value).getD i undef, []⟩ : Env).D = [] := rfl
 have hP := Pv.nil M
 have hX := @kx_of Tryz.prog Tryz.f332 (fun v_ M => ∃ (r0 : Sl), v_ = Sl.v r0 ∧ K r0 M) X
 unfold S332 at H
 refine J_seq ?_
 refine J_region (by decide) ?_
 refine JO_assign (v := Sl.v (⟨none, 0, 0⟩ : Sl)) rfl ?_
 refine JO_nil ?_
 refine J_seq ?_
 refine J_region (by decide) ?_
 refine JO_move (v := Sl.v t0) rfl ?_
 refine JO_move (v := .int .i64 t1) rfl ?_
 refine JO_move (v := .int .i64 t2) rfl ?_
 refine JO_move (v := Sl.v t0) rfl ?_
 refine JO_len (s := t0) is_109 rfl ?_
 obtain ⟨g1, H⟩ := H
 refine JO_slice (s := t0) (l := t1) (h := t2) (m := (t0.n : Int)) es_109 rfl ⟨_, rfl⟩ ⟨_, rfl⟩ ⟨_, rfl⟩ g1.1 g1.2.1 (fun _ => g1.2.2.1) g1.2.2.2 (by simp) ?_
 refine JO_nil ?_
 refine J_seq ?_
 refine J_seq ?_
 refine J_region (by decide) ?_
 refine JO_move (v := .int .i64 t1) rfl ?_
 refine JO_move (v := .int .i64 t2) rfl ?_
 refine JO_iop (op := .eql) (k := .i64) (a := t1) (b := t2) rfl rfl trivial ?_
 refine JO_nil ?_
 refine J_cond (t := t1 == t2) rfl (fun hc_ => ?_) (fun hc_ => ?_)
 ·
  replace H := H.1 hc_
  clear hc_
  refine J_seq ?_
  refine J_region (by decide) ?_
  refine JO_move (v := Sl.v t0) rfl ?_
  refine JO_assign (v := Sl.v t0) rfl ?_
  refine JO_nil ?_
  exact J_ret (kret (pan := X)  hD (fun _ _ hb => hP.sub hb) (resOk (rs := [.tmp 6]) (vs := [Sl.v t0]) rfl ⟨item_tmp rfl, trivial⟩) ⟨t0, rfl, H⟩)
 ·
  replace H := H.2 hc_
  clear hc_
  refine J_skip ?_
  refine J_seq ?_
  refine J_region (by decide) ?_
  refine JO_move (v := Sl.v t0) rfl ?_
  refine JO_len (s := t0) is_109 rfl ?_
  refine JO_assign (v := .int .i64 (t0.n : Int)) rfl ?_
  refine JO_nil ?_
  refine J_seq ?_
  refine J_draw [0, 0, 0, 0, 0, 0, 3, 0] (.cho 0 (.cho 1 (.cho 2 (.cho 3 (.cho 4 (.cho 5 (.cho 6 (.cho 7 .done .none) .none) .none) .none) .none) .none) .none) .none) rfl (by kernel_rfl) ?_
  refine JE_one ?_
  refine ST0 (fun _ h => by cases h) (fun w => OV_move (v := Sl.v t0) rfl w) ?_
  refine JE_one ?_
  refine ST0 (fun _ h => by cases h) (fun w => OV_move (v := .int .i64 t1) rfl w) ?_
  refine JE_one ?_
  obtain ⟨g2, H⟩ := H
  refine ST0 (fun _ h => by cases h) (fun w => OV_slice (s := t0) (l := (0 : Int)) (h := t1) (m := (t0.c : Int)) es_109 rfl (by exact rfl) (by exact ⟨_, rfl⟩) (by exact rfl) g2.1 g2.2.1 (fun _ => g2.2.2.1) g2.2.2.2 (by simp) w) ?_
  refine JE_one ?_
  refine ST0 (fun _ h => by cases h) (fun w => OV_move (v := Sl.v t0) rfl w) ?_
  refine JE_one ?_
  refine ST0 (fun _ h => by cases h) (fun w => OV_move (v := .int .i64 t2) rfl w) ?_
  refine JE_one ?_
  obtain ⟨g3, H⟩ := H
  refine ST0 (fun _ h => by cases h) (fun w => OV_slice (s := t0) (l := t2) (h := (t0.n : Int)) (m := (t0.c : Int)) es_109 rfl (by exact rfl) (by exact rfl) (by exact ⟨_, rfl⟩) g3.1 g3.2.1 (by simp) g3.2.2.2 (by simp) w) ?_
  refine JE_one ?_
  refine ST3 ?_
  refine JO_loud ((hP.opJ (OpJ_app (s := Sl.cut t0 1 (0 : Int) t1 (t0.c : Int)) (z := Sl.cut t0 1 t2 (t0.n : Int) (t0.c : Int)) ul_109 sb_3 zc_3 rfl rfl H)).mono (fun _ _ h => h) (fun _ _ ⟨_, _, f⟩ => f.elim)) ?_
  rintro _ Mp ⟨M, hP, x4, rfl, H⟩
  refine Kd_nil ?_
  refine JE_one ?_
  refine ST0 (fun _ h => by cases h) (fun w => OV_assign (v := Sl.v x4) rfl w) ?_
  refine JE_done ?_
  refine J_seq ?_
  refine J_region (by decide) ?_
  refine JO_move (v := Sl.v x4) rfl ?_
  refine JO_move (v := Sl.v x4) rfl ?_
  refine JO_len (s := x4) is_109 rfl ?_
  refine JO_move (v := .int .i64 (t0.n : Int)) rfl ?_
  obtain ⟨g5, H⟩ := H
  refine JO_slice (s := x4) (l := (x4.n : Int)) (h := (t0.n : Int)) (m := (x4.c : Int)) es_109 rfl rfl ⟨_, rfl⟩ ⟨_, rfl⟩ g5.1 g5.2.1 (fun _ => g5.2.2.1) g5.2.2.2 (by simp) ?_
  refine JO_loud ((hP.opJ (OpJ_clr (s := Sl.cut x4 1 (x4.n : Int) (t0.n : Int) (x4.c : Int)) ul_109 zc_3 rfl H)).mono (fun _ _ h => h) (fun _ _ ⟨_, _, f⟩ => f.elim)) ?_
  rintro _ Mp ⟨M, hP, H⟩
  refine JO_nil ?_
  refine J_seq ?_
  refine J_region (by decide) ?_
  refine JO_move (v := Sl.v x4) rfl ?_
  refine JO_assign (v := Sl.v x4) rfl ?_
  refine JO_nil ?_
  exact J_ret (kret (pan := X)  hD (fun _ _ hb => hP.sub hb) (resOk (rs := [.tmp 6]) (vs := [Sl.v x4]) rfl ⟨item_tmp rfl, trivial⟩) ⟨x4, rfl, H⟩)

/-! slices.isNaN[string] -/
def S338 (t0 : ByteArray) (K : Bool → Mem → Prop) (X : List PanicEntry → Mem → Prop) : Mem → Prop :=
 K (!seq t0 t0)
theorem br338 {t0 : ByteArray} {K : Bool → Mem → Prop} {X : List PanicEntry → Mem → Prop} {M : Mem} (H : S338 t0 K X M) :
  Spec Tryz.prog 338 #[.string t0] M (fun v_ M => ∃ (r0 : Bool), v_ = .bool r0 ∧ K r0 M) X := by
 refine spec_of_J (args := [.string t0]) Tryz.func338 rfl Tryz.ntmps338 (Nat.le_of_ble_eq_true rfl) ?_
 have hD : (⟨fun i => ([.string t0] : List Value).getD i undef, []⟩ : Env).D = [] := rfl
 have hP := Pv.nil M
 have hX := @kx_of Tryz.prog Tryz.f338 (fun v_ M => ∃ (r0 : Bool), v_ = .bool r0 ∧ K r0 M) X
 unfold S338 at H
 refine J_seq ?_
 refine J_region (by decide) ?_
 refine JO_assign (v := .bool false) rfl ?_
 refine JO_nil ?_
 refine J_seq ?_
 refine J_region (by decide) ?_
 refine JO_move (v := .string t0) rfl ?_
 refine JO_move (v := .string t0) rfl ?_
 refine JO_scmp (op := .neq) (a := t0) (b := t0) (v := .bool (!seq t0 t0)) rfl rfl rfl ?_
 refine JO_assign (v := .bool (!seq t0 t0)) rfl ?_
 refine JO_nil ?_
 exact J_ret (kret (pan := X)  hD (fun _ _ hb => hP.sub hb) (resOk (rs := [.tmp 2]) (vs := [.bool (!seq t0 t0)]) rfl ⟨item_tmp rfl, trivial⟩) ⟨!seq t0 t0, rfl, H⟩)

/-! slices.rotateLeft[int] -/
/-! slices.Reverse[[]int,int] -/
end Go.Proofs.YtdndpmlapcbjaaaGreat
